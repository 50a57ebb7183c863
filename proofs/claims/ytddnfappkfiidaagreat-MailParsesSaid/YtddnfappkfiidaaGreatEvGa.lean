/- Printed by wip/tools/evgen.py. -/
import Derived.Test.YtddnfappkfiidaaGreatEv32
import Derived.Test.YtddnfappkfiidaaGreatShelf
import Derived.Test.YtddnfappkfiidaaGreatEvE
import Derived.Test.YtddnfappkfiidaaGreatProg
import Derived.KernelRfl
set_option maxRecDepth 100000
set_option maxHeartbeats 2000000
set_option linter.unusedVariables false
namespace Go.Proofs.YtddnfappkfiidaaGreat.Ev
open Go
noncomputable section
@[reducible] def vI : LSh := .v (.int .i64)
@[reducible] def vB : LSh := .v .bool
@[reducible] def vS : LSh := .v .str
@[reducible] def vE : LSh := .v .err
@[reducible] def v8 : LSh := .v (.int .u8)
def rows0 : List (TypeId × Row) := [
  (2, ⟨.int .i64, 1, 8, (.int .i64), [AV.val (.int .i64) (0 : Int)], none⟩),
  (3, ⟨.int .i64, 1, 8, (.int .i64), [AV.val (.int .i64) (0 : Int)], none⟩),
  (4, ⟨.bool, 1, 1, .bool, [AV.val .bool false], none⟩),
  (5, ⟨.int .u8, 1, 1, (.int .u8), [AV.val (.int .u8) (0 : Int)], none⟩),
  (9, ⟨.str, 1, 16, .str, [AV.val .str ByteArray.empty], none⟩),
  (22, ⟨.slice 130, 1, 24, (.sl (.pair (.int .i64) (.int .i64))), [AV.nilS], none⟩),
  (24, ⟨.struct [(0, 1, false), (1, 1, false), (2, 1, false)], 3, 40, (.pair (.sl (.pair (.int .i64) (.int .i64))) (.pair (.int .i64) (.int .i64))), [AV.nilS, AV.val (.int .i64) (0 : Int), AV.val (.int .i64) (0 : Int)], none⟩),
  (28, ⟨.struct [(0, 1, false), (1, 1, false), (2, 1, false), (3, 1, false), (4, 1, false), (5, 1, false), (6, 1, false), (7, 1, false)], 8, 64, (.pair (.int .i64) (.pair (.int .i64) (.pair (.int .i64) (.pair (.int .i64) (.pair (.int .i64) (.pair (.int .i64) (.pair (.int .i64) (.int .i64)))))))), [AV.val (.int .i64) (0 : Int), AV.val (.int .i64) (0 : Int), AV.val (.int .i64) (0 : Int), AV.val (.int .i64) (0 : Int), AV.val (.int .i64) (0 : Int), AV.val (.int .i64) (0 : Int), AV.val (.int .i64) (0 : Int), AV.val (.int .i64) (0 : Int)], some [.int .i64, .int .i64, .int .i64, .int .i64, .int .i64, .int .i64, .int .i64, .int .i64]⟩),
  (30, ⟨.iface, 1, 16, .err, [AV.val .err (none : Option Int)], none⟩),
  (33, ⟨.struct [(0, 1, false), (1, 1, false), (2, 1, false), (3, 1, false), (4, 1, false), (5, 1, false), (6, 1, false), (7, 1, false)], 8, 64, (.pair (.int .i64) (.pair (.int .i64) (.pair (.int .i64) (.pair (.int .i64) (.pair (.int .i64) (.pair (.int .i64) (.pair (.int .i64) (.int .i64)))))))), [AV.val (.int .i64) (0 : Int), AV.val (.int .i64) (0 : Int), AV.val (.int .i64) (0 : Int), AV.val (.int .i64) (0 : Int), AV.val (.int .i64) (0 : Int), AV.val (.int .i64) (0 : Int), AV.val (.int .i64) (0 : Int), AV.val (.int .i64) (0 : Int)], some [.int .i64, .int .i64, .int .i64, .int .i64, .int .i64, .int .i64, .int .i64, .int .i64]⟩),
  (38, ⟨.ptr, 1, 8, (.nptr (.pair (.sl (.pair (.int .i64) (.int .i64))) (.pair (.int .i64) (.int .i64)))), [AV.nilP], none⟩),
  (39, ⟨.slice 121, 1, 24, (.sl (.pair (.int .i64) (.int .i64))), [AV.nilS], none⟩),
  (41, ⟨.struct [(0, 1, false), (1, 1, false), (2, 1, false)], 3, 40, (.pair (.sl (.pair (.int .i64) (.int .i64))) (.pair (.int .i64) (.int .i64))), [AV.nilS, AV.val (.int .i64) (0 : Int), AV.val (.int .i64) (0 : Int)], none⟩),
  (87, ⟨.slice 5, 1, 24, (.sl (.int .u8)), [AV.nilS], none⟩),
  (92, ⟨.ptr, 1, 8, (.nptr (.pair .str (.pair (.int .i64) .err))), [AV.nilP], none⟩),
  (95, ⟨.struct [(0, 1, false), (1, 1, false)], 2, 24, (.pair (.nptr (.pair .str (.pair (.int .i64) .err))) .str), [AV.nilP, AV.val .str ByteArray.empty], none⟩),
  (100, ⟨.int .i64, 1, 8, (.int .i64), [AV.val (.int .i64) (0 : Int)], none⟩),
  (107, ⟨.slice 9, 1, 24, (.sl .str), [AV.nilS], none⟩),
  (108, ⟨.slice 4, 1, 24, (.sl .bool), [AV.nilS], none⟩),
  (121, ⟨.struct [(0, 1, false), (1, 1, false)], 2, 16, (.pair (.int .i64) (.int .i64)), [AV.val (.int .i64) (0 : Int), AV.val (.int .i64) (0 : Int)], some [.int .i64, .int .i64]⟩),
  (130, ⟨.struct [(0, 1, false), (1, 1, false)], 2, 16, (.pair (.int .i64) (.int .i64)), [AV.val (.int .i64) (0 : Int), AV.val (.int .i64) (0 : Int)], some [.int .i64, .int .i64]⟩),
  (137, ⟨.struct [(0, 1, false), (1, 1, false), (2, 1, false)], 3, 40, (.pair (.sl (.pair (.int .i64) (.int .i64))) (.pair (.int .i64) (.int .i64))), [AV.nilS, AV.val (.int .i64) (0 : Int), AV.val (.int .i64) (0 : Int)], none⟩),
  (142, ⟨.struct [(0, 1, false), (1, 1, false)], 2, 40, (.pair (.sl (.int .u8)) .err), [AV.nilS, AV.val .err (none : Option Int)], none⟩),
  (166, ⟨.int .u64, 1, 8, (.int .u64), [AV.val (.int .u64) (0 : Int)], none⟩),
  (176, ⟨.struct [(0, 1, false), (1, 1, false), (2, 1, false)], 3, 40, (.pair .str (.pair (.int .i64) .err)), [AV.val .str ByteArray.empty, AV.val (.int .i64) (0 : Int), AV.val .err (none : Option Int)], none⟩),
  (185, ⟨.slice 3, 1, 24, (.sl (.int .i64)), [AV.nilS], none⟩),
  (215, ⟨.int .u64, 1, 8, (.int .u64), [AV.val (.int .u64) (0 : Int)], none⟩)]
def ET0 : TypeId := 100
def E0 : Env := ⟨rows0, [], ET0, 0, [], [], []⟩
theorem e0_ok : EnvOk Tryz.prog E0 := envOk_rows (by kernel_rfl) (by kernel_rfl) 0
def gd_i64_i64 (l : List (Int × Int)) (i : Int) : (Int × Int) := gd (.pair (.int .i64) (.int .i64)) l i
/- strings.IndexByte -/
@[reducible] def pi_strings_IndexByte : PSh := pi_lib_indexByte
@[reducible] def po_strings_IndexByte : PSh := po_lib_indexByte
def g_strings_IndexByte := lib_indexByte
theorem ok_strings_IndexByte : FnOk Tryz.prog ET0 182 pi_strings_IndexByte po_strings_IndexByte g_strings_IndexByte := lib_indexByte_ok ⟨Tryz.f182, Tryz.func182, by kernel_rfl, by kernel_rfl⟩ Tryz.strings_IndexByte
/- internal/stringslite.Clone -/
@[reducible] def pi_internal_stringslite_Clone : PSh := pi_lib_clone
@[reducible] def po_internal_stringslite_Clone : PSh := po_lib_clone
def g_internal_stringslite_Clone := lib_clone
theorem ok_internal_stringslite_Clone : FnOk Tryz.prog ET0 231 pi_internal_stringslite_Clone po_internal_stringslite_Clone g_internal_stringslite_Clone := lib_clone_ok ⟨Tryz.f231, Tryz.func231, by kernel_rfl, by kernel_rfl⟩ Tryz.stringslite_Clone

@[reducible] def pi_scan_New_string : PSh := ⟨[], [.mk false [vS]]⟩
@[reducible] def po_scan_New_string : PSh := ⟨[.var 176 [vS, vI, vE]], [.mk false [.ref 0 0]]⟩
def f_scan_New_string_m (T : Unit) (d : Unit × ((ByteArray × Unit) × Unit)) : Option (((ByteArray × (Int × ((Option Int) × Unit))) × Unit) × (Unit × Unit)) :=
  some (((d.2.1.1, ((0 : Int), ((none : Option Int), ()))), ()), ((), ()))
def g_scan_New_string (d : Unit × ((ByteArray × Unit) × Unit)) : Option (((ByteArray × (Int × ((Option Int) × Unit))) × Unit) × (Unit × Unit)) := f_scan_New_string_m () d
theorem ok_scan_New_string : FnOk Tryz.prog ET0 43 pi_scan_New_string po_scan_New_string g_scan_New_string :=
  fn0 (E := E0) e0_ok (fn := Tryz.f43) Tryz.func43 (by kernel_rfl) (by kernel_rfl) [.tmp 2] (by kernel_rfl) rfl rfl rfl [] fun d => by kernel_rfl

@[reducible] def pi_scan_Scanner_string_going : PSh := ⟨[], [.mk false [.v (.nptr (.pair .str (.pair (.int .i64) .err)))]]⟩
@[reducible] def po_scan_Scanner_string_going : PSh := ⟨[], [.mk false [vB]]⟩
def f_scan_Scanner_string_going_m (T : Unit) (d : Unit × (((Option (ByteArray × (Int × (Option Int)))) × Unit) × Unit)) : Option (Unit × ((Bool × Unit) × Unit)) :=
  let x1 : Bool := (!d.2.1.1.isNone)
  bif x1 then (
  d.2.1.1.bind fun x2 =>
  some ((), ((x2.2.2.isNone, ()), ())))
  else (
  some ((), ((false, ()), ())))
def g_scan_Scanner_string_going (d : Unit × (((Option (ByteArray × (Int × (Option Int)))) × Unit) × Unit)) : Option (Unit × ((Bool × Unit) × Unit)) := f_scan_Scanner_string_going_m () d
theorem ok_scan_Scanner_string_going : FnOk Tryz.prog ET0 120 pi_scan_Scanner_string_going po_scan_Scanner_string_going g_scan_Scanner_string_going :=
  fn0 (E := E0) e0_ok (fn := Tryz.f120) Tryz.func120 (by kernel_rfl) (by kernel_rfl) [.tmp 2] (by kernel_rfl) rfl rfl rfl [] fun d => by kernel_rfl

@[reducible] def pi_scan_Scanner_string_Err : PSh := ⟨[], [.mk false [.v (.nptr (.pair .str (.pair (.int .i64) .err)))]]⟩
@[reducible] def po_scan_Scanner_string_Err : PSh := ⟨[], [.mk false [vE]]⟩
def f_scan_Scanner_string_Err_m (T : Unit) (d : Unit × (((Option (ByteArray × (Int × (Option Int)))) × Unit) × Unit)) : Option (Unit × (((Option Int) × Unit) × Unit)) :=
  bif d.2.1.1.isNone then (
  let x1 : (Option Int) := (some (8 : Int))
  some ((), ((x1, ()), ())))
  else (
  d.2.1.1.bind fun x2 =>
  some ((), ((x2.2.2, ()), ())))
def g_scan_Scanner_string_Err (d : Unit × (((Option (ByteArray × (Int × (Option Int)))) × Unit) × Unit)) : Option (Unit × (((Option Int) × Unit) × Unit)) := f_scan_Scanner_string_Err_m () d
theorem ok_scan_Scanner_string_Err : FnOk Tryz.prog ET0 112 pi_scan_Scanner_string_Err po_scan_Scanner_string_Err g_scan_Scanner_string_Err :=
  fn0 (E := E0) e0_ok (fn := Tryz.f112) Tryz.func112 (by kernel_rfl) (by kernel_rfl) [.tmp 2] (by kernel_rfl) rfl rfl rfl [] fun d => by kernel_rfl

@[reducible] def pi_mail_remark : PSh := ⟨[], [.mk false [vS], .mk false [vI]]⟩
@[reducible] def po_mail_remark : PSh := ⟨[], [.mk false [vI]]⟩
@[reducible] def TT_mail_remark : Type := (((Unit × ((ByteArray × Unit) × ((Int × Unit) × ((Int × Unit) × Unit)))) → Option (Unit × ((Int × Unit) × Unit))) × Unit)
@[reducible] def sh_mail_remark_3 : PSh := ⟨[], [.mk false [vS], .mk false [vI], .any, .any, .any, .mk false [vI], .any, .any, .any, .any, .any, .any, .any, .any, .any, .any, .any, .any, .any, .any, .any, .any, .any, .any, .any, .any, .any, .any, .any, .any, .any]⟩
def f_mail_remark_p3 (T : TT_mail_remark) (d : Unit × ((ByteArray × Unit) × ((Int × Unit) × ((Int × Unit) × Unit)))) : Option (Unit × ((Int × Unit) × Unit)) :=
  let x1 : Int := (d.2.1.1.size : Int)
  let x2 : Bool := (decide (d.2.2.1.1 < x1))
  bif x2 then (
  bif decide ((0 : Int) ≤ d.2.2.1.1) && decide (d.2.2.1.1 < ((d.2.1.1.size : Int) : Int)) then (
  let x3 : Int := (bt d.2.1.1 d.2.2.1.1)
  let x4 : Bool := (x3 == (92 : Int))
  bif x4 then (
  let x5 : Int := (iadd .i64 d.2.2.1.1 (1 : Int))
  let x6 : Bool := (d.2.2.2.1.1 == (0 : Int))
  bif x6 then (
  let x7 : Int := (iadd .i64 x5 (1 : Int))
  some ((), ((x7, ()), ())))
  else (
  let x8 : Int := (iadd .i64 x5 (1 : Int))
  (T.1 ((), (d.2.1, ((x8, ()), d.2.2.2))))))
  else (
  let x9 : Bool := (x3 == (40 : Int))
  bif x9 then (
  let x10 : Int := (iadd .i64 d.2.2.2.1.1 (1 : Int))
  let x11 : Bool := (x10 == (0 : Int))
  bif x11 then (
  let x12 : Int := (iadd .i64 d.2.2.1.1 (1 : Int))
  some ((), ((x12, ()), ())))
  else (
  let x13 : Int := (iadd .i64 d.2.2.1.1 (1 : Int))
  (T.1 ((), (d.2.1, ((x13, ()), ((x10, ()), ())))))))
  else (
  let x14 : Bool := (x3 == (41 : Int))
  bif x14 then (
  let x15 : Int := (isub .i64 d.2.2.2.1.1 (1 : Int))
  let x16 : Bool := (x15 == (0 : Int))
  bif x16 then (
  let x17 : Int := (iadd .i64 d.2.2.1.1 (1 : Int))
  some ((), ((x17, ()), ())))
  else (
  let x18 : Int := (iadd .i64 d.2.2.1.1 (1 : Int))
  (T.1 ((), (d.2.1, ((x18, ()), ((x15, ()), ())))))))
  else (
  let x19 : Bool := (d.2.2.2.1.1 == (0 : Int))
  bif x19 then (
  let x20 : Int := (iadd .i64 d.2.2.1.1 (1 : Int))
  some ((), ((x20, ()), ())))
  else (
  let x21 : Int := (iadd .i64 d.2.2.1.1 (1 : Int))
  (T.1 ((), (d.2.1, ((x21, ()), d.2.2.2)))))))))
  else none)
  else (
  some ((), (((-1 : Int), ()), ())))
def f_mail_remark_t : Nat → TT_mail_remark
  | 0 => (fun _ => none, ())
  | k + 1 => (f_mail_remark_p3 (f_mail_remark_t k), ())
theorem t_mail_remark (k : Nat) : f_mail_remark_t (k + 1) = (f_mail_remark_p3 (f_mail_remark_t k), ()) := rfl
def f_mail_remark_m (T : TT_mail_remark) (d : Unit × ((ByteArray × Unit) × ((Int × Unit) × Unit))) : Option (Unit × ((Int × Unit) × Unit)) :=
  (T.1 ((), (d.2.1, (d.2.2.1, (((0 : Int), ()), ())))))
def c_mail_remark : List Nat := []
def L_mail_remark (k : Nat) : Pts po_mail_remark.den := [(3, ⟨sh_mail_remark_3, (f_mail_remark_t k).1⟩)]
def R_mail_remark (_ : Nat) : PtsR po_mail_remark.den := []
def E_mail_remark : Env := E0
theorem q_mail_remark_3 (k : Nat) (d : sh_mail_remark_3.den) : evAt E_mail_remark (tb (L_mail_remark k) (R_mail_remark k)) c_mail_remark 3 (bodyOf Tryz.f183) 0 (finK E_mail_remark po_mail_remark [.tmp 4]) (ptSt sh_mail_remark_3 d) = f_mail_remark_p3 (f_mail_remark_t k) d := by kernel_rfl
theorem q_mail_remark_m (k : Nat) (d : pi_mail_remark.den) : evCode E_mail_remark (tb (L_mail_remark k) (R_mail_remark k)) c_mail_remark (bodyOf Tryz.f183) 0 (finK E_mail_remark po_mail_remark [.tmp 4]) (startSt pi_mail_remark 31 d) = f_mail_remark_m (f_mail_remark_t k) d := by kernel_rfl
def g_mail_remark (d : Unit × ((ByteArray × Unit) × ((Int × Unit) × Unit))) : Option (Unit × ((Int × Unit) × Unit)) := lim fun k => f_mail_remark_m (f_mail_remark_t k) d
theorem ok_mail_remark : FnOk Tryz.prog ET0 183 pi_mail_remark po_mail_remark g_mail_remark :=
  fn_of_body (E := E_mail_remark) e0_ok (fn := Tryz.f183) Tryz.func183 (by kernel_rfl) (by kernel_rfl) [.tmp 4] (by kernel_rfl) (by kernel_rfl) (by decide) rfl c_mail_remark L_mail_remark R_mail_remark
    (by intro x hx d; simp only [L_mail_remark, List.mem_cons, List.not_mem_nil, or_false] at hx; subst hx; rfl)
    (by intro k x hx d out h; simp only [L_mail_remark, List.mem_cons, List.not_mem_nil, or_false] at hx; subst hx; exact (q_mail_remark_3 k d).trans h)
    (by intro x hx; cases hx)
    (by intro k x hx; cases hx)
    (by intro d out h; obtain ⟨k, hk⟩ := lim_some h; exact ⟨k, (q_mail_remark_m k d).trans hk⟩)

@[reducible] def pi_mail_Gap : PSh := ⟨[], [.mk false [vS], .mk false [vI]]⟩
@[reducible] def po_mail_Gap : PSh := ⟨[], [.mk false [vI]]⟩
@[reducible] def TT_mail_Gap : Type := (((Unit × ((ByteArray × Unit) × ((Int × Unit) × Unit))) → Option (Unit × ((Int × Unit) × Unit))) × Unit)
@[reducible] def sh_mail_Gap_3 : PSh := ⟨[], [.mk false [vS], .mk false [vI], .any, .any, .any, .any, .any, .any, .any, .any, .any, .any, .any, .any, .any, .any, .any, .any, .any, .any, .any, .any, .any, .any, .any, .any, .any, .any, .any, .any, .any, .any]⟩
def f_mail_Gap_p3 (T : TT_mail_Gap) (d : Unit × ((ByteArray × Unit) × ((Int × Unit) × Unit))) : Option (Unit × ((Int × Unit) × Unit)) :=
  let x1 : Bool := (decide (d.2.2.1.1 ≥ (0 : Int)))
  bif x1 then (
  let x2 : Int := (d.2.1.1.size : Int)
  let x3 : Bool := (decide (d.2.2.1.1 < x2))
  bif x3 then (
  bif decide ((0 : Int) ≤ d.2.2.1.1) && decide (d.2.2.1.1 < ((d.2.1.1.size : Int) : Int)) then (
  let x4 : Int := (bt d.2.1.1 d.2.2.1.1)
  (g_strings_IndexByte ((), (((⟨#[32, 9, 13, 10]⟩ : ByteArray), ()), ((x4, ()), ())))).bind fun x5 =>
  let x6 : Bool := (decide (x5.2.1.1 ≥ (0 : Int)))
  bif x6 then (
  let x7 : Int := (iadd .i64 d.2.2.1.1 (1 : Int))
  (T.1 ((), (d.2.1, ((x7, ()), ())))))
  else (
  bif decide ((0 : Int) ≤ d.2.2.1.1) && decide (d.2.2.1.1 < ((d.2.1.1.size : Int) : Int)) then (
  let x8 : Int := (bt d.2.1.1 d.2.2.1.1)
  let x9 : Bool := (x8 == (40 : Int))
  bif x9 then (
  (g_mail_remark ((), d.2)).bind fun x10 =>
  let x11 : Bool := (decide (x10.2.1.1 < (0 : Int)))
  bif x11 then (
  some ((), (((-1 : Int), ()), ())))
  else (
  (T.1 ((), (d.2.1, x10.2)))))
  else (
  some ((), d.2.2)))
  else none))
  else none)
  else (
  some ((), d.2.2)))
  else (
  some ((), d.2.2))
def f_mail_Gap_t : Nat → TT_mail_Gap
  | 0 => (fun _ => none, ())
  | k + 1 => (f_mail_Gap_p3 (f_mail_Gap_t k), ())
theorem t_mail_Gap (k : Nat) : f_mail_Gap_t (k + 1) = (f_mail_Gap_p3 (f_mail_Gap_t k), ()) := rfl
def f_mail_Gap_m (T : TT_mail_Gap) (d : Unit × ((ByteArray × Unit) × ((Int × Unit) × Unit))) : Option (Unit × ((Int × Unit) × Unit)) :=
  (T.1 ((), d.2))
def c_mail_Gap : List Nat := []
def L_mail_Gap (k : Nat) : Pts po_mail_Gap.den := [(3, ⟨sh_mail_Gap_3, (f_mail_Gap_t k).1⟩)]
def R_mail_Gap (_ : Nat) : PtsR po_mail_Gap.den := []
def E_mail_Gap : Env := ((E0.add 182 (typedSem pi_strings_IndexByte po_strings_IndexByte g_strings_IndexByte)).add 183 (typedSem pi_mail_remark po_mail_remark g_mail_remark))
theorem q_mail_Gap_3 (k : Nat) (d : sh_mail_Gap_3.den) : evAt E_mail_Gap (tb (L_mail_Gap k) (R_mail_Gap k)) c_mail_Gap 3 (bodyOf Tryz.f113) 0 (finK E_mail_Gap po_mail_Gap [.tmp 4]) (ptSt sh_mail_Gap_3 d) = f_mail_Gap_p3 (f_mail_Gap_t k) d := by kernel_rfl
theorem q_mail_Gap_m (k : Nat) (d : pi_mail_Gap.den) : evCode E_mail_Gap (tb (L_mail_Gap k) (R_mail_Gap k)) c_mail_Gap (bodyOf Tryz.f113) 0 (finK E_mail_Gap po_mail_Gap [.tmp 4]) (startSt pi_mail_Gap 32 d) = f_mail_Gap_m (f_mail_Gap_t k) d := by kernel_rfl
def g_mail_Gap (d : Unit × ((ByteArray × Unit) × ((Int × Unit) × Unit))) : Option (Unit × ((Int × Unit) × Unit)) := lim fun k => f_mail_Gap_m (f_mail_Gap_t k) d
theorem ok_mail_Gap : FnOk Tryz.prog ET0 113 pi_mail_Gap po_mail_Gap g_mail_Gap :=
  fn_of_body (E := E_mail_Gap) (envOk_add (envOk_add e0_ok (typed_ok ok_strings_IndexByte)) (typed_ok ok_mail_remark)) (fn := Tryz.f113) Tryz.func113 (by kernel_rfl) (by kernel_rfl) [.tmp 4] (by kernel_rfl) (by kernel_rfl) (by decide) rfl c_mail_Gap L_mail_Gap R_mail_Gap
    (by intro x hx d; simp only [L_mail_Gap, List.mem_cons, List.not_mem_nil, or_false] at hx; subst hx; rfl)
    (by intro k x hx d out h; simp only [L_mail_Gap, List.mem_cons, List.not_mem_nil, or_false] at hx; subst hx; exact (q_mail_Gap_3 k d).trans h)
    (by intro x hx; cases hx)
    (by intro k x hx; cases hx)
    (by intro d out h; obtain ⟨k, hk⟩ := lim_some h; exact ⟨k, (q_mail_Gap_m k d).trans hk⟩)

@[reducible] def pi_scan_Scanner_string_At : PSh := ⟨[], [.mk false [.v (.nptr (.pair .str (.pair (.int .i64) .err)))]]⟩
@[reducible] def po_scan_Scanner_string_At : PSh := ⟨[], [.mk false [vI]]⟩
def f_scan_Scanner_string_At_m (T : Unit) (d : Unit × (((Option (ByteArray × (Int × (Option Int)))) × Unit) × Unit)) : Option (Unit × ((Int × Unit) × Unit)) :=
  bif d.2.1.1.isNone then (
  some ((), (((0 : Int), ()), ())))
  else (
  d.2.1.1.bind fun x1 =>
  some ((), ((x1.2.1, ()), ())))
def g_scan_Scanner_string_At (d : Unit × (((Option (ByteArray × (Int × (Option Int)))) × Unit) × Unit)) : Option (Unit × ((Int × Unit) × Unit)) := f_scan_Scanner_string_At_m () d
theorem ok_scan_Scanner_string_At : FnOk Tryz.prog ET0 114 pi_scan_Scanner_string_At po_scan_Scanner_string_At g_scan_Scanner_string_At :=
  fn0 (E := E0) e0_ok (fn := Tryz.f114) Tryz.func114 (by kernel_rfl) (by kernel_rfl) [.tmp 2] (by kernel_rfl) rfl rfl rfl [] fun d => by kernel_rfl

@[reducible] def pi_scan_Scanner_string_rest : PSh := ⟨[], [.mk false [.v (.nptr (.pair .str (.pair (.int .i64) .err)))]]⟩
@[reducible] def po_scan_Scanner_string_rest : PSh := ⟨[], [.mk false [vS]]⟩
def f_scan_Scanner_string_rest_m (T : Unit) (d : Unit × (((Option (ByteArray × (Int × (Option Int)))) × Unit) × Unit)) : Option (Unit × ((ByteArray × Unit) × Unit)) :=
  bif d.2.1.1.isNone then (
  some ((), (((⟨#[]⟩ : ByteArray), ()), ())))
  else (
  d.2.1.1.bind fun x1 =>
  let x2 : Bool := (!x1.2.2.isNone)
  bif x2 then (
  some ((), (((⟨#[]⟩ : ByteArray), ()), ())))
  else (
  d.2.1.1.bind fun x3 =>
  d.2.1.1.bind fun x4 =>
  bif decide ((0 : Int) ≤ x4.2.1) && decide (x4.2.1 ≤ (x3.1.size : Int)) && decide ((x3.1.size : Int) ≤ (x3.1.size : Int)) then (
  let x5 : ByteArray := (x3.1.extract (Int.toNat x4.2.1) (Int.toNat (x3.1.size : Int)))
  some ((), ((x5, ()), ())))
  else none))
def g_scan_Scanner_string_rest (d : Unit × (((Option (ByteArray × (Int × (Option Int)))) × Unit) × Unit)) : Option (Unit × ((ByteArray × Unit) × Unit)) := f_scan_Scanner_string_rest_m () d
theorem ok_scan_Scanner_string_rest : FnOk Tryz.prog ET0 187 pi_scan_Scanner_string_rest po_scan_Scanner_string_rest g_scan_Scanner_string_rest :=
  fn0 (E := E0) e0_ok (fn := Tryz.f187) Tryz.func187 (by kernel_rfl) (by kernel_rfl) [.tmp 2] (by kernel_rfl) rfl rfl rfl [] fun d => by kernel_rfl

@[reducible] def pi_scan_Scanner_string_Left : PSh := ⟨[], [.mk false [.v (.nptr (.pair .str (.pair (.int .i64) .err)))]]⟩
@[reducible] def po_scan_Scanner_string_Left : PSh := ⟨[], [.mk false [vI]]⟩
def f_scan_Scanner_string_Left_m (T : Unit) (d : Unit × (((Option (ByteArray × (Int × (Option Int)))) × Unit) × Unit)) : Option (Unit × ((Int × Unit) × Unit)) :=
  (g_scan_Scanner_string_rest ((), d.2)).bind fun x1 =>
  let x2 : Int := (x1.2.1.1.size : Int)
  some ((), ((x2, ()), ()))
def g_scan_Scanner_string_Left (d : Unit × (((Option (ByteArray × (Int × (Option Int)))) × Unit) × Unit)) : Option (Unit × ((Int × Unit) × Unit)) := f_scan_Scanner_string_Left_m () d
theorem ok_scan_Scanner_string_Left : FnOk Tryz.prog ET0 124 pi_scan_Scanner_string_Left po_scan_Scanner_string_Left g_scan_Scanner_string_Left :=
  fn0 (E := (E0.add 187 (typedSem pi_scan_Scanner_string_rest po_scan_Scanner_string_rest g_scan_Scanner_string_rest))) (envOk_add e0_ok (typed_ok ok_scan_Scanner_string_rest)) (fn := Tryz.f124) Tryz.func124 (by kernel_rfl) (by kernel_rfl) [.tmp 2] (by kernel_rfl) rfl rfl rfl [] fun d => by kernel_rfl

@[reducible] def pi_strings_Clone : PSh := ⟨[], [.mk false [vS]]⟩
@[reducible] def po_strings_Clone : PSh := ⟨[], [.mk false [vS]]⟩
def f_strings_Clone_m (T : Unit) (d : Unit × ((ByteArray × Unit) × Unit)) : Option (Unit × ((ByteArray × Unit) × Unit)) :=
  (g_internal_stringslite_Clone ((), d.2)).bind fun x1 =>
  some ((), x1.2)
def g_strings_Clone (d : Unit × ((ByteArray × Unit) × Unit)) : Option (Unit × ((ByteArray × Unit) × Unit)) := f_strings_Clone_m () d
theorem ok_strings_Clone : FnOk Tryz.prog ET0 220 pi_strings_Clone po_strings_Clone g_strings_Clone :=
  fn0 (E := (E0.add 231 (typedSem pi_internal_stringslite_Clone po_internal_stringslite_Clone g_internal_stringslite_Clone))) (envOk_add e0_ok (typed_ok ok_internal_stringslite_Clone)) (fn := Tryz.f220) Tryz.func220 (by kernel_rfl) (by kernel_rfl) [.tmp 2] (by kernel_rfl) rfl rfl rfl [] fun d => by kernel_rfl

@[reducible] def pi_mail_name : PSh := ⟨[], [.mk false [vS], .mk false [vI]]⟩
@[reducible] def po_mail_name : PSh := ⟨[], [.mk false [vS]]⟩
def f_mail_name_m (T : Unit) (d : Unit × ((ByteArray × Unit) × ((Int × Unit) × Unit))) : Option (Unit × ((ByteArray × Unit) × Unit)) :=
  let x1 : Bool := (decide (d.2.2.1.1 < (1 : Int)))
  bif x1 then (
  some ((), (((⟨#[]⟩ : ByteArray), ()), ())))
  else (
  let x2 : Int := (d.2.1.1.size : Int)
  let x3 : Int := (iquo .i64 x2 (3 : Int))
  let x4 : Bool := (decide (d.2.2.1.1 > x3))
  bif x4 then (
  some ((), (((⟨#[]⟩ : ByteArray), ()), ())))
  else (
  let x5 : Int := (isub .i64 d.2.2.1.1 (1 : Int))
  let x6 : Int := (imul .i64 (3 : Int) x5)
  let x7 : Int := (imul .i64 (3 : Int) d.2.2.1.1)
  bif decide ((0 : Int) ≤ x6) && decide (x6 ≤ x7) && decide (x7 ≤ (d.2.1.1.size : Int)) then (
  let x8 : ByteArray := (d.2.1.1.extract (Int.toNat x6) (Int.toNat x7))
  some ((), ((x8, ()), ())))
  else none))
def g_mail_name (d : Unit × ((ByteArray × Unit) × ((Int × Unit) × Unit))) : Option (Unit × ((ByteArray × Unit) × Unit)) := f_mail_name_m () d
theorem ok_mail_name : FnOk Tryz.prog ET0 157 pi_mail_name po_mail_name g_mail_name :=
  fn0 (E := E0) e0_ok (fn := Tryz.f157) Tryz.func157 (by kernel_rfl) (by kernel_rfl) [.tmp 4] (by kernel_rfl) rfl rfl rfl [] fun d => by kernel_rfl

@[reducible] def pi_scan_small : PSh := ⟨[], [.mk false [v8]]⟩
@[reducible] def po_scan_small : PSh := ⟨[], [.mk false [v8]]⟩
def f_scan_small_m (T : Unit) (d : Unit × ((Int × Unit) × Unit)) : Option (Unit × ((Int × Unit) × Unit)) :=
  let x1 : Bool := (decide (d.2.1.1 ≥ (65 : Int)))
  bif x1 then (
  let x2 : Bool := (decide (d.2.1.1 ≤ (90 : Int)))
  bif x2 then (
  let x3 : Int := (isub .u8 d.2.1.1 (65 : Int))
  let x4 : Int := (iadd .u8 x3 (97 : Int))
  some ((), ((x4, ()), ())))
  else (
  some ((), d.2)))
  else (
  some ((), d.2))
def g_scan_small (d : Unit × ((Int × Unit) × Unit)) : Option (Unit × ((Int × Unit) × Unit)) := f_scan_small_m () d
theorem ok_scan_small : FnOk Tryz.prog ET0 232 pi_scan_small po_scan_small g_scan_small :=
  fn0 (E := E0) e0_ok (fn := Tryz.f232) Tryz.func232 (by kernel_rfl) (by kernel_rfl) [.tmp 2] (by kernel_rfl) rfl rfl rfl [] fun d => by kernel_rfl

@[reducible] def pi_scan_alike : PSh := ⟨[], [.mk false [vS], .mk false [vS]]⟩
@[reducible] def po_scan_alike : PSh := ⟨[], [.mk false [vB]]⟩
@[reducible] def TT_scan_alike : Type := (((Unit × ((ByteArray × Unit) × ((ByteArray × Unit) × ((Int × Unit) × ((Int × Unit) × Unit))))) → Option (Unit × ((Bool × Unit) × Unit))) × Unit)
@[reducible] def sh_scan_alike_3 : PSh := ⟨[], [.mk false [vS], .mk false [vS], .any, .any, .any, .any, .any, .mk false [vI], .mk false [vI], .any, .any, .any, .any, .any, .any, .any, .any, .any, .any, .any, .any]⟩
def f_scan_alike_p3 (T : TT_scan_alike) (d : Unit × ((ByteArray × Unit) × ((ByteArray × Unit) × ((Int × Unit) × ((Int × Unit) × Unit))))) : Option (Unit × ((Bool × Unit) × Unit)) :=
  let x2 : Bool := (decide (d.2.2.2.2.1.1 < d.2.2.2.1.1))
  bif x2 then (
  bif decide ((0 : Int) ≤ d.2.2.2.2.1.1) && decide (d.2.2.2.2.1.1 < ((d.2.1.1.size : Int) : Int)) then (
  let x3 : Int := (bt d.2.1.1 d.2.2.2.2.1.1)
  (g_scan_small ((), ((x3, ()), ()))).bind fun x4 =>
  bif decide ((0 : Int) ≤ d.2.2.2.2.1.1) && decide (d.2.2.2.2.1.1 < ((d.2.2.1.1.size : Int) : Int)) then (
  let x5 : Int := (bt d.2.2.1.1 d.2.2.2.2.1.1)
  (g_scan_small ((), ((x5, ()), ()))).bind fun x6 =>
  let x7 : Bool := (x4.2.1.1 != x6.2.1.1)
  bif x7 then (
  some ((), ((false, ()), ())))
  else (
  let x8 : Int := (iadd .i64 d.2.2.2.2.1.1 (1 : Int))
  (T.1 ((), (d.2.1, (d.2.2.1, (d.2.2.2.1, ((x8, ()), ()))))))))
  else none)
  else none)
  else (
  some ((), ((true, ()), ())))
def f_scan_alike_t : Nat → TT_scan_alike
  | 0 => (fun _ => none, ())
  | k + 1 => (f_scan_alike_p3 (f_scan_alike_t k), ())
theorem t_scan_alike (k : Nat) : f_scan_alike_t (k + 1) = (f_scan_alike_p3 (f_scan_alike_t k), ()) := rfl
def f_scan_alike_m (T : TT_scan_alike) (d : Unit × ((ByteArray × Unit) × ((ByteArray × Unit) × Unit))) : Option (Unit × ((Bool × Unit) × Unit)) :=
  let x1 : Int := (d.2.1.1.size : Int)
  (T.1 ((), (d.2.1, (d.2.2.1, ((x1, ()), (((0 : Int), ()), ()))))))
def c_scan_alike : List Nat := []
def L_scan_alike (k : Nat) : Pts po_scan_alike.den := [(3, ⟨sh_scan_alike_3, (f_scan_alike_t k).1⟩)]
def R_scan_alike (_ : Nat) : PtsR po_scan_alike.den := []
def E_scan_alike : Env := (E0.add 232 (typedSem pi_scan_small po_scan_small g_scan_small))
theorem q_scan_alike_3 (k : Nat) (d : sh_scan_alike_3.den) : evAt E_scan_alike (tb (L_scan_alike k) (R_scan_alike k)) c_scan_alike 3 (bodyOf Tryz.f221) 0 (finK E_scan_alike po_scan_alike [.tmp 4]) (ptSt sh_scan_alike_3 d) = f_scan_alike_p3 (f_scan_alike_t k) d := by kernel_rfl
theorem q_scan_alike_m (k : Nat) (d : pi_scan_alike.den) : evCode E_scan_alike (tb (L_scan_alike k) (R_scan_alike k)) c_scan_alike (bodyOf Tryz.f221) 0 (finK E_scan_alike po_scan_alike [.tmp 4]) (startSt pi_scan_alike 21 d) = f_scan_alike_m (f_scan_alike_t k) d := by kernel_rfl
def g_scan_alike (d : Unit × ((ByteArray × Unit) × ((ByteArray × Unit) × Unit))) : Option (Unit × ((Bool × Unit) × Unit)) := lim fun k => f_scan_alike_m (f_scan_alike_t k) d
theorem ok_scan_alike : FnOk Tryz.prog ET0 221 pi_scan_alike po_scan_alike g_scan_alike :=
  fn_of_body (E := E_scan_alike) (envOk_add e0_ok (typed_ok ok_scan_small)) (fn := Tryz.f221) Tryz.func221 (by kernel_rfl) (by kernel_rfl) [.tmp 4] (by kernel_rfl) (by kernel_rfl) (by decide) rfl c_scan_alike L_scan_alike R_scan_alike
    (by intro x hx d; simp only [L_scan_alike, List.mem_cons, List.not_mem_nil, or_false] at hx; subst hx; rfl)
    (by intro k x hx d out h; simp only [L_scan_alike, List.mem_cons, List.not_mem_nil, or_false] at hx; subst hx; exact (q_scan_alike_3 k d).trans h)
    (by intro x hx; cases hx)
    (by intro k x hx; cases hx)
    (by intro d out h; obtain ⟨k, hk⟩ := lim_some h; exact ⟨k, (q_scan_alike_m k d).trans hk⟩)

@[reducible] def pi_figures_Is : PSh := ⟨[], [.mk false [v8]]⟩
@[reducible] def po_figures_Is : PSh := ⟨[], [.mk false [vB]]⟩
def f_figures_Is_m (T : Unit) (d : Unit × ((Int × Unit) × Unit)) : Option (Unit × ((Bool × Unit) × Unit)) :=
  let x1 : Bool := (decide (d.2.1.1 ≥ (48 : Int)))
  bif x1 then (
  let x2 : Bool := (decide (d.2.1.1 ≤ (57 : Int)))
  some ((), ((x2, ()), ())))
  else (
  some ((), ((false, ()), ())))
def g_figures_Is (d : Unit × ((Int × Unit) × Unit)) : Option (Unit × ((Bool × Unit) × Unit)) := f_figures_Is_m () d
theorem ok_figures_Is : FnOk Tryz.prog ET0 239 pi_figures_Is po_figures_Is g_figures_Is :=
  fn0 (E := E0) e0_ok (fn := Tryz.f239) Tryz.func239 (by kernel_rfl) (by kernel_rfl) [.tmp 2] (by kernel_rfl) rfl rfl rfl [] fun d => by kernel_rfl

@[reducible] def pi_figures_run : PSh := ⟨[], [.mk false [vS], .mk false [vI]]⟩
@[reducible] def po_figures_run : PSh := ⟨[], [.mk false [vI]]⟩
@[reducible] def TT_figures_run : Type := (((Unit × ((ByteArray × Unit) × ((Int × Unit) × ((Int × Unit) × Unit)))) → Option (Unit × ((Int × Unit) × Unit))) × Unit)
@[reducible] def sh_figures_run_3 : PSh := ⟨[], [.mk false [vS], .mk false [vI], .any, .any, .any, .mk false [vI], .any, .any, .any, .any, .any, .any, .any, .any, .any, .any, .any, .any, .any, .any, .any]⟩
def f_figures_run_p3 (T : TT_figures_run) (d : Unit × ((ByteArray × Unit) × ((Int × Unit) × ((Int × Unit) × Unit)))) : Option (Unit × ((Int × Unit) × Unit)) :=
  let x1 : Int := (d.2.1.1.size : Int)
  let x2 : Int := (if d.2.2.1.1 < x1 then d.2.2.1.1 else x1)
  let x3 : Bool := (decide (d.2.2.2.1.1 < x2))
  bif x3 then (
  bif decide ((0 : Int) ≤ d.2.2.2.1.1) && decide (d.2.2.2.1.1 < ((d.2.1.1.size : Int) : Int)) then (
  let x4 : Int := (bt d.2.1.1 d.2.2.2.1.1)
  (g_figures_Is ((), ((x4, ()), ()))).bind fun x5 =>
  bif x5.2.1.1 then (
  let x6 : Int := (iadd .i64 d.2.2.2.1.1 (1 : Int))
  (T.1 ((), (d.2.1, (d.2.2.1, ((x6, ()), ()))))))
  else (
  some ((), d.2.2.2)))
  else none)
  else (
  some ((), d.2.2.2))
def f_figures_run_t : Nat → TT_figures_run
  | 0 => (fun _ => none, ())
  | k + 1 => (f_figures_run_p3 (f_figures_run_t k), ())
theorem t_figures_run (k : Nat) : f_figures_run_t (k + 1) = (f_figures_run_p3 (f_figures_run_t k), ()) := rfl
def f_figures_run_m (T : TT_figures_run) (d : Unit × ((ByteArray × Unit) × ((Int × Unit) × Unit))) : Option (Unit × ((Int × Unit) × Unit)) :=
  (T.1 ((), (d.2.1, (d.2.2.1, (((0 : Int), ()), ())))))
def c_figures_run : List Nat := []
def L_figures_run (k : Nat) : Pts po_figures_run.den := [(3, ⟨sh_figures_run_3, (f_figures_run_t k).1⟩)]
def R_figures_run (_ : Nat) : PtsR po_figures_run.den := []
def E_figures_run : Env := (E0.add 239 (typedSem pi_figures_Is po_figures_Is g_figures_Is))
theorem q_figures_run_3 (k : Nat) (d : sh_figures_run_3.den) : evAt E_figures_run (tb (L_figures_run k) (R_figures_run k)) c_figures_run 3 (bodyOf Tryz.f233) 0 (finK E_figures_run po_figures_run [.tmp 4]) (ptSt sh_figures_run_3 d) = f_figures_run_p3 (f_figures_run_t k) d := by kernel_rfl
theorem q_figures_run_m (k : Nat) (d : pi_figures_run.den) : evCode E_figures_run (tb (L_figures_run k) (R_figures_run k)) c_figures_run (bodyOf Tryz.f233) 0 (finK E_figures_run po_figures_run [.tmp 4]) (startSt pi_figures_run 21 d) = f_figures_run_m (f_figures_run_t k) d := by kernel_rfl
def g_figures_run (d : Unit × ((ByteArray × Unit) × ((Int × Unit) × Unit))) : Option (Unit × ((Int × Unit) × Unit)) := lim fun k => f_figures_run_m (f_figures_run_t k) d
theorem ok_figures_run : FnOk Tryz.prog ET0 233 pi_figures_run po_figures_run g_figures_run :=
  fn_of_body (E := E_figures_run) (envOk_add e0_ok (typed_ok ok_figures_Is)) (fn := Tryz.f233) Tryz.func233 (by kernel_rfl) (by kernel_rfl) [.tmp 4] (by kernel_rfl) (by kernel_rfl) (by decide) rfl c_figures_run L_figures_run R_figures_run
    (by intro x hx d; simp only [L_figures_run, List.mem_cons, List.not_mem_nil, or_false] at hx; subst hx; rfl)
    (by intro k x hx d out h; simp only [L_figures_run, List.mem_cons, List.not_mem_nil, or_false] at hx; subst hx; exact (q_figures_run_3 k d).trans h)
    (by intro x hx; cases hx)
    (by intro k x hx; cases hx)
    (by intro d out h; obtain ⟨k, hk⟩ := lim_some h; exact ⟨k, (q_figures_run_m k d).trans hk⟩)

@[reducible] def pi_figures_value : PSh := ⟨[], [.mk false [vS], .mk false [.v (.int .u64)]]⟩
@[reducible] def po_figures_value : PSh := ⟨[], [.mk false [.v (.int .u64)], .mk false [vE]]⟩
@[reducible] def TT_figures_value : Type := (((Unit × ((ByteArray × Unit) × ((Int × Unit) × ((Int × Unit) × ((Int × Unit) × ((Int × Unit) × Unit)))))) → Option (Unit × ((Int × Unit) × (((Option Int) × Unit) × Unit)))) × Unit)
@[reducible] def sh_figures_value_4 : PSh := ⟨[], [.mk false [vS], .mk false [.v (.int .u64)], .any, .any, .any, .any, .mk false [.v (.int .u64)], .any, .any, .any, .mk false [vI], .mk false [vI], .any, .any, .any, .any, .any, .any, .any, .any, .any, .any, .any, .any, .any, .any, .any, .any, .any, .any, .any, .any]⟩
def f_figures_value_p4 (T : TT_figures_value) (d : Unit × ((ByteArray × Unit) × ((Int × Unit) × ((Int × Unit) × ((Int × Unit) × ((Int × Unit) × Unit)))))) : Option (Unit × ((Int × Unit) × (((Option Int) × Unit) × Unit))) :=
  let x2 : Bool := (decide (d.2.2.2.2.2.1.1 < d.2.2.2.2.1.1))
  bif x2 then (
  bif decide ((0 : Int) ≤ d.2.2.2.2.2.1.1) && decide (d.2.2.2.2.2.1.1 < ((d.2.1.1.size : Int) : Int)) then (
  let x3 : Int := (bt d.2.1.1 d.2.2.2.2.2.1.1)
  let x4 : Int := (isub .u8 x3 (48 : Int))
  let x5 : Int := (iconv .u64 x4)
  let x6 : Int := (isub .u64 d.2.2.1.1 x5)
  let x7 : Int := (iquo .u64 x6 (10 : Int))
  let x8 : Bool := (decide (d.2.2.2.1.1 > x7))
  bif x8 then (
  let x9 : (Option Int) := (some (5 : Int))
  some ((), (((0 : Int), ()), ((x9, ()), ()))))
  else (
  let x10 : Int := (imul .u64 d.2.2.2.1.1 (10 : Int))
  let x11 : Int := (iadd .u64 x10 x5)
  let x12 : Int := (iadd .i64 d.2.2.2.2.2.1.1 (1 : Int))
  (T.1 ((), (d.2.1, (d.2.2.1, ((x11, ()), (d.2.2.2.2.1, ((x12, ()), ())))))))))
  else none)
  else (
  some ((), (d.2.2.2.1, (((none : Option Int), ()), ()))))
def f_figures_value_t : Nat → TT_figures_value
  | 0 => (fun _ => none, ())
  | k + 1 => (f_figures_value_p4 (f_figures_value_t k), ())
theorem t_figures_value (k : Nat) : f_figures_value_t (k + 1) = (f_figures_value_p4 (f_figures_value_t k), ()) := rfl
def f_figures_value_m (T : TT_figures_value) (d : Unit × ((ByteArray × Unit) × ((Int × Unit) × Unit))) : Option (Unit × ((Int × Unit) × (((Option Int) × Unit) × Unit))) :=
  let x1 : Int := (d.2.1.1.size : Int)
  (T.1 ((), (d.2.1, (d.2.2.1, (((0 : Int), ()), ((x1, ()), (((0 : Int), ()), ())))))))
def c_figures_value : List Nat := []
def L_figures_value (k : Nat) : Pts po_figures_value.den := [(4, ⟨sh_figures_value_4, (f_figures_value_t k).1⟩)]
def R_figures_value (_ : Nat) : PtsR po_figures_value.den := []
def E_figures_value : Env := E0
theorem q_figures_value_4 (k : Nat) (d : sh_figures_value_4.den) : evAt E_figures_value (tb (L_figures_value k) (R_figures_value k)) c_figures_value 4 (bodyOf Tryz.f234) 0 (finK E_figures_value po_figures_value [.tmp 4, .tmp 5]) (ptSt sh_figures_value_4 d) = f_figures_value_p4 (f_figures_value_t k) d := by kernel_rfl
theorem q_figures_value_m (k : Nat) (d : pi_figures_value.den) : evCode E_figures_value (tb (L_figures_value k) (R_figures_value k)) c_figures_value (bodyOf Tryz.f234) 0 (finK E_figures_value po_figures_value [.tmp 4, .tmp 5]) (startSt pi_figures_value 32 d) = f_figures_value_m (f_figures_value_t k) d := by kernel_rfl
def g_figures_value (d : Unit × ((ByteArray × Unit) × ((Int × Unit) × Unit))) : Option (Unit × ((Int × Unit) × (((Option Int) × Unit) × Unit))) := lim fun k => f_figures_value_m (f_figures_value_t k) d
theorem ok_figures_value : FnOk Tryz.prog ET0 234 pi_figures_value po_figures_value g_figures_value :=
  fn_of_body (E := E_figures_value) e0_ok (fn := Tryz.f234) Tryz.func234 (by kernel_rfl) (by kernel_rfl) [.tmp 4, .tmp 5] (by kernel_rfl) (by kernel_rfl) (by decide) rfl c_figures_value L_figures_value R_figures_value
    (by intro x hx d; simp only [L_figures_value, List.mem_cons, List.not_mem_nil, or_false] at hx; subst hx; rfl)
    (by intro k x hx d out h; simp only [L_figures_value, List.mem_cons, List.not_mem_nil, or_false] at hx; subst hx; exact (q_figures_value_4 k d).trans h)
    (by intro x hx; cases hx)
    (by intro k x hx; cases hx)
    (by intro d out h; obtain ⟨k, hk⟩ := lim_some h; exact ⟨k, (q_figures_value_m k d).trans hk⟩)

@[reducible] def pi_figures_take : PSh := ⟨[], [.mk false [vS], .mk false [vI], .mk false [vI], .mk false [.v (.int .u64)]]⟩
@[reducible] def po_figures_take : PSh := ⟨[], [.mk false [.v (.int .u64)], .mk false [vI], .mk false [vE]]⟩
def f_figures_take_m (T : Unit) (d : Unit × ((ByteArray × Unit) × ((Int × Unit) × ((Int × Unit) × ((Int × Unit) × Unit))))) : Option (Unit × ((Int × Unit) × ((Int × Unit) × (((Option Int) × Unit) × Unit)))) :=
  let x1 : Bool := (decide (d.2.2.1.1 < (1 : Int)))
  bif x1 then (
  let x2 : (Option Int) := (some (1 : Int))
  some ((), (((0 : Int), ()), (((0 : Int), ()), ((x2, ()), ())))))
  else (
  let x3 : Bool := (decide (d.2.2.1.1 > d.2.2.2.1.1))
  bif x3 then (
  let x4 : (Option Int) := (some (1 : Int))
  some ((), (((0 : Int), ()), (((0 : Int), ()), ((x4, ()), ())))))
  else (
  let x5 : Bool := (decide (d.2.2.2.1.1 > (20 : Int)))
  bif x5 then (
  let x6 : (Option Int) := (some (1 : Int))
  some ((), (((0 : Int), ()), (((0 : Int), ()), ((x6, ()), ())))))
  else (
  (g_figures_run ((), (d.2.1, (d.2.2.2.1, ())))).bind fun x7 =>
  let x8 : Bool := (decide (x7.2.1.1 < d.2.2.1.1))
  bif x8 then (
  let x9 : (Option Int) := (some (2 : Int))
  some ((), (((0 : Int), ()), (((0 : Int), ()), ((x9, ()), ())))))
  else (
  bif decide ((0 : Int) ≤ (0 : Int)) && decide ((0 : Int) ≤ x7.2.1.1) && decide (x7.2.1.1 ≤ (d.2.1.1.size : Int)) then (
  let x10 : ByteArray := (d.2.1.1.extract (Int.toNat (0 : Int)) (Int.toNat x7.2.1.1))
  (g_figures_value ((), ((x10, ()), d.2.2.2.2))).bind fun x11 =>
  let x12 : Bool := (!x11.2.2.1.1.isNone)
  bif x12 then (
  some ((), (((0 : Int), ()), (((0 : Int), ()), x11.2.2))))
  else (
  some ((), (x11.2.1, (x7.2.1, (((none : Option Int), ()), ()))))))
  else none))))
def g_figures_take (d : Unit × ((ByteArray × Unit) × ((Int × Unit) × ((Int × Unit) × ((Int × Unit) × Unit))))) : Option (Unit × ((Int × Unit) × ((Int × Unit) × (((Option Int) × Unit) × Unit)))) := f_figures_take_m () d
theorem ok_figures_take : FnOk Tryz.prog ET0 222 pi_figures_take po_figures_take g_figures_take :=
  fn0 (E := ((E0.add 233 (typedSem pi_figures_run po_figures_run g_figures_run)).add 234 (typedSem pi_figures_value po_figures_value g_figures_value))) (envOk_add (envOk_add e0_ok (typed_ok ok_figures_run)) (typed_ok ok_figures_value)) (fn := Tryz.f222) Tryz.func222 (by kernel_rfl) (by kernel_rfl) [.tmp 8, .tmp 9, .tmp 10] (by kernel_rfl) rfl rfl rfl [] fun d => by kernel_rfl

@[reducible] def pi_figures_Take : PSh := ⟨[], [.mk false [vS], .mk false [vI], .mk false [vI]]⟩
@[reducible] def po_figures_Take : PSh := ⟨[], [.mk false [vI], .mk false [vI], .mk false [vE]]⟩
def f_figures_Take_m (T : Unit) (d : Unit × ((ByteArray × Unit) × ((Int × Unit) × ((Int × Unit) × Unit)))) : Option (Unit × ((Int × Unit) × ((Int × Unit) × (((Option Int) × Unit) × Unit)))) :=
  (g_figures_take ((), (d.2.1, (d.2.2.1, (d.2.2.2.1, (((9223372036854775807 : Int), ()), ())))))).bind fun x1 =>
  let x2 : Int := (iconv .i64 x1.2.1.1)
  some ((), ((x2, ()), x1.2.2))
def g_figures_Take (d : Unit × ((ByteArray × Unit) × ((Int × Unit) × ((Int × Unit) × Unit)))) : Option (Unit × ((Int × Unit) × ((Int × Unit) × (((Option Int) × Unit) × Unit)))) := f_figures_Take_m () d
theorem ok_figures_Take : FnOk Tryz.prog ET0 186 pi_figures_Take po_figures_Take g_figures_Take :=
  fn0 (E := (E0.add 222 (typedSem pi_figures_take po_figures_take g_figures_take))) (envOk_add e0_ok (typed_ok ok_figures_take)) (fn := Tryz.f186) Tryz.func186 (by kernel_rfl) (by kernel_rfl) [.tmp 6, .tmp 7, .tmp 8] (by kernel_rfl) rfl rfl rfl [] fun d => by kernel_rfl

@[reducible] def pi_figures_whole : PSh := ⟨[], [.mk false [vS], .mk false [vI], .mk false [vI], .mk false [.v (.int .u64)]]⟩
@[reducible] def po_figures_whole : PSh := ⟨[], [.mk false [.v (.int .u64)], .mk false [vE]]⟩
def f_figures_whole_m (T : Unit) (d : Unit × ((ByteArray × Unit) × ((Int × Unit) × ((Int × Unit) × ((Int × Unit) × Unit))))) : Option (Unit × ((Int × Unit) × (((Option Int) × Unit) × Unit))) :=
  (g_figures_take ((), d.2)).bind fun x1 =>
  let x2 : Bool := (!x1.2.2.2.1.1.isNone)
  bif x2 then (
  some ((), (((0 : Int), ()), x1.2.2.2)))
  else (
  let x3 : Int := (d.2.1.1.size : Int)
  let x4 : Bool := (decide (x1.2.2.1.1 < x3))
  bif x4 then (
  let x5 : (Option Int) := (some (2 : Int))
  some ((), (((0 : Int), ()), ((x5, ()), ()))))
  else (
  some ((), (x1.2.1, (((none : Option Int), ()), ())))))
def g_figures_whole (d : Unit × ((ByteArray × Unit) × ((Int × Unit) × ((Int × Unit) × ((Int × Unit) × Unit))))) : Option (Unit × ((Int × Unit) × (((Option Int) × Unit) × Unit))) := f_figures_whole_m () d
theorem ok_figures_whole : FnOk Tryz.prog ET0 223 pi_figures_whole po_figures_whole g_figures_whole :=
  fn0 (E := (E0.add 222 (typedSem pi_figures_take po_figures_take g_figures_take))) (envOk_add e0_ok (typed_ok ok_figures_take)) (fn := Tryz.f223) Tryz.func223 (by kernel_rfl) (by kernel_rfl) [.tmp 8, .tmp 9] (by kernel_rfl) rfl rfl rfl [] fun d => by kernel_rfl

@[reducible] def pi_figures_Whole : PSh := ⟨[], [.mk false [vS], .mk false [vI], .mk false [vI]]⟩
@[reducible] def po_figures_Whole : PSh := ⟨[], [.mk false [vI], .mk false [vE]]⟩
def f_figures_Whole_m (T : Unit) (d : Unit × ((ByteArray × Unit) × ((Int × Unit) × ((Int × Unit) × Unit)))) : Option (Unit × ((Int × Unit) × (((Option Int) × Unit) × Unit))) :=
  (g_figures_whole ((), (d.2.1, (d.2.2.1, (d.2.2.2.1, (((9223372036854775807 : Int), ()), ())))))).bind fun x1 =>
  let x2 : Int := (iconv .i64 x1.2.1.1)
  some ((), ((x2, ()), x1.2.2))
def g_figures_Whole (d : Unit × ((ByteArray × Unit) × ((Int × Unit) × ((Int × Unit) × Unit)))) : Option (Unit × ((Int × Unit) × (((Option Int) × Unit) × Unit))) := f_figures_Whole_m () d
theorem ok_figures_Whole : FnOk Tryz.prog ET0 188 pi_figures_Whole po_figures_Whole g_figures_Whole :=
  fn0 (E := (E0.add 223 (typedSem pi_figures_whole po_figures_whole g_figures_whole))) (envOk_add e0_ok (typed_ok ok_figures_whole)) (fn := Tryz.f188) Tryz.func188 (by kernel_rfl) (by kernel_rfl) [.tmp 6, .tmp 7] (by kernel_rfl) rfl rfl rfl [] fun d => by kernel_rfl

@[reducible] def pi_scan_Scanner_string_Peek : PSh := ⟨[], [.mk false [.v (.nptr (.pair .str (.pair (.int .i64) .err)))]]⟩
@[reducible] def po_scan_Scanner_string_Peek : PSh := ⟨[], [.mk false [v8], .mk false [vB]]⟩
def f_scan_Scanner_string_Peek_m (T : Unit) (d : Unit × (((Option (ByteArray × (Int × (Option Int)))) × Unit) × Unit)) : Option (Unit × ((Int × Unit) × ((Bool × Unit) × Unit))) :=
  (g_scan_Scanner_string_rest ((), d.2)).bind fun x1 =>
  let x2 : Bool := (x1.2.1.1.toList == (⟨#[]⟩ : ByteArray).toList)
  bif x2 then (
  some ((), (((0 : Int), ()), ((false, ()), ()))))
  else (
  bif decide ((0 : Int) ≤ (0 : Int)) && decide ((0 : Int) < ((x1.2.1.1.size : Int) : Int)) then (
  let x3 : Int := (bt x1.2.1.1 (0 : Int))
  some ((), ((x3, ()), ((true, ()), ()))))
  else none)
def g_scan_Scanner_string_Peek (d : Unit × (((Option (ByteArray × (Int × (Option Int)))) × Unit) × Unit)) : Option (Unit × ((Int × Unit) × ((Bool × Unit) × Unit))) := f_scan_Scanner_string_Peek_m () d
theorem ok_scan_Scanner_string_Peek : FnOk Tryz.prog ET0 189 pi_scan_Scanner_string_Peek po_scan_Scanner_string_Peek g_scan_Scanner_string_Peek :=
  fn0 (E := (E0.add 187 (typedSem pi_scan_Scanner_string_rest po_scan_Scanner_string_rest g_scan_Scanner_string_rest))) (envOk_add e0_ok (typed_ok ok_scan_Scanner_string_rest)) (fn := Tryz.f189) Tryz.func189 (by kernel_rfl) (by kernel_rfl) [.tmp 2, .tmp 3] (by kernel_rfl) rfl rfl rfl [] fun d => by kernel_rfl

@[reducible] def pi_mail_great : PSh := ⟨[], [.mk false [vS]]⟩
@[reducible] def po_mail_great : PSh := ⟨[], [.mk false [vS]]⟩
@[reducible] def TT_mail_great : Type := (((((List Int) × Unit) × (Unit × (Unit × ((Int × Unit) × ((Int × Unit) × Unit))))) → Option (Unit × ((ByteArray × Unit) × Unit))) × Unit)
@[reducible] def sh_mail_great_4 : PSh := ⟨[.row 5 (.int .u8)], [.any, .any, .any, .mk false [.osl 0], .any, .any, .any, .any, .mk false [.osl 0], .mk false [vI], .mk false [vI], .any, .any, .any, .any, .any, .any, .any, .any, .any, .any, .any, .any, .any, .any, .any, .any, .any, .any, .any]⟩
def f_mail_great_p4 (T : TT_mail_great) (d : ((List Int) × Unit) × (Unit × (Unit × ((Int × Unit) × ((Int × Unit) × Unit))))) : Option (Unit × ((ByteArray × Unit) × Unit)) :=
  let x3 : Bool := (decide (d.2.2.2.2.1.1 < d.2.2.2.1.1))
  bif x3 then (
  bif decide ((0 : Int) ≤ d.2.2.2.2.1.1) && decide (d.2.2.2.2.1.1 < (d.1.1.length : Int)) then (
  let x4 : Bool := (decide ((gd (.int .u8) d.1.1 d.2.2.2.2.1.1) ≥ (97 : Int)))
  bif x4 then (
  let x5 : Bool := (decide ((gd (.int .u8) d.1.1 d.2.2.2.2.1.1) ≤ (122 : Int)))
  bif x5 then (
  let x6 : Int := (isub .u8 (gd (.int .u8) d.1.1 d.2.2.2.2.1.1) (97 : Int))
  let x7 : Int := (iadd .u8 x6 (65 : Int))
  bif decide ((0 : Int) ≤ d.2.2.2.2.1.1) && decide (d.2.2.2.2.1.1 < (d.1.1.length : Int)) then (
  let x8 : (List Int) := (List.set d.1.1 (Int.toNat d.2.2.2.2.1.1) x7)
  let x9 : Int := (iadd .i64 d.2.2.2.2.1.1 (1 : Int))
  (T.1 ((x8, ()), ((), ((), (d.2.2.2.1, ((x9, ()), ())))))))
  else none)
  else (
  let x10 : Int := (iadd .i64 d.2.2.2.2.1.1 (1 : Int))
  (T.1 (d.1, ((), ((), (d.2.2.2.1, ((x10, ()), ()))))))))
  else (
  let x11 : Int := (iadd .i64 d.2.2.2.2.1.1 (1 : Int))
  (T.1 (d.1, ((), ((), (d.2.2.2.1, ((x11, ()), ()))))))))
  else none)
  else (
  let x12 : ByteArray := (strOf d.1.1)
  some ((), ((x12, ()), ())))
def f_mail_great_t : Nat → TT_mail_great
  | 0 => (fun _ => none, ())
  | k + 1 => (f_mail_great_p4 (f_mail_great_t k), ())
theorem t_mail_great (k : Nat) : f_mail_great_t (k + 1) = (f_mail_great_p4 (f_mail_great_t k), ()) := rfl
def f_mail_great_m (T : TT_mail_great) (d : Unit × ((ByteArray × Unit) × Unit)) : Option (Unit × ((ByteArray × Unit) × Unit)) :=
  bif decide ((d.2.1.1.size : Int) ≤ 9223372036854775807) then (
  let x1 : (List Int) := (bytesOf d.2.1.1)
  let x2 : Int := (x1.length : Int)
  (T.1 ((x1, ()), ((), ((), ((x2, ()), (((0 : Int), ()), ())))))))
  else none
def c_mail_great : List Nat := []
def L_mail_great (k : Nat) : Pts po_mail_great.den := [(4, ⟨sh_mail_great_4, (f_mail_great_t k).1⟩)]
def R_mail_great (_ : Nat) : PtsR po_mail_great.den := []
def E_mail_great : Env := E0
theorem q_mail_great_4 (k : Nat) (d : sh_mail_great_4.den) : evAt E_mail_great (tb (L_mail_great k) (R_mail_great k)) c_mail_great 4 (bodyOf Tryz.f190) 0 (finK E_mail_great po_mail_great [.tmp 2]) (ptSt sh_mail_great_4 d) = f_mail_great_p4 (f_mail_great_t k) d := by kernel_rfl
theorem q_mail_great_m (k : Nat) (d : pi_mail_great.den) : evCode E_mail_great (tb (L_mail_great k) (R_mail_great k)) c_mail_great (bodyOf Tryz.f190) 0 (finK E_mail_great po_mail_great [.tmp 2]) (startSt pi_mail_great 30 d) = f_mail_great_m (f_mail_great_t k) d := by kernel_rfl
def g_mail_great (d : Unit × ((ByteArray × Unit) × Unit)) : Option (Unit × ((ByteArray × Unit) × Unit)) := lim fun k => f_mail_great_m (f_mail_great_t k) d
theorem ok_mail_great : FnOk Tryz.prog ET0 190 pi_mail_great po_mail_great g_mail_great :=
  fn_of_body (E := E_mail_great) e0_ok (fn := Tryz.f190) Tryz.func190 (by kernel_rfl) (by kernel_rfl) [.tmp 2] (by kernel_rfl) (by kernel_rfl) (by decide) rfl c_mail_great L_mail_great R_mail_great
    (by intro x hx d; simp only [L_mail_great, List.mem_cons, List.not_mem_nil, or_false] at hx; subst hx; rfl)
    (by intro k x hx d out h; simp only [L_mail_great, List.mem_cons, List.not_mem_nil, or_false] at hx; subst hx; exact (q_mail_great_4 k d).trans h)
    (by intro x hx; cases hx)
    (by intro k x hx; cases hx)
    (by intro d out h; obtain ⟨k, hk⟩ := lim_some h; exact ⟨k, (q_mail_great_m k d).trans hk⟩)

@[reducible] def pi_mail_Zone : PSh := ⟨[], [.mk false [vS]]⟩
@[reducible] def po_mail_Zone : PSh := ⟨[], [.mk false [vI], .mk false [vB]]⟩
def f_mail_Zone_m (T : Unit) (d : Unit × ((ByteArray × Unit) × Unit)) : Option (Unit × ((Int × Unit) × ((Bool × Unit) × Unit))) :=
  (g_mail_great ((), d.2)).bind fun x1 =>
  let x2 : Bool := (x1.2.1.1.toList == (⟨#[85, 84]⟩ : ByteArray).toList)
  bif x2 then (
  some ((), (((0 : Int), ()), ((true, ()), ()))))
  else (
  let x3 : Bool := (x1.2.1.1.toList == (⟨#[71, 77, 84]⟩ : ByteArray).toList)
  bif x3 then (
  some ((), (((0 : Int), ()), ((true, ()), ()))))
  else (
  let x4 : Bool := (x1.2.1.1.toList == (⟨#[69, 83, 84]⟩ : ByteArray).toList)
  bif x4 then (
  some ((), (((-300 : Int), ()), ((true, ()), ()))))
  else (
  let x5 : Bool := (x1.2.1.1.toList == (⟨#[67, 68, 84]⟩ : ByteArray).toList)
  bif x5 then (
  some ((), (((-300 : Int), ()), ((true, ()), ()))))
  else (
  let x6 : Bool := (x1.2.1.1.toList == (⟨#[69, 68, 84]⟩ : ByteArray).toList)
  bif x6 then (
  some ((), (((-240 : Int), ()), ((true, ()), ()))))
  else (
  let x7 : Bool := (x1.2.1.1.toList == (⟨#[67, 83, 84]⟩ : ByteArray).toList)
  bif x7 then (
  some ((), (((-360 : Int), ()), ((true, ()), ()))))
  else (
  let x8 : Bool := (x1.2.1.1.toList == (⟨#[77, 68, 84]⟩ : ByteArray).toList)
  bif x8 then (
  some ((), (((-360 : Int), ()), ((true, ()), ()))))
  else (
  let x9 : Bool := (x1.2.1.1.toList == (⟨#[77, 83, 84]⟩ : ByteArray).toList)
  bif x9 then (
  some ((), (((-420 : Int), ()), ((true, ()), ()))))
  else (
  let x10 : Bool := (x1.2.1.1.toList == (⟨#[80, 68, 84]⟩ : ByteArray).toList)
  bif x10 then (
  some ((), (((-420 : Int), ()), ((true, ()), ()))))
  else (
  let x11 : Bool := (x1.2.1.1.toList == (⟨#[80, 83, 84]⟩ : ByteArray).toList)
  bif x11 then (
  some ((), (((-480 : Int), ()), ((true, ()), ()))))
  else (
  let x12 : Bool := (x1.2.1.1.toList == (⟨#[74]⟩ : ByteArray).toList)
  bif x12 then (
  some ((), (((0 : Int), ()), ((false, ()), ()))))
  else (
  let x13 : Int := (x1.2.1.1.size : Int)
  let x14 : Bool := (x13 == (1 : Int))
  bif x14 then (
  bif decide ((0 : Int) ≤ (0 : Int)) && decide ((0 : Int) < ((x1.2.1.1.size : Int) : Int)) then (
  let x15 : Int := (bt x1.2.1.1 (0 : Int))
  let x16 : Bool := (decide (x15 ≥ (65 : Int)))
  bif x16 then (
  bif decide ((0 : Int) ≤ (0 : Int)) && decide ((0 : Int) < ((x1.2.1.1.size : Int) : Int)) then (
  let x17 : Int := (bt x1.2.1.1 (0 : Int))
  let x18 : Bool := (decide (x17 ≤ (90 : Int)))
  some ((), (((0 : Int), ()), ((x18, ()), ()))))
  else none)
  else (
  some ((), (((0 : Int), ()), ((false, ()), ())))))
  else none)
  else (
  some ((), (((0 : Int), ()), ((false, ()), ())))))))))))))))
def g_mail_Zone (d : Unit × ((ByteArray × Unit) × Unit)) : Option (Unit × ((Int × Unit) × ((Bool × Unit) × Unit))) := f_mail_Zone_m () d
theorem ok_mail_Zone : FnOk Tryz.prog ET0 122 pi_mail_Zone po_mail_Zone g_mail_Zone :=
  fn0 (E := (E0.add 190 (typedSem pi_mail_great po_mail_great g_mail_great))) (envOk_add e0_ok (typed_ok ok_mail_great)) (fn := Tryz.f122) Tryz.func122 (by kernel_rfl) (by kernel_rfl) [.tmp 2, .tmp 3] (by kernel_rfl) rfl rfl rfl [] fun d => by kernel_rfl

@[reducible] def pi_scan_Scanner_string_End : PSh := ⟨[], [.mk false [.v (.nptr (.pair .str (.pair (.int .i64) .err)))]]⟩
@[reducible] def po_scan_Scanner_string_End : PSh := ⟨[], [.mk false [vE]]⟩
def f_scan_Scanner_string_End_m (T : Unit) (d : Unit × (((Option (ByteArray × (Int × (Option Int)))) × Unit) × Unit)) : Option (Unit × (((Option Int) × Unit) × Unit)) :=
  (g_scan_Scanner_string_Err ((), d.2)).bind fun x1 =>
  let x2 : Bool := (!x1.2.1.1.isNone)
  bif x2 then (
  some ((), x1.2))
  else (
  (g_scan_Scanner_string_Left ((), d.2)).bind fun x3 =>
  let x4 : Bool := (decide (x3.2.1.1 > (0 : Int)))
  bif x4 then (
  let x5 : (Option Int) := (some (2 : Int))
  some ((), ((x5, ()), ())))
  else (
  some ((), (((none : Option Int), ()), ()))))
def g_scan_Scanner_string_End (d : Unit × (((Option (ByteArray × (Int × (Option Int)))) × Unit) × Unit)) : Option (Unit × (((Option Int) × Unit) × Unit)) := f_scan_Scanner_string_End_m () d
theorem ok_scan_Scanner_string_End : FnOk Tryz.prog ET0 50 pi_scan_Scanner_string_End po_scan_Scanner_string_End g_scan_Scanner_string_End :=
  fn0 (E := ((E0.add 112 (typedSem pi_scan_Scanner_string_Err po_scan_Scanner_string_Err g_scan_Scanner_string_Err)).add 124 (typedSem pi_scan_Scanner_string_Left po_scan_Scanner_string_Left g_scan_Scanner_string_Left))) (envOk_add (envOk_add e0_ok (typed_ok ok_scan_Scanner_string_Err)) (typed_ok ok_scan_Scanner_string_Left)) (fn := Tryz.f50) Tryz.func50 (by kernel_rfl) (by kernel_rfl) [.tmp 2] (by kernel_rfl) rfl rfl rfl [] fun d => by kernel_rfl

@[reducible] def pi_num_Div : PSh := ⟨[], [.mk false [vI], .mk false [vI]]⟩
@[reducible] def po_num_Div : PSh := ⟨[], [.mk false [vI], .mk false [vE]]⟩
def f_num_Div_m (T : Unit) (d : Unit × ((Int × Unit) × ((Int × Unit) × Unit))) : Option (Unit × ((Int × Unit) × (((Option Int) × Unit) × Unit))) :=
  let x1 : Bool := (d.2.2.1.1 == (0 : Int))
  bif x1 then (
  let x2 : (Option Int) := (some (1 : Int))
  some ((), (((0 : Int), ()), ((x2, ()), ()))))
  else (
  let x3 : Bool := (d.2.1.1 == (-9223372036854775808 : Int))
  bif x3 then (
  let x4 : Bool := (d.2.2.1.1 == (-1 : Int))
  bif x4 then (
  let x5 : (Option Int) := (some (5 : Int))
  some ((), (((0 : Int), ()), ((x5, ()), ()))))
  else (
  bif (d.2.2.1.1 == 0) then (
  none)
  else (
  let x6 : Int := (iquo .i64 d.2.1.1 d.2.2.1.1)
  bif (d.2.2.1.1 == 0) then (
  none)
  else (
  let x7 : Int := (Int.tmod d.2.1.1 d.2.2.1.1)
  let x8 : Bool := (x7 != (0 : Int))
  bif x8 then (
  let x9 : Bool := (decide (d.2.1.1 < (0 : Int)))
  let x10 : Bool := (decide (d.2.2.1.1 < (0 : Int)))
  let x11 : Bool := (!(x9 == x10))
  bif x11 then (
  let x12 : Int := (isub .i64 x6 (1 : Int))
  some ((), ((x12, ()), (((none : Option Int), ()), ()))))
  else (
  some ((), ((x6, ()), (((none : Option Int), ()), ())))))
  else (
  some ((), ((x6, ()), (((none : Option Int), ()), ()))))))))
  else (
  bif (d.2.2.1.1 == 0) then (
  none)
  else (
  let x13 : Int := (iquo .i64 d.2.1.1 d.2.2.1.1)
  bif (d.2.2.1.1 == 0) then (
  none)
  else (
  let x14 : Int := (Int.tmod d.2.1.1 d.2.2.1.1)
  let x15 : Bool := (x14 != (0 : Int))
  bif x15 then (
  let x16 : Bool := (decide (d.2.1.1 < (0 : Int)))
  let x17 : Bool := (decide (d.2.2.1.1 < (0 : Int)))
  let x18 : Bool := (!(x16 == x17))
  bif x18 then (
  let x19 : Int := (isub .i64 x13 (1 : Int))
  some ((), ((x19, ()), (((none : Option Int), ()), ()))))
  else (
  some ((), ((x13, ()), (((none : Option Int), ()), ())))))
  else (
  some ((), ((x13, ()), (((none : Option Int), ()), ()))))))))
def g_num_Div (d : Unit × ((Int × Unit) × ((Int × Unit) × Unit))) : Option (Unit × ((Int × Unit) × (((Option Int) × Unit) × Unit))) := f_num_Div_m () d
theorem ok_num_Div : FnOk Tryz.prog ET0 173 pi_num_Div po_num_Div g_num_Div :=
  fn0 (E := E0) e0_ok (fn := Tryz.f173) Tryz.func173 (by kernel_rfl) (by kernel_rfl) [.tmp 4, .tmp 5] (by kernel_rfl) rfl rfl rfl [] fun d => by kernel_rfl

@[reducible] def pi_num_Mod : PSh := ⟨[], [.mk false [vI], .mk false [vI]]⟩
@[reducible] def po_num_Mod : PSh := ⟨[], [.mk false [vI], .mk false [vE]]⟩
def f_num_Mod_m (T : Unit) (d : Unit × ((Int × Unit) × ((Int × Unit) × Unit))) : Option (Unit × ((Int × Unit) × (((Option Int) × Unit) × Unit))) :=
  let x1 : Bool := (d.2.2.1.1 == (0 : Int))
  bif x1 then (
  let x2 : (Option Int) := (some (1 : Int))
  some ((), (((0 : Int), ()), ((x2, ()), ()))))
  else (
  let x3 : Bool := (d.2.2.1.1 == (-1 : Int))
  bif x3 then (
  some ((), (((0 : Int), ()), (((none : Option Int), ()), ()))))
  else (
  bif (d.2.2.1.1 == 0) then (
  none)
  else (
  let x4 : Int := (Int.tmod d.2.1.1 d.2.2.1.1)
  let x5 : Bool := (x4 != (0 : Int))
  bif x5 then (
  let x6 : Bool := (decide (x4 < (0 : Int)))
  let x7 : Bool := (decide (d.2.2.1.1 < (0 : Int)))
  let x8 : Bool := (!(x6 == x7))
  bif x8 then (
  let x9 : Int := (iadd .i64 x4 d.2.2.1.1)
  some ((), ((x9, ()), (((none : Option Int), ()), ()))))
  else (
  some ((), ((x4, ()), (((none : Option Int), ()), ())))))
  else (
  some ((), ((x4, ()), (((none : Option Int), ()), ())))))))
def g_num_Mod (d : Unit × ((Int × Unit) × ((Int × Unit) × Unit))) : Option (Unit × ((Int × Unit) × (((Option Int) × Unit) × Unit))) := f_num_Mod_m () d
theorem ok_num_Mod : FnOk Tryz.prog ET0 174 pi_num_Mod po_num_Mod g_num_Mod :=
  fn0 (E := E0) e0_ok (fn := Tryz.f174) Tryz.func174 (by kernel_rfl) (by kernel_rfl) [.tmp 4, .tmp 5] (by kernel_rfl) rfl rfl rfl [] fun d => by kernel_rfl

@[reducible] def pi_num_Split : PSh := ⟨[], [.mk false [vI], .mk false [vI]]⟩
@[reducible] def po_num_Split : PSh := ⟨[], [.mk false [vI], .mk false [vI], .mk false [vE]]⟩
def f_num_Split_m (T : Unit) (d : Unit × ((Int × Unit) × ((Int × Unit) × Unit))) : Option (Unit × ((Int × Unit) × ((Int × Unit) × (((Option Int) × Unit) × Unit)))) :=
  let x1 : Bool := (decide (d.2.2.1.1 < (1 : Int)))
  bif x1 then (
  let x2 : (Option Int) := (some (1 : Int))
  some ((), (((0 : Int), ()), (((0 : Int), ()), ((x2, ()), ())))))
  else (
  (g_num_Div ((), d.2)).bind fun x3 =>
  let x4 : Bool := (!x3.2.2.1.1.isNone)
  bif x4 then (
  some ((), (((0 : Int), ()), (((0 : Int), ()), x3.2.2))))
  else (
  (g_num_Mod ((), d.2)).bind fun x5 =>
  let x6 : Bool := (!x5.2.2.1.1.isNone)
  bif x6 then (
  some ((), (((0 : Int), ()), (((0 : Int), ()), x5.2.2))))
  else (
  some ((), (x3.2.1, (x5.2.1, (((none : Option Int), ()), ())))))))
def g_num_Split (d : Unit × ((Int × Unit) × ((Int × Unit) × Unit))) : Option (Unit × ((Int × Unit) × ((Int × Unit) × (((Option Int) × Unit) × Unit)))) := f_num_Split_m () d
theorem ok_num_Split : FnOk Tryz.prog ET0 100 pi_num_Split po_num_Split g_num_Split :=
  fn0 (E := ((E0.add 173 (typedSem pi_num_Div po_num_Div g_num_Div)).add 174 (typedSem pi_num_Mod po_num_Mod g_num_Mod))) (envOk_add (envOk_add e0_ok (typed_ok ok_num_Div)) (typed_ok ok_num_Mod)) (fn := Tryz.f100) Tryz.func100 (by kernel_rfl) (by kernel_rfl) [.tmp 4, .tmp 5, .tmp 6] (by kernel_rfl) rfl rfl rfl [] fun d => by kernel_rfl

@[reducible] def pi_day_right : PSh := ⟨[], [.mk false [vI]]⟩
@[reducible] def po_day_right : PSh := ⟨[], [.mk false [vB]]⟩
def f_day_right_m (T : Unit) (d : Unit × ((Int × Unit) × Unit)) : Option (Unit × ((Bool × Unit) × Unit)) :=
  let x1 : Bool := (decide (d.2.1.1 ≥ (-9999 : Int)))
  bif x1 then (
  let x2 : Bool := (decide (d.2.1.1 ≤ (9999 : Int)))
  some ((), ((x2, ()), ())))
  else (
  some ((), ((false, ()), ())))
def g_day_right (d : Unit × ((Int × Unit) × Unit)) : Option (Unit × ((Bool × Unit) × Unit)) := f_day_right_m () d
theorem ok_day_right : FnOk Tryz.prog ET0 235 pi_day_right po_day_right g_day_right :=
  fn0 (E := E0) e0_ok (fn := Tryz.f235) Tryz.func235 (by kernel_rfl) (by kernel_rfl) [.tmp 2] (by kernel_rfl) rfl rfl rfl [] fun d => by kernel_rfl

@[reducible] def pi_day_Leap : PSh := ⟨[], [.mk false [vI]]⟩
@[reducible] def po_day_Leap : PSh := ⟨[], [.mk false [vB]]⟩
def f_day_Leap_m (T : Unit) (d : Unit × ((Int × Unit) × Unit)) : Option (Unit × ((Bool × Unit) × Unit)) :=
  let x1 : Int := (Int.tmod d.2.1.1 (4 : Int))
  let x2 : Bool := (x1 == (0 : Int))
  bif x2 then (
  let x3 : Int := (Int.tmod d.2.1.1 (100 : Int))
  let x4 : Bool := (x3 != (0 : Int))
  bif x4 then (
  some ((), ((true, ()), ())))
  else (
  let x5 : Int := (Int.tmod d.2.1.1 (400 : Int))
  let x6 : Bool := (x5 == (0 : Int))
  some ((), ((x6, ()), ()))))
  else (
  some ((), ((false, ()), ())))
def g_day_Leap (d : Unit × ((Int × Unit) × Unit)) : Option (Unit × ((Bool × Unit) × Unit)) := f_day_Leap_m () d
theorem ok_day_Leap : FnOk Tryz.prog ET0 236 pi_day_Leap po_day_Leap g_day_Leap :=
  fn0 (E := E0) e0_ok (fn := Tryz.f236) Tryz.func236 (by kernel_rfl) (by kernel_rfl) [.tmp 2] (by kernel_rfl) rfl rfl rfl [] fun d => by kernel_rfl

@[reducible] def pi_day_Month : PSh := ⟨[], [.mk false [vI], .mk false [vI]]⟩
@[reducible] def po_day_Month : PSh := ⟨[], [.mk false [vI], .mk false [vE]]⟩
def f_day_Month_m (T : Unit) (d : Unit × ((Int × Unit) × ((Int × Unit) × Unit))) : Option (Unit × ((Int × Unit) × (((Option Int) × Unit) × Unit))) :=
  (g_day_right ((), (d.2.1, ()))).bind fun x1 =>
  let x2 : Bool := (!x1.2.1.1)
  bif x2 then (
  let x3 : (Option Int) := (some (13 : Int))
  some ((), (((0 : Int), ()), ((x3, ()), ()))))
  else (
  let x4 : Bool := (decide (d.2.2.1.1 < (1 : Int)))
  bif x4 then (
  let x5 : (Option Int) := (some (1 : Int))
  some ((), (((0 : Int), ()), ((x5, ()), ()))))
  else (
  let x6 : Bool := (decide (d.2.2.1.1 > (12 : Int)))
  bif x6 then (
  let x7 : (Option Int) := (some (1 : Int))
  some ((), (((0 : Int), ()), ((x7, ()), ()))))
  else (
  let x8 : Bool := (d.2.2.1.1 == (2 : Int))
  bif x8 then (
  (g_day_Leap ((), (d.2.1, ()))).bind fun x9 =>
  bif x9.2.1.1 then (
  some ((), (((29 : Int), ()), (((none : Option Int), ()), ()))))
  else (
  let x10 : Bool := (d.2.2.1.1 == (2 : Int))
  bif x10 then (
  some ((), (((28 : Int), ()), (((none : Option Int), ()), ()))))
  else (
  let x11 : Int := (iquo .i64 d.2.2.1.1 (8 : Int))
  let x12 : Int := (iadd .i64 d.2.2.1.1 x11)
  let x13 : Int := (Int.tmod x12 (2 : Int))
  let x14 : Int := (iadd .i64 (30 : Int) x13)
  some ((), ((x14, ()), (((none : Option Int), ()), ()))))))
  else (
  let x15 : Bool := (d.2.2.1.1 == (2 : Int))
  bif x15 then (
  some ((), (((28 : Int), ()), (((none : Option Int), ()), ()))))
  else (
  let x16 : Int := (iquo .i64 d.2.2.1.1 (8 : Int))
  let x17 : Int := (iadd .i64 d.2.2.1.1 x16)
  let x18 : Int := (Int.tmod x17 (2 : Int))
  let x19 : Int := (iadd .i64 (30 : Int) x18)
  some ((), ((x19, ()), (((none : Option Int), ()), ()))))))))
def g_day_Month (d : Unit × ((Int × Unit) × ((Int × Unit) × Unit))) : Option (Unit × ((Int × Unit) × (((Option Int) × Unit) × Unit))) := f_day_Month_m () d
theorem ok_day_Month : FnOk Tryz.prog ET0 224 pi_day_Month po_day_Month g_day_Month :=
  fn0 (E := ((E0.add 235 (typedSem pi_day_right po_day_right g_day_right)).add 236 (typedSem pi_day_Leap po_day_Leap g_day_Leap))) (envOk_add (envOk_add e0_ok (typed_ok ok_day_right)) (typed_ok ok_day_Leap)) (fn := Tryz.f224) Tryz.func224 (by kernel_rfl) (by kernel_rfl) [.tmp 4, .tmp 5] (by kernel_rfl) rfl rfl rfl [] fun d => by kernel_rfl

@[reducible] def pi_day_check : PSh := ⟨[], [.mk false [vI], .mk false [vI], .mk false [vI]]⟩
@[reducible] def po_day_check : PSh := ⟨[], [.mk false [vE]]⟩
def f_day_check_m (T : Unit) (d : Unit × ((Int × Unit) × ((Int × Unit) × ((Int × Unit) × Unit)))) : Option (Unit × (((Option Int) × Unit) × Unit)) :=
  (g_day_Month ((), (d.2.1, (d.2.2.1, ())))).bind fun x1 =>
  let x2 : Bool := (!x1.2.2.1.1.isNone)
  bif x2 then (
  some ((), x1.2.2))
  else (
  let x3 : Bool := (decide (d.2.2.2.1.1 < (1 : Int)))
  bif x3 then (
  let x4 : (Option Int) := (some (1 : Int))
  some ((), ((x4, ()), ())))
  else (
  let x5 : Bool := (decide (d.2.2.2.1.1 > x1.2.1.1))
  bif x5 then (
  let x6 : (Option Int) := (some (1 : Int))
  some ((), ((x6, ()), ())))
  else (
  some ((), (((none : Option Int), ()), ())))))
def g_day_check (d : Unit × ((Int × Unit) × ((Int × Unit) × ((Int × Unit) × Unit)))) : Option (Unit × (((Option Int) × Unit) × Unit)) := f_day_check_m () d
theorem ok_day_check : FnOk Tryz.prog ET0 191 pi_day_check po_day_check g_day_check :=
  fn0 (E := (E0.add 224 (typedSem pi_day_Month po_day_Month g_day_Month))) (envOk_add e0_ok (typed_ok ok_day_Month)) (fn := Tryz.f191) Tryz.func191 (by kernel_rfl) (by kernel_rfl) [.tmp 6] (by kernel_rfl) rfl rfl rfl [] fun d => by kernel_rfl

@[reducible] def pi_day_floor : PSh := ⟨[], [.mk false [vI], .mk false [vI]]⟩
@[reducible] def po_day_floor : PSh := ⟨[], [.mk false [vI]]⟩
def f_day_floor_m (T : Unit) (d : Unit × ((Int × Unit) × ((Int × Unit) × Unit))) : Option (Unit × ((Int × Unit) × Unit)) :=
  bif (d.2.2.1.1 == 0) then (
  none)
  else (
  let x1 : Int := (iquo .i64 d.2.1.1 d.2.2.1.1)
  bif (d.2.2.1.1 == 0) then (
  none)
  else (
  let x2 : Int := (Int.tmod d.2.1.1 d.2.2.1.1)
  let x3 : Bool := (decide (x2 < (0 : Int)))
  bif x3 then (
  let x4 : Int := (isub .i64 x1 (1 : Int))
  some ((), ((x4, ()), ())))
  else (
  some ((), ((x1, ()), ())))))
def g_day_floor (d : Unit × ((Int × Unit) × ((Int × Unit) × Unit))) : Option (Unit × ((Int × Unit) × Unit)) := f_day_floor_m () d
theorem ok_day_floor : FnOk Tryz.prog ET0 162 pi_day_floor po_day_floor g_day_floor :=
  fn0 (E := E0) e0_ok (fn := Tryz.f162) Tryz.func162 (by kernel_rfl) (by kernel_rfl) [.tmp 4] (by kernel_rfl) rfl rfl rfl [] fun d => by kernel_rfl

@[reducible] def pi_day_number : PSh := ⟨[], [.mk false [vI], .mk false [vI], .mk false [vI]]⟩
@[reducible] def po_day_number : PSh := ⟨[], [.mk false [vI]]⟩
def f_day_number_m (T : Unit) (d : Unit × ((Int × Unit) × ((Int × Unit) × ((Int × Unit) × Unit)))) : Option (Unit × ((Int × Unit) × Unit)) :=
  let x1 : Bool := (decide (d.2.2.1.1 ≤ (2 : Int)))
  bif x1 then (
  let x2 : Int := (isub .i64 d.2.1.1 (1 : Int))
  let x3 : Int := (iadd .i64 d.2.2.1.1 (12 : Int))
  (g_day_floor ((), ((x2, ()), (((400 : Int), ()), ())))).bind fun x4 =>
  let x5 : Int := (imul .i64 x4.2.1.1 (400 : Int))
  let x6 : Int := (isub .i64 x2 x5)
  let x7 : Int := (isub .i64 x3 (3 : Int))
  let x8 : Int := (imul .i64 (153 : Int) x7)
  let x9 : Int := (iadd .i64 x8 (2 : Int))
  let x10 : Int := (iquo .i64 x9 (5 : Int))
  let x11 : Int := (iadd .i64 x10 d.2.2.2.1.1)
  let x12 : Int := (isub .i64 x11 (1 : Int))
  let x13 : Int := (imul .i64 x4.2.1.1 (146097 : Int))
  let x14 : Int := (imul .i64 x6 (365 : Int))
  let x15 : Int := (iadd .i64 x13 x14)
  let x16 : Int := (iquo .i64 x6 (4 : Int))
  let x17 : Int := (iadd .i64 x15 x16)
  let x18 : Int := (iquo .i64 x6 (100 : Int))
  let x19 : Int := (isub .i64 x17 x18)
  let x20 : Int := (iadd .i64 x19 x12)
  let x21 : Int := (isub .i64 x20 (719468 : Int))
  some ((), ((x21, ()), ())))
  else (
  (g_day_floor ((), (d.2.1, (((400 : Int), ()), ())))).bind fun x22 =>
  let x23 : Int := (imul .i64 x22.2.1.1 (400 : Int))
  let x24 : Int := (isub .i64 d.2.1.1 x23)
  let x25 : Int := (isub .i64 d.2.2.1.1 (3 : Int))
  let x26 : Int := (imul .i64 (153 : Int) x25)
  let x27 : Int := (iadd .i64 x26 (2 : Int))
  let x28 : Int := (iquo .i64 x27 (5 : Int))
  let x29 : Int := (iadd .i64 x28 d.2.2.2.1.1)
  let x30 : Int := (isub .i64 x29 (1 : Int))
  let x31 : Int := (imul .i64 x22.2.1.1 (146097 : Int))
  let x32 : Int := (imul .i64 x24 (365 : Int))
  let x33 : Int := (iadd .i64 x31 x32)
  let x34 : Int := (iquo .i64 x24 (4 : Int))
  let x35 : Int := (iadd .i64 x33 x34)
  let x36 : Int := (iquo .i64 x24 (100 : Int))
  let x37 : Int := (isub .i64 x35 x36)
  let x38 : Int := (iadd .i64 x37 x30)
  let x39 : Int := (isub .i64 x38 (719468 : Int))
  some ((), ((x39, ()), ())))
def g_day_number (d : Unit × ((Int × Unit) × ((Int × Unit) × ((Int × Unit) × Unit)))) : Option (Unit × ((Int × Unit) × Unit)) := f_day_number_m () d
theorem ok_day_number : FnOk Tryz.prog ET0 192 pi_day_number po_day_number g_day_number :=
  fn0 (E := (E0.add 162 (typedSem pi_day_floor po_day_floor g_day_floor))) (envOk_add e0_ok (typed_ok ok_day_floor)) (fn := Tryz.f192) Tryz.func192 (by kernel_rfl) (by kernel_rfl) [.tmp 6] (by kernel_rfl) rfl rfl rfl [] fun d => by kernel_rfl

@[reducible] def pi_day_Of : PSh := ⟨[], [.mk false [vI], .mk false [vI], .mk false [vI]]⟩
@[reducible] def po_day_Of : PSh := ⟨[], [.mk false [vI], .mk false [vE]]⟩
def f_day_Of_m (T : Unit) (d : Unit × ((Int × Unit) × ((Int × Unit) × ((Int × Unit) × Unit)))) : Option (Unit × ((Int × Unit) × (((Option Int) × Unit) × Unit))) :=
  (g_day_check ((), d.2)).bind fun x1 =>
  let x2 : Bool := (!x1.2.1.1.isNone)
  bif x2 then (
  some ((), (((0 : Int), ()), x1.2)))
  else (
  (g_day_number ((), d.2)).bind fun x3 =>
  some ((), (x3.2.1, (((none : Option Int), ()), ()))))
def g_day_Of (d : Unit × ((Int × Unit) × ((Int × Unit) × ((Int × Unit) × Unit)))) : Option (Unit × ((Int × Unit) × (((Option Int) × Unit) × Unit))) := f_day_Of_m () d
theorem ok_day_Of : FnOk Tryz.prog ET0 127 pi_day_Of po_day_Of g_day_Of :=
  fn0 (E := ((E0.add 191 (typedSem pi_day_check po_day_check g_day_check)).add 192 (typedSem pi_day_number po_day_number g_day_number))) (envOk_add (envOk_add e0_ok (typed_ok ok_day_check)) (typed_ok ok_day_number)) (fn := Tryz.f127) Tryz.func127 (by kernel_rfl) (by kernel_rfl) [.tmp 6, .tmp 7] (by kernel_rfl) rfl rfl rfl [] fun d => by kernel_rfl

@[reducible] def pi_label_Label_place : PSh := ⟨[], [.mk true [vI, vI, vI, vI, vI, vI, vI, vI]]⟩
@[reducible] def po_label_Label_place : PSh := ⟨[], [.mk false [vI], .mk false [vI], .mk false [vE]]⟩
def f_label_Label_place_m (T : Unit) (d : Unit × ((Int × (Int × (Int × (Int × (Int × (Int × (Int × (Int × Unit)))))))) × Unit)) : Option (Unit × ((Int × Unit) × ((Int × Unit) × (((Option Int) × Unit) × Unit)))) :=
  (g_day_Of ((), ((d.2.1.1, ()), ((d.2.1.2.1, ()), ((d.2.1.2.2.1, ()), ()))))).bind fun x1 =>
  let x2 : Bool := (!x1.2.2.1.1.isNone)
  bif x2 then (
  some ((), (((0 : Int), ()), (((0 : Int), ()), x1.2.2))))
  else (
  let x3 : Int := (imul .i64 d.2.1.2.2.2.1 (60 : Int))
  let x4 : Int := (iadd .i64 x3 d.2.1.2.2.2.2.1)
  let x5 : Int := (isub .i64 x4 d.2.1.2.2.2.2.2.2.2.1)
  (g_num_Split ((), ((x5, ()), (((1440 : Int), ()), ())))).bind fun x6 =>
  let x7 : Bool := (!x6.2.2.2.1.1.isNone)
  bif x7 then (
  some ((), (((0 : Int), ()), (((0 : Int), ()), x6.2.2.2))))
  else (
  let x8 : Int := (iadd .i64 x1.2.1.1 x6.2.1.1)
  some ((), ((x8, ()), (x6.2.2.1, (((none : Option Int), ()), ()))))))
def g_label_Label_place (d : Unit × ((Int × (Int × (Int × (Int × (Int × (Int × (Int × (Int × Unit)))))))) × Unit)) : Option (Unit × ((Int × Unit) × ((Int × Unit) × (((Option Int) × Unit) × Unit)))) := f_label_Label_place_m () d
theorem ok_label_Label_place : FnOk Tryz.prog ET0 84 pi_label_Label_place po_label_Label_place g_label_Label_place :=
  fn0 (E := ((E0.add 100 (typedSem pi_num_Split po_num_Split g_num_Split)).add 127 (typedSem pi_day_Of po_day_Of g_day_Of))) (envOk_add (envOk_add e0_ok (typed_ok ok_num_Split)) (typed_ok ok_day_Of)) (fn := Tryz.f84) Tryz.func84 (by kernel_rfl) (by kernel_rfl) [.tmp 2, .tmp 3, .tmp 4] (by kernel_rfl) rfl rfl rfl [] fun d => by kernel_rfl

@[reducible] def pi_label_in : PSh := ⟨[], [.mk false [vI], .mk false [vI]]⟩
@[reducible] def po_label_in : PSh := ⟨[], [.mk false [vB]]⟩
def f_label_in_m (T : Unit) (d : Unit × ((Int × Unit) × ((Int × Unit) × Unit))) : Option (Unit × ((Bool × Unit) × Unit)) :=
  let x1 : Bool := (decide (d.2.1.1 ≥ (0 : Int)))
  bif x1 then (
  let x2 : Bool := (decide (d.2.1.1 < d.2.2.1.1))
  some ((), ((x2, ()), ())))
  else (
  some ((), ((false, ()), ())))
def g_label_in (d : Unit × ((Int × Unit) × ((Int × Unit) × Unit))) : Option (Unit × ((Bool × Unit) × Unit)) := f_label_in_m () d
theorem ok_label_in : FnOk Tryz.prog ET0 163 pi_label_in po_label_in g_label_in :=
  fn0 (E := E0) e0_ok (fn := Tryz.f163) Tryz.func163 (by kernel_rfl) (by kernel_rfl) [.tmp 4] (by kernel_rfl) rfl rfl rfl [] fun d => by kernel_rfl

@[reducible] def pi_label_shifts : PSh := ⟨[], [.mk false [vI]]⟩
@[reducible] def po_label_shifts : PSh := ⟨[], [.mk false [vB]]⟩
def f_label_shifts_m (T : Unit) (d : Unit × ((Int × Unit) × Unit)) : Option (Unit × ((Bool × Unit) × Unit)) :=
  let x1 : Bool := (decide (d.2.1.1 > (-1440 : Int)))
  bif x1 then (
  let x2 : Bool := (decide (d.2.1.1 < (1440 : Int)))
  some ((), ((x2, ()), ())))
  else (
  some ((), ((false, ()), ())))
def g_label_shifts (d : Unit × ((Int × Unit) × Unit)) : Option (Unit × ((Bool × Unit) × Unit)) := f_label_shifts_m () d
theorem ok_label_shifts : FnOk Tryz.prog ET0 166 pi_label_shifts po_label_shifts g_label_shifts :=
  fn0 (E := E0) e0_ok (fn := Tryz.f166) Tryz.func166 (by kernel_rfl) (by kernel_rfl) [.tmp 2] (by kernel_rfl) rfl rfl rfl [] fun d => by kernel_rfl

@[reducible] def pi_label_Label_fields : PSh := ⟨[], [.mk true [vI, vI, vI, vI, vI, vI, vI, vI]]⟩
@[reducible] def po_label_Label_fields : PSh := ⟨[], [.mk false [vE]]⟩
def f_label_Label_fields_m (T : Unit) (d : Unit × ((Int × (Int × (Int × (Int × (Int × (Int × (Int × (Int × Unit)))))))) × Unit)) : Option (Unit × (((Option Int) × Unit) × Unit)) :=
  (g_day_Of ((), ((d.2.1.1, ()), ((d.2.1.2.1, ()), ((d.2.1.2.2.1, ()), ()))))).bind fun x1 =>
  let x2 : Bool := (!x1.2.2.1.1.isNone)
  bif x2 then (
  some ((), x1.2.2))
  else (
  (g_label_in ((), ((d.2.1.2.2.2.1, ()), (((24 : Int), ()), ())))).bind fun x3 =>
  let x4 : Bool := (!x3.2.1.1)
  bif x4 then (
  let x5 : (Option Int) := (some (1 : Int))
  some ((), ((x5, ()), ())))
  else (
  (g_label_in ((), ((d.2.1.2.2.2.2.1, ()), (((60 : Int), ()), ())))).bind fun x6 =>
  let x7 : Bool := (!x6.2.1.1)
  bif x7 then (
  let x8 : (Option Int) := (some (1 : Int))
  some ((), ((x8, ()), ())))
  else (
  (g_label_in ((), ((d.2.1.2.2.2.2.2.1, ()), (((61 : Int), ()), ())))).bind fun x9 =>
  let x10 : Bool := (!x9.2.1.1)
  bif x10 then (
  let x11 : (Option Int) := (some (1 : Int))
  some ((), ((x11, ()), ())))
  else (
  (g_label_in ((), ((d.2.1.2.2.2.2.2.2.1, ()), (((1000000000 : Int), ()), ())))).bind fun x12 =>
  let x13 : Bool := (!x12.2.1.1)
  bif x13 then (
  let x14 : (Option Int) := (some (1 : Int))
  some ((), ((x14, ()), ())))
  else (
  (g_label_shifts ((), (d.2.1.2.2.2.2.2.2.2, ()))).bind fun x15 =>
  let x16 : Bool := (!x15.2.1.1)
  bif x16 then (
  let x17 : (Option Int) := (some (1 : Int))
  some ((), ((x17, ()), ())))
  else (
  some ((), (((none : Option Int), ()), ()))))))))
def g_label_Label_fields (d : Unit × ((Int × (Int × (Int × (Int × (Int × (Int × (Int × (Int × Unit)))))))) × Unit)) : Option (Unit × (((Option Int) × Unit) × Unit)) := f_label_Label_fields_m () d
theorem ok_label_Label_fields : FnOk Tryz.prog ET0 125 pi_label_Label_fields po_label_Label_fields g_label_Label_fields :=
  fn0 (E := (((E0.add 127 (typedSem pi_day_Of po_day_Of g_day_Of)).add 163 (typedSem pi_label_in po_label_in g_label_in)).add 166 (typedSem pi_label_shifts po_label_shifts g_label_shifts))) (envOk_add (envOk_add (envOk_add e0_ok (typed_ok ok_day_Of)) (typed_ok ok_label_in)) (typed_ok ok_label_shifts)) (fn := Tryz.f125) Tryz.func125 (by kernel_rfl) (by kernel_rfl) [.tmp 2] (by kernel_rfl) rfl rfl rfl [] fun d => by kernel_rfl

@[reducible] def pi_day_First : PSh := ⟨[], []⟩
@[reducible] def po_day_First : PSh := ⟨[], [.mk false [vI]]⟩
def f_day_First_m (T : Unit) (d : Unit × Unit) : Option (Unit × ((Int × Unit) × Unit)) :=
  (g_day_number ((), (((-9999 : Int), ()), (((1 : Int), ()), (((1 : Int), ()), ()))))).bind fun x1 =>
  some ((), x1.2)
def g_day_First (d : Unit × Unit) : Option (Unit × ((Int × Unit) × Unit)) := f_day_First_m () d
theorem ok_day_First : FnOk Tryz.prog ET0 160 pi_day_First po_day_First g_day_First :=
  fn0 (E := (E0.add 192 (typedSem pi_day_number po_day_number g_day_number))) (envOk_add e0_ok (typed_ok ok_day_number)) (fn := Tryz.f160) Tryz.func160 (by kernel_rfl) (by kernel_rfl) [.tmp 0] (by kernel_rfl) rfl rfl rfl [] fun d => by kernel_rfl

@[reducible] def pi_day_Last : PSh := ⟨[], []⟩
@[reducible] def po_day_Last : PSh := ⟨[], [.mk false [vI]]⟩
def f_day_Last_m (T : Unit) (d : Unit × Unit) : Option (Unit × ((Int × Unit) × Unit)) :=
  (g_day_number ((), (((9999 : Int), ()), (((12 : Int), ()), (((31 : Int), ()), ()))))).bind fun x1 =>
  some ((), x1.2)
def g_day_Last (d : Unit × Unit) : Option (Unit × ((Int × Unit) × Unit)) := f_day_Last_m () d
theorem ok_day_Last : FnOk Tryz.prog ET0 161 pi_day_Last po_day_Last g_day_Last :=
  fn0 (E := (E0.add 192 (typedSem pi_day_number po_day_number g_day_number))) (envOk_add e0_ok (typed_ok ok_day_number)) (fn := Tryz.f161) Tryz.func161 (by kernel_rfl) (by kernel_rfl) [.tmp 0] (by kernel_rfl) rfl rfl rfl [] fun d => by kernel_rfl

@[reducible] def pi_label_there : PSh := ⟨[], [.mk false [vI]]⟩
@[reducible] def po_label_there : PSh := ⟨[], [.mk false [vB]]⟩
def f_label_there_m (T : Unit) (d : Unit × ((Int × Unit) × Unit)) : Option (Unit × ((Bool × Unit) × Unit)) :=
  (g_day_First ((), ())).bind fun x1 =>
  let x2 : Bool := (decide (d.2.1.1 ≥ x1.2.1.1))
  bif x2 then (
  (g_day_Last ((), ())).bind fun x3 =>
  let x4 : Bool := (decide (d.2.1.1 ≤ x3.2.1.1))
  some ((), ((x4, ()), ())))
  else (
  some ((), ((false, ()), ())))
def g_label_there (d : Unit × ((Int × Unit) × Unit)) : Option (Unit × ((Bool × Unit) × Unit)) := f_label_there_m () d
theorem ok_label_there : FnOk Tryz.prog ET0 126 pi_label_there po_label_there g_label_there :=
  fn0 (E := ((E0.add 160 (typedSem pi_day_First po_day_First g_day_First)).add 161 (typedSem pi_day_Last po_day_Last g_day_Last))) (envOk_add (envOk_add e0_ok (typed_ok ok_day_First)) (typed_ok ok_day_Last)) (fn := Tryz.f126) Tryz.func126 (by kernel_rfl) (by kernel_rfl) [.tmp 2] (by kernel_rfl) rfl rfl rfl [] fun d => by kernel_rfl

@[reducible] def pi_label_Check : PSh := ⟨[], [.mk true [vI, vI, vI, vI, vI, vI, vI, vI]]⟩
@[reducible] def po_label_Check : PSh := ⟨[], [.mk false [vE]]⟩
def f_label_Check_m (T : Unit) (d : Unit × ((Int × (Int × (Int × (Int × (Int × (Int × (Int × (Int × Unit)))))))) × Unit)) : Option (Unit × (((Option Int) × Unit) × Unit)) :=
  (g_label_Label_fields ((), d.2)).bind fun x1 =>
  let x2 : Bool := (!x1.2.1.1.isNone)
  bif x2 then (
  some ((), x1.2))
  else (
  (g_label_Label_place ((), d.2)).bind fun x3 =>
  let x4 : Bool := (!x3.2.2.2.1.1.isNone)
  bif x4 then (
  some ((), x3.2.2.2))
  else (
  (g_label_there ((), (x3.2.1, ()))).bind fun x5 =>
  let x6 : Bool := (!x5.2.1.1)
  bif x6 then (
  let x7 : (Option Int) := (some (13 : Int))
  some ((), ((x7, ()), ())))
  else (
  let x8 : Bool := (d.2.1.2.2.2.2.2.1 == (60 : Int))
  bif x8 then (
  let x9 : Bool := (x3.2.2.1.1 != (1439 : Int))
  bif x9 then (
  let x10 : (Option Int) := (some (12 : Int))
  some ((), ((x10, ()), ())))
  else (
  some ((), (((none : Option Int), ()), ()))))
  else (
  some ((), (((none : Option Int), ()), ()))))))
def g_label_Check (d : Unit × ((Int × (Int × (Int × (Int × (Int × (Int × (Int × (Int × Unit)))))))) × Unit)) : Option (Unit × (((Option Int) × Unit) × Unit)) := f_label_Check_m () d
theorem ok_label_Check : FnOk Tryz.prog ET0 51 pi_label_Check po_label_Check g_label_Check :=
  fn0 (E := (((E0.add 84 (typedSem pi_label_Label_place po_label_Label_place g_label_Label_place)).add 125 (typedSem pi_label_Label_fields po_label_Label_fields g_label_Label_fields)).add 126 (typedSem pi_label_there po_label_there g_label_there))) (envOk_add (envOk_add (envOk_add e0_ok (typed_ok ok_label_Label_place)) (typed_ok ok_label_Label_fields)) (typed_ok ok_label_there)) (fn := Tryz.f51) Tryz.func51 (by kernel_rfl) (by kernel_rfl) [.tmp 2] (by kernel_rfl) rfl rfl rfl [] fun d => by kernel_rfl

@[reducible] def pi_day_Weekday : PSh := ⟨[], [.mk false [vI]]⟩
@[reducible] def po_day_Weekday : PSh := ⟨[], [.mk false [vI]]⟩
def f_day_Weekday_m (T : Unit) (d : Unit × ((Int × Unit) × Unit)) : Option (Unit × ((Int × Unit) × Unit)) :=
  let x1 : Int := (Int.tmod d.2.1.1 (7 : Int))
  let x2 : Int := (iadd .i64 x1 (3 : Int))
  let x3 : Int := (Int.tmod x2 (7 : Int))
  let x4 : Int := (iadd .i64 x3 (7 : Int))
  let x5 : Int := (Int.tmod x4 (7 : Int))
  let x6 : Int := (iadd .i64 x5 (1 : Int))
  some ((), ((x6, ()), ()))
def g_day_Weekday (d : Unit × ((Int × Unit) × Unit)) : Option (Unit × ((Int × Unit) × Unit)) := f_day_Weekday_m () d
theorem ok_day_Weekday : FnOk Tryz.prog ET0 128 pi_day_Weekday po_day_Weekday g_day_Weekday :=
  fn0 (E := E0) e0_ok (fn := Tryz.f128) Tryz.func128 (by kernel_rfl) (by kernel_rfl) [.tmp 2] (by kernel_rfl) rfl rfl rfl [] fun d => by kernel_rfl

@[reducible] def pi_mail_weekday : PSh := ⟨[], [.mk true [vI, vI, vI, vI, vI, vI, vI, vI]]⟩
@[reducible] def po_mail_weekday : PSh := ⟨[], [.mk false [vI], .mk false [vE]]⟩
def f_mail_weekday_m (T : Unit) (d : Unit × ((Int × (Int × (Int × (Int × (Int × (Int × (Int × (Int × Unit)))))))) × Unit)) : Option (Unit × ((Int × Unit) × (((Option Int) × Unit) × Unit))) :=
  (g_day_Of ((), ((d.2.1.1, ()), ((d.2.1.2.1, ()), ((d.2.1.2.2.1, ()), ()))))).bind fun x1 =>
  let x2 : Bool := (!x1.2.2.1.1.isNone)
  bif x2 then (
  some ((), (((0 : Int), ()), x1.2.2)))
  else (
  (g_day_Weekday ((), (x1.2.1, ()))).bind fun x3 =>
  some ((), (x3.2.1, (((none : Option Int), ()), ()))))
def g_mail_weekday (d : Unit × ((Int × (Int × (Int × (Int × (Int × (Int × (Int × (Int × Unit)))))))) × Unit)) : Option (Unit × ((Int × Unit) × (((Option Int) × Unit) × Unit))) := f_mail_weekday_m () d
theorem ok_mail_weekday : FnOk Tryz.prog ET0 52 pi_mail_weekday po_mail_weekday g_mail_weekday :=
  fn0 (E := ((E0.add 127 (typedSem pi_day_Of po_day_Of g_day_Of)).add 128 (typedSem pi_day_Weekday po_day_Weekday g_day_Weekday))) (envOk_add (envOk_add e0_ok (typed_ok ok_day_Of)) (typed_ok ok_day_Weekday)) (fn := Tryz.f52) Tryz.func52 (by kernel_rfl) (by kernel_rfl) [.tmp 2, .tmp 3] (by kernel_rfl) rfl rfl rfl [] fun d => by kernel_rfl

@[reducible] def pi_scan_Scanner_string_Fail_io : PSh := ⟨[.var 176 [vS, vI, vE]], [.mk false [.ref 0 0], .mk false [vE]]⟩
@[reducible] def po_scan_Scanner_string_Fail_io : PSh := ⟨[.var 176 [vS, vI, vE]], [.mk false [.ref 0 0]]⟩
def f_scan_Scanner_string_Fail_io_m (T : Unit) (d : ((ByteArray × (Int × ((Option Int) × Unit))) × Unit) × (Unit × (((Option Int) × Unit) × Unit))) : Option (((ByteArray × (Int × ((Option Int) × Unit))) × Unit) × (Unit × Unit)) :=
  (g_scan_Scanner_string_going ((), (((some (d.1.1.1, (d.1.1.2.1, d.1.1.2.2.1))), ()), ()))).bind fun x1 =>
  bif x1.2.1.1 then (
  some (((d.1.1.1, (d.1.1.2.1, d.2.2.1)), ()), ((), ())))
  else (
  some (d.1, ((), ())))
def c_scan_Scanner_string_Fail_io : List Nat := []
def L_scan_Scanner_string_Fail_io (_ : Nat) : Pts po_scan_Scanner_string_Fail_io.den := []
def R_scan_Scanner_string_Fail_io (_ : Nat) : PtsR po_scan_Scanner_string_Fail_io.den := []
def E_scan_Scanner_string_Fail_io : Env := ((E0.add 120 (typedSem pi_scan_Scanner_string_going po_scan_Scanner_string_going g_scan_Scanner_string_going)).kp [0])
theorem q_scan_Scanner_string_Fail_io_m (k : Nat) (d : pi_scan_Scanner_string_Fail_io.den) : evCode E_scan_Scanner_string_Fail_io (tb (L_scan_Scanner_string_Fail_io k) (R_scan_Scanner_string_Fail_io k)) c_scan_Scanner_string_Fail_io (bodyOf Tryz.f47) 0 (finKio E_scan_Scanner_string_Fail_io po_scan_Scanner_string_Fail_io [] [(0, none)]) (startSt pi_scan_Scanner_string_Fail_io 10 d) = f_scan_Scanner_string_Fail_io_m () d := by kernel_rfl
def g_scan_Scanner_string_Fail_io (d : ((ByteArray × (Int × ((Option Int) × Unit))) × Unit) × (Unit × (((Option Int) × Unit) × Unit))) : Option (((ByteArray × (Int × ((Option Int) × Unit))) × Unit) × (Unit × Unit)) := f_scan_Scanner_string_Fail_io_m () d
theorem ok_scan_Scanner_string_Fail_io : FnIo Tryz.prog ET0 47 pi_scan_Scanner_string_Fail_io po_scan_Scanner_string_Fail_io 0 [(0, 0, none)] g_scan_Scanner_string_Fail_io :=
  fn_of_bodyIo (E := E_scan_Scanner_string_Fail_io) (envOk_kp (envOk_add e0_ok (typed_ok ok_scan_Scanner_string_going))) (fn := Tryz.f47) Tryz.func47 (by kernel_rfl) (by kernel_rfl) [] [(0, none)] [(0, 0, none)] (by kernel_rfl) (by kernel_rfl) (by kernel_rfl) (by kernel_rfl) (by decide) (by decide) c_scan_Scanner_string_Fail_io L_scan_Scanner_string_Fail_io R_scan_Scanner_string_Fail_io
    (by intro x hx; cases hx) (by intro k x hx; cases hx) (by intro x hx; cases hx) (by intro k x hx; cases hx) (fun d out h => ⟨0, (q_scan_Scanner_string_Fail_io_m 0 d).trans h⟩)

@[reducible] def pi_scan_Scanner_string_take_io : PSh := ⟨[.var 176 [vS, vI, vE]], [.mk false [.ref 0 0], .mk false [vI]]⟩
@[reducible] def po_scan_Scanner_string_take_io : PSh := ⟨[.var 176 [vS, vI, vE]], [.mk false [vS], .mk false [.ref 0 0]]⟩
def f_scan_Scanner_string_take_io_m (T : Unit) (d : ((ByteArray × (Int × ((Option Int) × Unit))) × Unit) × (Unit × ((Int × Unit) × Unit))) : Option (((ByteArray × (Int × ((Option Int) × Unit))) × Unit) × ((ByteArray × Unit) × (Unit × Unit))) :=
  (g_scan_Scanner_string_rest ((), (((some (d.1.1.1, (d.1.1.2.1, d.1.1.2.2.1))), ()), ()))).bind fun x1 =>
  bif decide ((0 : Int) ≤ (0 : Int)) && decide ((0 : Int) ≤ d.2.2.1.1) && decide (d.2.2.1.1 ≤ (x1.2.1.1.size : Int)) then (
  let x2 : ByteArray := (x1.2.1.1.extract (Int.toNat (0 : Int)) (Int.toNat d.2.2.1.1))
  let x3 : Bool := (decide (d.2.2.1.1 > (0 : Int)))
  bif x3 then (
  let x4 : Int := (iadd .i64 d.1.1.2.1 d.2.2.1.1)
  (g_strings_Clone ((), ((x2, ()), ()))).bind fun x5 =>
  some (((d.1.1.1, (x4, d.1.1.2.2)), ()), (x5.2.1, ((), ()))))
  else (
  (g_strings_Clone ((), ((x2, ()), ()))).bind fun x6 =>
  some (d.1, (x6.2.1, ((), ())))))
  else none
def c_scan_Scanner_string_take_io : List Nat := []
def L_scan_Scanner_string_take_io (_ : Nat) : Pts po_scan_Scanner_string_take_io.den := []
def R_scan_Scanner_string_take_io (_ : Nat) : PtsR po_scan_Scanner_string_take_io.den := []
def E_scan_Scanner_string_take_io : Env := (((E0.add 187 (typedSem pi_scan_Scanner_string_rest po_scan_Scanner_string_rest g_scan_Scanner_string_rest)).add 220 (typedSem pi_strings_Clone po_strings_Clone g_strings_Clone)).kp [0])
theorem q_scan_Scanner_string_take_io_m (k : Nat) (d : pi_scan_Scanner_string_take_io.den) : evCode E_scan_Scanner_string_take_io (tb (L_scan_Scanner_string_take_io k) (R_scan_Scanner_string_take_io k)) c_scan_Scanner_string_take_io (bodyOf Tryz.f184) 0 (finKio E_scan_Scanner_string_take_io po_scan_Scanner_string_take_io [.tmp 4] [(0, none)]) (startSt pi_scan_Scanner_string_take_io 22 d) = f_scan_Scanner_string_take_io_m () d := by kernel_rfl
def g_scan_Scanner_string_take_io (d : ((ByteArray × (Int × ((Option Int) × Unit))) × Unit) × (Unit × ((Int × Unit) × Unit))) : Option (((ByteArray × (Int × ((Option Int) × Unit))) × Unit) × ((ByteArray × Unit) × (Unit × Unit))) := f_scan_Scanner_string_take_io_m () d
theorem ok_scan_Scanner_string_take_io : FnIo Tryz.prog ET0 184 pi_scan_Scanner_string_take_io po_scan_Scanner_string_take_io 1 [(0, 0, none)] g_scan_Scanner_string_take_io :=
  fn_of_bodyIo (E := E_scan_Scanner_string_take_io) (envOk_kp (envOk_add (envOk_add e0_ok (typed_ok ok_scan_Scanner_string_rest)) (typed_ok ok_strings_Clone))) (fn := Tryz.f184) Tryz.func184 (by kernel_rfl) (by kernel_rfl) [.tmp 4] [(0, none)] [(0, 0, none)] (by kernel_rfl) (by kernel_rfl) (by kernel_rfl) (by kernel_rfl) (by decide) (by decide) c_scan_Scanner_string_take_io L_scan_Scanner_string_take_io R_scan_Scanner_string_take_io
    (by intro x hx; cases hx) (by intro k x hx; cases hx) (by intro x hx; cases hx) (by intro k x hx; cases hx) (fun d out h => ⟨0, (q_scan_Scanner_string_take_io_m 0 d).trans h⟩)

@[reducible] def pi_scan_Scanner_string_Skip_io : PSh := ⟨[.var 176 [vS, vI, vE]], [.mk false [.ref 0 0], .mk false [vI]]⟩
@[reducible] def po_scan_Scanner_string_Skip_io : PSh := ⟨[.var 176 [vS, vI, vE]], [.mk false [.ref 0 0]]⟩
def f_scan_Scanner_string_Skip_io_m (T : Unit) (d : ((ByteArray × (Int × ((Option Int) × Unit))) × Unit) × (Unit × ((Int × Unit) × Unit))) : Option (((ByteArray × (Int × ((Option Int) × Unit))) × Unit) × (Unit × Unit)) :=
  (g_scan_Scanner_string_going ((), (((some (d.1.1.1, (d.1.1.2.1, d.1.1.2.2.1))), ()), ()))).bind fun x1 =>
  let x2 : Bool := (!x1.2.1.1)
  bif x2 then (
  some (d.1, ((), ())))
  else (
  let x3 : Bool := (decide (d.2.2.1.1 < (0 : Int)))
  bif x3 then (
  let x4 : (Option Int) := (some (1 : Int))
  some (((d.1.1.1, (d.1.1.2.1, (x4, ()))), ()), ((), ())))
  else (
  (g_scan_Scanner_string_Left ((), (((some (d.1.1.1, (d.1.1.2.1, d.1.1.2.2.1))), ()), ()))).bind fun x5 =>
  let x6 : Bool := (decide (d.2.2.1.1 > x5.2.1.1))
  bif x6 then (
  let x7 : (Option Int) := (some (4 : Int))
  some (((d.1.1.1, (d.1.1.2.1, (x7, ()))), ()), ((), ())))
  else (
  (g_scan_Scanner_string_take_io (d.1, ((), d.2.2))).bind fun x8 =>
  some (x8.1, ((), ())))))
def c_scan_Scanner_string_Skip_io : List Nat := []
def L_scan_Scanner_string_Skip_io (_ : Nat) : Pts po_scan_Scanner_string_Skip_io.den := []
def R_scan_Scanner_string_Skip_io (_ : Nat) : PtsR po_scan_Scanner_string_Skip_io.den := []
def E_scan_Scanner_string_Skip_io : Env := ((((E0.add 120 (typedSem pi_scan_Scanner_string_going po_scan_Scanner_string_going g_scan_Scanner_string_going)).add 124 (typedSem pi_scan_Scanner_string_Left po_scan_Scanner_string_Left g_scan_Scanner_string_Left)).add 184 (ioSem pi_scan_Scanner_string_take_io po_scan_Scanner_string_take_io 1 [(0, 0, none)] g_scan_Scanner_string_take_io)).kp [0])
theorem q_scan_Scanner_string_Skip_io_m (k : Nat) (d : pi_scan_Scanner_string_Skip_io.den) : evCode E_scan_Scanner_string_Skip_io (tb (L_scan_Scanner_string_Skip_io k) (R_scan_Scanner_string_Skip_io k)) c_scan_Scanner_string_Skip_io (bodyOf Tryz.f115) 0 (finKio E_scan_Scanner_string_Skip_io po_scan_Scanner_string_Skip_io [] [(0, none)]) (startSt pi_scan_Scanner_string_Skip_io 27 d) = f_scan_Scanner_string_Skip_io_m () d := by kernel_rfl
def g_scan_Scanner_string_Skip_io (d : ((ByteArray × (Int × ((Option Int) × Unit))) × Unit) × (Unit × ((Int × Unit) × Unit))) : Option (((ByteArray × (Int × ((Option Int) × Unit))) × Unit) × (Unit × Unit)) := f_scan_Scanner_string_Skip_io_m () d
theorem ok_scan_Scanner_string_Skip_io : FnIo Tryz.prog ET0 115 pi_scan_Scanner_string_Skip_io po_scan_Scanner_string_Skip_io 0 [(0, 0, none)] g_scan_Scanner_string_Skip_io :=
  fn_of_bodyIo (E := E_scan_Scanner_string_Skip_io) (envOk_kp (envOk_add (envOk_add (envOk_add e0_ok (typed_ok ok_scan_Scanner_string_going)) (typed_ok ok_scan_Scanner_string_Left)) (io_ok ok_scan_Scanner_string_take_io))) (fn := Tryz.f115) Tryz.func115 (by kernel_rfl) (by kernel_rfl) [] [(0, none)] [(0, 0, none)] (by kernel_rfl) (by kernel_rfl) (by kernel_rfl) (by kernel_rfl) (by decide) (by decide) c_scan_Scanner_string_Skip_io L_scan_Scanner_string_Skip_io R_scan_Scanner_string_Skip_io
    (by intro x hx; cases hx) (by intro k x hx; cases hx) (by intro x hx; cases hx) (by intro k x hx; cases hx) (fun d out h => ⟨0, (q_scan_Scanner_string_Skip_io_m 0 d).trans h⟩)

@[reducible] def pi_mail_reader_gap_io : PSh := ⟨[.var 176 [vS, vI, vE]], [.mk true [.ref 0 0, vS]]⟩
@[reducible] def po_mail_reader_gap_io : PSh := ⟨[.var 176 [vS, vI, vE]], [.mk false [vB], .mk false [.ref 0 0]]⟩
def f_mail_reader_gap_io_m (T : Unit) (d : ((ByteArray × (Int × ((Option Int) × Unit))) × Unit) × ((ByteArray × Unit) × Unit)) : Option (((ByteArray × (Int × ((Option Int) × Unit))) × Unit) × ((Bool × Unit) × (Unit × Unit))) :=
  (g_scan_Scanner_string_Err ((), (((some (d.1.1.1, (d.1.1.2.1, d.1.1.2.2.1))), ()), ()))).bind fun x1 =>
  let x2 : Bool := (!x1.2.1.1.isNone)
  bif x2 then (
  some (d.1, ((false, ()), ((), ()))))
  else (
  (g_scan_Scanner_string_At ((), (((some (d.1.1.1, (d.1.1.2.1, d.1.1.2.2.1))), ()), ()))).bind fun x3 =>
  (g_mail_Gap ((), (d.2.1, x3.2))).bind fun x4 =>
  let x5 : Bool := (decide (x4.2.1.1 < (0 : Int)))
  bif x5 then (
  let x6 : (Option Int) := (some (2 : Int))
  (g_scan_Scanner_string_Fail_io (d.1, ((), ((x6, ()), ())))).bind fun x7 =>
  some (x7.1, ((false, ()), ((), ()))))
  else (
  (g_scan_Scanner_string_At ((), (((some (d.1.1.1, (d.1.1.2.1, d.1.1.2.2.1))), ()), ()))).bind fun x8 =>
  let x9 : Int := (isub .i64 x4.2.1.1 x8.2.1.1)
  (g_scan_Scanner_string_Skip_io (d.1, ((), ((x9, ()), ())))).bind fun x10 =>
  let x11 : Bool := (decide (x9 > (0 : Int)))
  some (x10.1, ((x11, ()), ((), ())))))
def c_mail_reader_gap_io : List Nat := []
def L_mail_reader_gap_io (_ : Nat) : Pts po_mail_reader_gap_io.den := []
def R_mail_reader_gap_io (_ : Nat) : PtsR po_mail_reader_gap_io.den := []
def E_mail_reader_gap_io : Env := ((((((E0.add 47 (ioSem pi_scan_Scanner_string_Fail_io po_scan_Scanner_string_Fail_io 0 [(0, 0, none)] g_scan_Scanner_string_Fail_io)).add 112 (typedSem pi_scan_Scanner_string_Err po_scan_Scanner_string_Err g_scan_Scanner_string_Err)).add 113 (typedSem pi_mail_Gap po_mail_Gap g_mail_Gap)).add 114 (typedSem pi_scan_Scanner_string_At po_scan_Scanner_string_At g_scan_Scanner_string_At)).add 115 (ioSem pi_scan_Scanner_string_Skip_io po_scan_Scanner_string_Skip_io 0 [(0, 0, none)] g_scan_Scanner_string_Skip_io)).kp [0])
theorem q_mail_reader_gap_io_m (k : Nat) (d : pi_mail_reader_gap_io.den) : evCode E_mail_reader_gap_io (tb (L_mail_reader_gap_io k) (R_mail_reader_gap_io k)) c_mail_reader_gap_io (bodyOf Tryz.f44) 0 (finKio E_mail_reader_gap_io po_mail_reader_gap_io [.tmp 2] [(0, some 0)]) (startSt pi_mail_reader_gap_io 32 d) = f_mail_reader_gap_io_m () d := by kernel_rfl
def g_mail_reader_gap_io (d : ((ByteArray × (Int × ((Option Int) × Unit))) × Unit) × ((ByteArray × Unit) × Unit)) : Option (((ByteArray × (Int × ((Option Int) × Unit))) × Unit) × ((Bool × Unit) × (Unit × Unit))) := f_mail_reader_gap_io_m () d
theorem ok_mail_reader_gap_io : FnIo Tryz.prog ET0 44 pi_mail_reader_gap_io po_mail_reader_gap_io 1 [(0, 0, some 0)] g_mail_reader_gap_io :=
  fn_of_bodyIo (E := E_mail_reader_gap_io) (envOk_kp (envOk_add (envOk_add (envOk_add (envOk_add (envOk_add e0_ok (io_ok ok_scan_Scanner_string_Fail_io)) (typed_ok ok_scan_Scanner_string_Err)) (typed_ok ok_mail_Gap)) (typed_ok ok_scan_Scanner_string_At)) (io_ok ok_scan_Scanner_string_Skip_io))) (fn := Tryz.f44) Tryz.func44 (by kernel_rfl) (by kernel_rfl) [.tmp 2] [(0, some 0)] [(0, 0, some 0)] (by kernel_rfl) (by kernel_rfl) (by kernel_rfl) (by kernel_rfl) (by decide) (by decide) c_mail_reader_gap_io L_mail_reader_gap_io R_mail_reader_gap_io
    (by intro x hx; cases hx) (by intro k x hx; cases hx) (by intro x hx; cases hx) (by intro k x hx; cases hx) (fun d out h => ⟨0, (q_mail_reader_gap_io_m 0 d).trans h⟩)

@[reducible] def pi_scan_Scanner_string_Fold_io : PSh := ⟨[.var 176 [vS, vI, vE]], [.mk false [.ref 0 0], .mk false [vS]]⟩
@[reducible] def po_scan_Scanner_string_Fold_io : PSh := ⟨[.var 176 [vS, vI, vE]], [.mk false [vB], .mk false [.ref 0 0]]⟩
def f_scan_Scanner_string_Fold_io_m (T : Unit) (d : ((ByteArray × (Int × ((Option Int) × Unit))) × Unit) × (Unit × ((ByteArray × Unit) × Unit))) : Option (((ByteArray × (Int × ((Option Int) × Unit))) × Unit) × ((Bool × Unit) × (Unit × Unit))) :=
  (g_scan_Scanner_string_rest ((), (((some (d.1.1.1, (d.1.1.2.1, d.1.1.2.2.1))), ()), ()))).bind fun x1 =>
  (g_scan_Scanner_string_going ((), (((some (d.1.1.1, (d.1.1.2.1, d.1.1.2.2.1))), ()), ()))).bind fun x2 =>
  let x3 : Bool := (!x2.2.1.1)
  bif x3 then (
  some (d.1, ((false, ()), ((), ()))))
  else (
  let x4 : Int := (x1.2.1.1.size : Int)
  let x5 : Int := (d.2.2.1.1.size : Int)
  let x6 : Bool := (decide (x4 < x5))
  bif x6 then (
  some (d.1, ((false, ()), ((), ()))))
  else (
  let x7 : Int := (d.2.2.1.1.size : Int)
  bif decide ((0 : Int) ≤ (0 : Int)) && decide ((0 : Int) ≤ x7) && decide (x7 ≤ (x1.2.1.1.size : Int)) then (
  let x8 : ByteArray := (x1.2.1.1.extract (Int.toNat (0 : Int)) (Int.toNat x7))
  (g_scan_alike ((), ((x8, ()), d.2.2))).bind fun x9 =>
  let x10 : Bool := (!x9.2.1.1)
  bif x10 then (
  some (d.1, ((false, ()), ((), ()))))
  else (
  let x11 : Int := (d.2.2.1.1.size : Int)
  (g_scan_Scanner_string_take_io (d.1, ((), ((x11, ()), ())))).bind fun x12 =>
  some (x12.1, ((true, ()), ((), ())))))
  else none))
def c_scan_Scanner_string_Fold_io : List Nat := []
def L_scan_Scanner_string_Fold_io (_ : Nat) : Pts po_scan_Scanner_string_Fold_io.den := []
def R_scan_Scanner_string_Fold_io (_ : Nat) : PtsR po_scan_Scanner_string_Fold_io.den := []
def E_scan_Scanner_string_Fold_io : Env := (((((E0.add 120 (typedSem pi_scan_Scanner_string_going po_scan_Scanner_string_going g_scan_Scanner_string_going)).add 184 (ioSem pi_scan_Scanner_string_take_io po_scan_Scanner_string_take_io 1 [(0, 0, none)] g_scan_Scanner_string_take_io)).add 187 (typedSem pi_scan_Scanner_string_rest po_scan_Scanner_string_rest g_scan_Scanner_string_rest)).add 221 (typedSem pi_scan_alike po_scan_alike g_scan_alike)).kp [0])
theorem q_scan_Scanner_string_Fold_io_m (k : Nat) (d : pi_scan_Scanner_string_Fold_io.den) : evCode E_scan_Scanner_string_Fold_io (tb (L_scan_Scanner_string_Fold_io k) (R_scan_Scanner_string_Fold_io k)) c_scan_Scanner_string_Fold_io (bodyOf Tryz.f185) 0 (finKio E_scan_Scanner_string_Fold_io po_scan_Scanner_string_Fold_io [.tmp 4] [(0, none)]) (startSt pi_scan_Scanner_string_Fold_io 31 d) = f_scan_Scanner_string_Fold_io_m () d := by kernel_rfl
def g_scan_Scanner_string_Fold_io (d : ((ByteArray × (Int × ((Option Int) × Unit))) × Unit) × (Unit × ((ByteArray × Unit) × Unit))) : Option (((ByteArray × (Int × ((Option Int) × Unit))) × Unit) × ((Bool × Unit) × (Unit × Unit))) := f_scan_Scanner_string_Fold_io_m () d
theorem ok_scan_Scanner_string_Fold_io : FnIo Tryz.prog ET0 185 pi_scan_Scanner_string_Fold_io po_scan_Scanner_string_Fold_io 1 [(0, 0, none)] g_scan_Scanner_string_Fold_io :=
  fn_of_bodyIo (E := E_scan_Scanner_string_Fold_io) (envOk_kp (envOk_add (envOk_add (envOk_add (envOk_add e0_ok (typed_ok ok_scan_Scanner_string_going)) (io_ok ok_scan_Scanner_string_take_io)) (typed_ok ok_scan_Scanner_string_rest)) (typed_ok ok_scan_alike))) (fn := Tryz.f185) Tryz.func185 (by kernel_rfl) (by kernel_rfl) [.tmp 4] [(0, none)] [(0, 0, none)] (by kernel_rfl) (by kernel_rfl) (by kernel_rfl) (by kernel_rfl) (by decide) (by decide) c_scan_Scanner_string_Fold_io L_scan_Scanner_string_Fold_io R_scan_Scanner_string_Fold_io
    (by intro x hx; cases hx) (by intro k x hx; cases hx) (by intro x hx; cases hx) (by intro k x hx; cases hx) (fun d out h => ⟨0, (q_scan_Scanner_string_Fold_io_m 0 d).trans h⟩)

@[reducible] def pi_mail_reader_one_io : PSh := ⟨[.var 176 [vS, vI, vE]], [.mk true [.ref 0 0, vS], .mk false [vS]]⟩
@[reducible] def po_mail_reader_one_io : PSh := ⟨[.var 176 [vS, vI, vE]], [.mk false [vI], .mk false [.ref 0 0]]⟩
@[reducible] def TT_mail_reader_one_io : Type := (((((ByteArray × (Int × ((Option Int) × Unit))) × ((ByteArray × Unit) × Unit)) × ((ByteArray × Unit) × ((ByteArray × Unit) × (Unit × ((Int × Unit) × Unit))))) → Option (((ByteArray × (Int × ((Option Int) × Unit))) × Unit) × ((Int × Unit) × (Unit × Unit)))) × Unit)
@[reducible] def sh_mail_reader_one_io_3 : PSh := ⟨[.var 176 [vS, vI, vE], .var 95 [.ref 0 0, vS]], [.mk true [.ref 0 0, vS], .mk false [vS], .mk false [.ref 1 0], .any, .any, .mk false [vI], .any, .any, .any, .any, .any, .any, .any, .any, .any, .any, .any, .any, .any, .any]⟩
def f_mail_reader_one_io_p3 (T : TT_mail_reader_one_io) (d : ((ByteArray × (Int × ((Option Int) × Unit))) × ((ByteArray × Unit) × Unit)) × ((ByteArray × Unit) × ((ByteArray × Unit) × (Unit × ((Int × Unit) × Unit))))) : Option (((ByteArray × (Int × ((Option Int) × Unit))) × Unit) × ((Int × Unit) × (Unit × Unit))) :=
  let x1 : Int := (d.2.2.1.1.size : Int)
  let x2 : Int := (iquo .i64 x1 (3 : Int))
  let x3 : Bool := (decide (d.2.2.2.2.1.1 ≤ x2))
  bif x3 then (
  (g_mail_name ((), (d.2.2.1, d.2.2.2.2))).bind fun x4 =>
  (g_scan_Scanner_string_Fold_io ((d.1.1, ()), ((), x4.2))).bind fun x5 =>
  bif x5.2.1.1 then (
  some (x5.1, (d.2.2.2.2.1, ((), ()))))
  else (
  let x6 : Int := (iadd .i64 d.2.2.2.2.1.1 (1 : Int))
  (T.1 ((x5.1.1, d.1.2), (d.2.1, (d.2.2.1, ((), ((x6, ()), ()))))))))
  else (
  some ((d.1.1, ()), (((0 : Int), ()), ((), ()))))
def f_mail_reader_one_io_t : Nat → TT_mail_reader_one_io
  | 0 => (fun _ => none, ())
  | k + 1 => (f_mail_reader_one_io_p3 (f_mail_reader_one_io_t k), ())
theorem t_mail_reader_one_io (k : Nat) : f_mail_reader_one_io_t (k + 1) = (f_mail_reader_one_io_p3 (f_mail_reader_one_io_t k), ()) := rfl
def f_mail_reader_one_io_m (T : TT_mail_reader_one_io) (d : ((ByteArray × (Int × ((Option Int) × Unit))) × Unit) × ((ByteArray × Unit) × ((ByteArray × Unit) × Unit))) : Option (((ByteArray × (Int × ((Option Int) × Unit))) × Unit) × ((Int × Unit) × (Unit × Unit))) :=
  (T.1 ((d.1.1, (d.2.1, ())), (d.2.1, (d.2.2.1, ((), (((1 : Int), ()), ()))))))
def c_mail_reader_one_io : List Nat := []
def L_mail_reader_one_io (k : Nat) : Pts po_mail_reader_one_io.den := [(3, ⟨sh_mail_reader_one_io_3, (f_mail_reader_one_io_t k).1⟩)]
def R_mail_reader_one_io (_ : Nat) : PtsR po_mail_reader_one_io.den := []
def E_mail_reader_one_io : Env := (((E0.add 157 (typedSem pi_mail_name po_mail_name g_mail_name)).add 185 (ioSem pi_scan_Scanner_string_Fold_io po_scan_Scanner_string_Fold_io 1 [(0, 0, none)] g_scan_Scanner_string_Fold_io)).kp [0])
theorem q_mail_reader_one_io_3 (k : Nat) (d : sh_mail_reader_one_io_3.den) : evAt E_mail_reader_one_io (tb (L_mail_reader_one_io k) (R_mail_reader_one_io k)) c_mail_reader_one_io 3 (bodyOf Tryz.f116) 0 (finKio E_mail_reader_one_io po_mail_reader_one_io [.tmp 4] [(0, some 0)]) (ptSt sh_mail_reader_one_io_3 d) = f_mail_reader_one_io_p3 (f_mail_reader_one_io_t k) d := by kernel_rfl
theorem q_mail_reader_one_io_m (k : Nat) (d : pi_mail_reader_one_io.den) : evCode E_mail_reader_one_io (tb (L_mail_reader_one_io k) (R_mail_reader_one_io k)) c_mail_reader_one_io (bodyOf Tryz.f116) 0 (finKio E_mail_reader_one_io po_mail_reader_one_io [.tmp 4] [(0, some 0)]) (startSt pi_mail_reader_one_io 20 d) = f_mail_reader_one_io_m (f_mail_reader_one_io_t k) d := by kernel_rfl
def g_mail_reader_one_io (d : ((ByteArray × (Int × ((Option Int) × Unit))) × Unit) × ((ByteArray × Unit) × ((ByteArray × Unit) × Unit))) : Option (((ByteArray × (Int × ((Option Int) × Unit))) × Unit) × ((Int × Unit) × (Unit × Unit))) := lim fun k => f_mail_reader_one_io_m (f_mail_reader_one_io_t k) d
theorem ok_mail_reader_one_io : FnIo Tryz.prog ET0 116 pi_mail_reader_one_io po_mail_reader_one_io 1 [(0, 0, some 0)] g_mail_reader_one_io :=
  fn_of_bodyIo (E := E_mail_reader_one_io) (envOk_kp (envOk_add (envOk_add e0_ok (typed_ok ok_mail_name)) (io_ok ok_scan_Scanner_string_Fold_io))) (fn := Tryz.f116) Tryz.func116 (by kernel_rfl) (by kernel_rfl) [.tmp 4] [(0, some 0)] [(0, 0, some 0)] (by kernel_rfl) (by kernel_rfl) (by kernel_rfl) (by kernel_rfl) (by decide) (by decide) c_mail_reader_one_io L_mail_reader_one_io R_mail_reader_one_io
    (by intro x hx d; simp only [L_mail_reader_one_io, List.mem_cons, List.not_mem_nil, or_false] at hx; subst hx; rfl)
    (by intro k x hx d out h; simp only [L_mail_reader_one_io, List.mem_cons, List.not_mem_nil, or_false] at hx; subst hx; exact (q_mail_reader_one_io_3 k d).trans h)
    (by intro x hx; cases hx)
    (by intro k x hx; cases hx)
    (by intro d out h; obtain ⟨k, hk⟩ := lim_some h; exact ⟨k, (q_mail_reader_one_io_m k d).trans hk⟩)

@[reducible] def pi_scan_Scanner_string_Must_io : PSh := ⟨[.var 176 [vS, vI, vE]], [.mk false [.ref 0 0], .mk false [vS]]⟩
@[reducible] def po_scan_Scanner_string_Must_io : PSh := ⟨[.var 176 [vS, vI, vE]], [.mk false [.ref 0 0]]⟩
def f_scan_Scanner_string_Must_io_m (T : Unit) (d : ((ByteArray × (Int × ((Option Int) × Unit))) × Unit) × (Unit × ((ByteArray × Unit) × Unit))) : Option (((ByteArray × (Int × ((Option Int) × Unit))) × Unit) × (Unit × Unit)) :=
  (g_scan_Scanner_string_Fold_io (d.1, ((), d.2.2))).bind fun x1 =>
  let x2 : Bool := (!x1.2.1.1)
  bif x2 then (
  let x3 : (Option Int) := (some (2 : Int))
  (g_scan_Scanner_string_Fail_io (x1.1, ((), ((x3, ()), ())))).bind fun x4 =>
  some (x4.1, ((), ())))
  else (
  some (x1.1, ((), ())))
def c_scan_Scanner_string_Must_io : List Nat := []
def L_scan_Scanner_string_Must_io (_ : Nat) : Pts po_scan_Scanner_string_Must_io.den := []
def R_scan_Scanner_string_Must_io (_ : Nat) : PtsR po_scan_Scanner_string_Must_io.den := []
def E_scan_Scanner_string_Must_io : Env := (((E0.add 47 (ioSem pi_scan_Scanner_string_Fail_io po_scan_Scanner_string_Fail_io 0 [(0, 0, none)] g_scan_Scanner_string_Fail_io)).add 185 (ioSem pi_scan_Scanner_string_Fold_io po_scan_Scanner_string_Fold_io 1 [(0, 0, none)] g_scan_Scanner_string_Fold_io)).kp [0])
theorem q_scan_Scanner_string_Must_io_m (k : Nat) (d : pi_scan_Scanner_string_Must_io.den) : evCode E_scan_Scanner_string_Must_io (tb (L_scan_Scanner_string_Must_io k) (R_scan_Scanner_string_Must_io k)) c_scan_Scanner_string_Must_io (bodyOf Tryz.f117) 0 (finKio E_scan_Scanner_string_Must_io po_scan_Scanner_string_Must_io [] [(0, none)]) (startSt pi_scan_Scanner_string_Must_io 11 d) = f_scan_Scanner_string_Must_io_m () d := by kernel_rfl
def g_scan_Scanner_string_Must_io (d : ((ByteArray × (Int × ((Option Int) × Unit))) × Unit) × (Unit × ((ByteArray × Unit) × Unit))) : Option (((ByteArray × (Int × ((Option Int) × Unit))) × Unit) × (Unit × Unit)) := f_scan_Scanner_string_Must_io_m () d
theorem ok_scan_Scanner_string_Must_io : FnIo Tryz.prog ET0 117 pi_scan_Scanner_string_Must_io po_scan_Scanner_string_Must_io 0 [(0, 0, none)] g_scan_Scanner_string_Must_io :=
  fn_of_bodyIo (E := E_scan_Scanner_string_Must_io) (envOk_kp (envOk_add (envOk_add e0_ok (io_ok ok_scan_Scanner_string_Fail_io)) (io_ok ok_scan_Scanner_string_Fold_io))) (fn := Tryz.f117) Tryz.func117 (by kernel_rfl) (by kernel_rfl) [] [(0, none)] [(0, 0, none)] (by kernel_rfl) (by kernel_rfl) (by kernel_rfl) (by kernel_rfl) (by decide) (by decide) c_scan_Scanner_string_Must_io L_scan_Scanner_string_Must_io R_scan_Scanner_string_Must_io
    (by intro x hx; cases hx) (by intro k x hx; cases hx) (by intro x hx; cases hx) (by intro k x hx; cases hx) (fun d out h => ⟨0, (q_scan_Scanner_string_Must_io_m 0 d).trans h⟩)

@[reducible] def pi_mail_reader_weekday_io : PSh := ⟨[.var 176 [vS, vI, vE]], [.mk true [.ref 0 0, vS]]⟩
@[reducible] def po_mail_reader_weekday_io : PSh := ⟨[.var 176 [vS, vI, vE]], [.mk false [vI], .mk false [.ref 0 0]]⟩
def f_mail_reader_weekday_io_m (T : Unit) (d : ((ByteArray × (Int × ((Option Int) × Unit))) × Unit) × ((ByteArray × Unit) × Unit)) : Option (((ByteArray × (Int × ((Option Int) × Unit))) × Unit) × ((Int × Unit) × (Unit × Unit))) :=
  (g_mail_reader_one_io (d.1, (d.2.1, (((⟨#[77, 111, 110, 84, 117, 101, 87, 101, 100, 84, 104, 117, 70, 114, 105, 83, 97, 116, 83, 117, 110]⟩ : ByteArray), ()), ())))).bind fun x1 =>
  let x2 : Bool := (x1.2.1.1 == (0 : Int))
  bif x2 then (
  some (x1.1, (((0 : Int), ()), ((), ()))))
  else (
  (g_mail_reader_gap_io (x1.1, d.2)).bind fun x3 =>
  (g_scan_Scanner_string_Must_io (x3.1, ((), (((⟨#[44]⟩ : ByteArray), ()), ())))).bind fun x4 =>
  (g_mail_reader_gap_io (x4.1, d.2)).bind fun x5 =>
  some (x5.1, (x1.2.1, ((), ()))))
def c_mail_reader_weekday_io : List Nat := []
def L_mail_reader_weekday_io (_ : Nat) : Pts po_mail_reader_weekday_io.den := []
def R_mail_reader_weekday_io (_ : Nat) : PtsR po_mail_reader_weekday_io.den := []
def E_mail_reader_weekday_io : Env := ((((E0.add 44 (ioSem pi_mail_reader_gap_io po_mail_reader_gap_io 1 [(0, 0, some 0)] g_mail_reader_gap_io)).add 116 (ioSem pi_mail_reader_one_io po_mail_reader_one_io 1 [(0, 0, some 0)] g_mail_reader_one_io)).add 117 (ioSem pi_scan_Scanner_string_Must_io po_scan_Scanner_string_Must_io 0 [(0, 0, none)] g_scan_Scanner_string_Must_io)).kp [0])
theorem q_mail_reader_weekday_io_m (k : Nat) (d : pi_mail_reader_weekday_io.den) : evCode E_mail_reader_weekday_io (tb (L_mail_reader_weekday_io k) (R_mail_reader_weekday_io k)) c_mail_reader_weekday_io (bodyOf Tryz.f45) 0 (finKio E_mail_reader_weekday_io po_mail_reader_weekday_io [.tmp 2] [(0, some 0)]) (startSt pi_mail_reader_weekday_io 16 d) = f_mail_reader_weekday_io_m () d := by kernel_rfl
def g_mail_reader_weekday_io (d : ((ByteArray × (Int × ((Option Int) × Unit))) × Unit) × ((ByteArray × Unit) × Unit)) : Option (((ByteArray × (Int × ((Option Int) × Unit))) × Unit) × ((Int × Unit) × (Unit × Unit))) := f_mail_reader_weekday_io_m () d
theorem ok_mail_reader_weekday_io : FnIo Tryz.prog ET0 45 pi_mail_reader_weekday_io po_mail_reader_weekday_io 1 [(0, 0, some 0)] g_mail_reader_weekday_io :=
  fn_of_bodyIo (E := E_mail_reader_weekday_io) (envOk_kp (envOk_add (envOk_add (envOk_add e0_ok (io_ok ok_mail_reader_gap_io)) (io_ok ok_mail_reader_one_io)) (io_ok ok_scan_Scanner_string_Must_io))) (fn := Tryz.f45) Tryz.func45 (by kernel_rfl) (by kernel_rfl) [.tmp 2] [(0, some 0)] [(0, 0, some 0)] (by kernel_rfl) (by kernel_rfl) (by kernel_rfl) (by kernel_rfl) (by decide) (by decide) c_mail_reader_weekday_io L_mail_reader_weekday_io R_mail_reader_weekday_io
    (by intro x hx; cases hx) (by intro k x hx; cases hx) (by intro x hx; cases hx) (by intro k x hx; cases hx) (fun d out h => ⟨0, (q_mail_reader_weekday_io_m 0 d).trans h⟩)

@[reducible] def pi_scan_Scanner_string_Figures_io : PSh := ⟨[.var 176 [vS, vI, vE]], [.mk false [.ref 0 0], .mk false [vI], .mk false [vI]]⟩
@[reducible] def po_scan_Scanner_string_Figures_io : PSh := ⟨[.var 176 [vS, vI, vE]], [.mk false [vI], .mk false [.ref 0 0]]⟩
def f_scan_Scanner_string_Figures_io_m (T : Unit) (d : ((ByteArray × (Int × ((Option Int) × Unit))) × Unit) × (Unit × ((Int × Unit) × ((Int × Unit) × Unit)))) : Option (((ByteArray × (Int × ((Option Int) × Unit))) × Unit) × ((Int × Unit) × (Unit × Unit))) :=
  (g_scan_Scanner_string_going ((), (((some (d.1.1.1, (d.1.1.2.1, d.1.1.2.2.1))), ()), ()))).bind fun x1 =>
  let x2 : Bool := (!x1.2.1.1)
  bif x2 then (
  some (d.1, (((0 : Int), ()), ((), ()))))
  else (
  (g_scan_Scanner_string_rest ((), (((some (d.1.1.1, (d.1.1.2.1, d.1.1.2.2.1))), ()), ()))).bind fun x3 =>
  (g_figures_Take ((), (x3.2.1, d.2.2))).bind fun x4 =>
  let x5 : Bool := (!x4.2.2.2.1.1.isNone)
  bif x5 then (
  some (((d.1.1.1, (d.1.1.2.1, x4.2.2.2.1)), ()), (((0 : Int), ()), ((), ()))))
  else (
  (g_scan_Scanner_string_take_io (d.1, ((), (x4.2.2.1, ())))).bind fun x6 =>
  some (x6.1, (x4.2.1, ((), ())))))
def c_scan_Scanner_string_Figures_io : List Nat := []
def L_scan_Scanner_string_Figures_io (_ : Nat) : Pts po_scan_Scanner_string_Figures_io.den := []
def R_scan_Scanner_string_Figures_io (_ : Nat) : PtsR po_scan_Scanner_string_Figures_io.den := []
def E_scan_Scanner_string_Figures_io : Env := (((((E0.add 120 (typedSem pi_scan_Scanner_string_going po_scan_Scanner_string_going g_scan_Scanner_string_going)).add 184 (ioSem pi_scan_Scanner_string_take_io po_scan_Scanner_string_take_io 1 [(0, 0, none)] g_scan_Scanner_string_take_io)).add 186 (typedSem pi_figures_Take po_figures_Take g_figures_Take)).add 187 (typedSem pi_scan_Scanner_string_rest po_scan_Scanner_string_rest g_scan_Scanner_string_rest)).kp [0])
theorem q_scan_Scanner_string_Figures_io_m (k : Nat) (d : pi_scan_Scanner_string_Figures_io.den) : evCode E_scan_Scanner_string_Figures_io (tb (L_scan_Scanner_string_Figures_io k) (R_scan_Scanner_string_Figures_io k)) c_scan_Scanner_string_Figures_io (bodyOf Tryz.f118) 0 (finKio E_scan_Scanner_string_Figures_io po_scan_Scanner_string_Figures_io [.tmp 6] [(0, none)]) (startSt pi_scan_Scanner_string_Figures_io 32 d) = f_scan_Scanner_string_Figures_io_m () d := by kernel_rfl
def g_scan_Scanner_string_Figures_io (d : ((ByteArray × (Int × ((Option Int) × Unit))) × Unit) × (Unit × ((Int × Unit) × ((Int × Unit) × Unit)))) : Option (((ByteArray × (Int × ((Option Int) × Unit))) × Unit) × ((Int × Unit) × (Unit × Unit))) := f_scan_Scanner_string_Figures_io_m () d
theorem ok_scan_Scanner_string_Figures_io : FnIo Tryz.prog ET0 118 pi_scan_Scanner_string_Figures_io po_scan_Scanner_string_Figures_io 1 [(0, 0, none)] g_scan_Scanner_string_Figures_io :=
  fn_of_bodyIo (E := E_scan_Scanner_string_Figures_io) (envOk_kp (envOk_add (envOk_add (envOk_add (envOk_add e0_ok (typed_ok ok_scan_Scanner_string_going)) (io_ok ok_scan_Scanner_string_take_io)) (typed_ok ok_figures_Take)) (typed_ok ok_scan_Scanner_string_rest))) (fn := Tryz.f118) Tryz.func118 (by kernel_rfl) (by kernel_rfl) [.tmp 6] [(0, none)] [(0, 0, none)] (by kernel_rfl) (by kernel_rfl) (by kernel_rfl) (by kernel_rfl) (by decide) (by decide) c_scan_Scanner_string_Figures_io L_scan_Scanner_string_Figures_io R_scan_Scanner_string_Figures_io
    (by intro x hx; cases hx) (by intro k x hx; cases hx) (by intro x hx; cases hx) (by intro k x hx; cases hx) (fun d out h => ⟨0, (q_scan_Scanner_string_Figures_io_m 0 d).trans h⟩)

@[reducible] def pi_scan_Scanner_string_Run_io : PSh := ⟨[.var 176 [vS, vI, vE]], [.mk false [.ref 0 0], .mk false [vS]]⟩
@[reducible] def po_scan_Scanner_string_Run_io : PSh := ⟨[.var 176 [vS, vI, vE]], [.mk false [vS], .mk false [.ref 0 0]]⟩
@[reducible] def TT_scan_Scanner_string_Run_io : Type := (((((ByteArray × (Int × ((Option Int) × Unit))) × Unit) × (Unit × ((ByteArray × Unit) × ((ByteArray × Unit) × ((Int × Unit) × Unit))))) → Option (((ByteArray × (Int × ((Option Int) × Unit))) × Unit) × ((ByteArray × Unit) × (Unit × Unit)))) × Unit)
@[reducible] def sh_scan_Scanner_string_Run_io_4 : PSh := ⟨[.var 176 [vS, vI, vE]], [.mk false [.ref 0 0], .mk false [vS], .any, .any, .any, .mk false [vS], .mk false [vI], .any, .any, .any, .any, .any, .any, .any, .any, .any, .any, .any, .any, .any, .any, .any, .any, .any, .any, .any]⟩
def f_scan_Scanner_string_Run_io_p4 (T : TT_scan_Scanner_string_Run_io) (d : ((ByteArray × (Int × ((Option Int) × Unit))) × Unit) × (Unit × ((ByteArray × Unit) × ((ByteArray × Unit) × ((Int × Unit) × Unit))))) : Option (((ByteArray × (Int × ((Option Int) × Unit))) × Unit) × ((ByteArray × Unit) × (Unit × Unit))) :=
  let x2 : Int := (d.2.2.2.1.1.size : Int)
  let x3 : Bool := (decide (d.2.2.2.2.1.1 < x2))
  bif x3 then (
  bif decide ((0 : Int) ≤ d.2.2.2.2.1.1) && decide (d.2.2.2.2.1.1 < ((d.2.2.2.1.1.size : Int) : Int)) then (
  let x4 : Int := (bt d.2.2.2.1.1 d.2.2.2.2.1.1)
  (g_strings_IndexByte ((), (d.2.2.1, ((x4, ()), ())))).bind fun x5 =>
  let x6 : Bool := (decide (x5.2.1.1 ≥ (0 : Int)))
  bif x6 then (
  let x7 : Int := (iadd .i64 d.2.2.2.2.1.1 (1 : Int))
  (T.1 (d.1, ((), (d.2.2.1, (d.2.2.2.1, ((x7, ()), ())))))))
  else (
  (g_scan_Scanner_string_take_io (d.1, ((), d.2.2.2.2))).bind fun x8 =>
  some (x8.1, (x8.2.1, ((), ())))))
  else none)
  else (
  (g_scan_Scanner_string_take_io (d.1, ((), d.2.2.2.2))).bind fun x9 =>
  some (x9.1, (x9.2.1, ((), ()))))
def f_scan_Scanner_string_Run_io_t : Nat → TT_scan_Scanner_string_Run_io
  | 0 => (fun _ => none, ())
  | k + 1 => (f_scan_Scanner_string_Run_io_p4 (f_scan_Scanner_string_Run_io_t k), ())
theorem t_scan_Scanner_string_Run_io (k : Nat) : f_scan_Scanner_string_Run_io_t (k + 1) = (f_scan_Scanner_string_Run_io_p4 (f_scan_Scanner_string_Run_io_t k), ()) := rfl
def f_scan_Scanner_string_Run_io_m (T : TT_scan_Scanner_string_Run_io) (d : ((ByteArray × (Int × ((Option Int) × Unit))) × Unit) × (Unit × ((ByteArray × Unit) × Unit))) : Option (((ByteArray × (Int × ((Option Int) × Unit))) × Unit) × ((ByteArray × Unit) × (Unit × Unit))) :=
  (g_scan_Scanner_string_rest ((), (((some (d.1.1.1, (d.1.1.2.1, d.1.1.2.2.1))), ()), ()))).bind fun x1 =>
  (T.1 (d.1, ((), (d.2.2.1, (x1.2.1, (((0 : Int), ()), ()))))))
def c_scan_Scanner_string_Run_io : List Nat := []
def L_scan_Scanner_string_Run_io (k : Nat) : Pts po_scan_Scanner_string_Run_io.den := [(4, ⟨sh_scan_Scanner_string_Run_io_4, (f_scan_Scanner_string_Run_io_t k).1⟩)]
def R_scan_Scanner_string_Run_io (_ : Nat) : PtsR po_scan_Scanner_string_Run_io.den := []
def E_scan_Scanner_string_Run_io : Env := ((((E0.add 182 (typedSem pi_strings_IndexByte po_strings_IndexByte g_strings_IndexByte)).add 184 (ioSem pi_scan_Scanner_string_take_io po_scan_Scanner_string_take_io 1 [(0, 0, none)] g_scan_Scanner_string_take_io)).add 187 (typedSem pi_scan_Scanner_string_rest po_scan_Scanner_string_rest g_scan_Scanner_string_rest)).kp [0])
theorem q_scan_Scanner_string_Run_io_4 (k : Nat) (d : sh_scan_Scanner_string_Run_io_4.den) : evAt E_scan_Scanner_string_Run_io (tb (L_scan_Scanner_string_Run_io k) (R_scan_Scanner_string_Run_io k)) c_scan_Scanner_string_Run_io 4 (bodyOf Tryz.f123) 0 (finKio E_scan_Scanner_string_Run_io po_scan_Scanner_string_Run_io [.tmp 4] [(0, none)]) (ptSt sh_scan_Scanner_string_Run_io_4 d) = f_scan_Scanner_string_Run_io_p4 (f_scan_Scanner_string_Run_io_t k) d := by kernel_rfl
theorem q_scan_Scanner_string_Run_io_m (k : Nat) (d : pi_scan_Scanner_string_Run_io.den) : evCode E_scan_Scanner_string_Run_io (tb (L_scan_Scanner_string_Run_io k) (R_scan_Scanner_string_Run_io k)) c_scan_Scanner_string_Run_io (bodyOf Tryz.f123) 0 (finKio E_scan_Scanner_string_Run_io po_scan_Scanner_string_Run_io [.tmp 4] [(0, none)]) (startSt pi_scan_Scanner_string_Run_io 26 d) = f_scan_Scanner_string_Run_io_m (f_scan_Scanner_string_Run_io_t k) d := by kernel_rfl
def g_scan_Scanner_string_Run_io (d : ((ByteArray × (Int × ((Option Int) × Unit))) × Unit) × (Unit × ((ByteArray × Unit) × Unit))) : Option (((ByteArray × (Int × ((Option Int) × Unit))) × Unit) × ((ByteArray × Unit) × (Unit × Unit))) := lim fun k => f_scan_Scanner_string_Run_io_m (f_scan_Scanner_string_Run_io_t k) d
theorem ok_scan_Scanner_string_Run_io : FnIo Tryz.prog ET0 123 pi_scan_Scanner_string_Run_io po_scan_Scanner_string_Run_io 1 [(0, 0, none)] g_scan_Scanner_string_Run_io :=
  fn_of_bodyIo (E := E_scan_Scanner_string_Run_io) (envOk_kp (envOk_add (envOk_add (envOk_add e0_ok (typed_ok ok_strings_IndexByte)) (io_ok ok_scan_Scanner_string_take_io)) (typed_ok ok_scan_Scanner_string_rest))) (fn := Tryz.f123) Tryz.func123 (by kernel_rfl) (by kernel_rfl) [.tmp 4] [(0, none)] [(0, 0, none)] (by kernel_rfl) (by kernel_rfl) (by kernel_rfl) (by kernel_rfl) (by decide) (by decide) c_scan_Scanner_string_Run_io L_scan_Scanner_string_Run_io R_scan_Scanner_string_Run_io
    (by intro x hx d; simp only [L_scan_Scanner_string_Run_io, List.mem_cons, List.not_mem_nil, or_false] at hx; subst hx; rfl)
    (by intro k x hx d out h; simp only [L_scan_Scanner_string_Run_io, List.mem_cons, List.not_mem_nil, or_false] at hx; subst hx; exact (q_scan_Scanner_string_Run_io_4 k d).trans h)
    (by intro x hx; cases hx)
    (by intro k x hx; cases hx)
    (by intro d out h; obtain ⟨k, hk⟩ := lim_some h; exact ⟨k, (q_scan_Scanner_string_Run_io_m k d).trans hk⟩)

@[reducible] def pi_mail_reader_year_io : PSh := ⟨[.var 176 [vS, vI, vE]], [.mk true [.ref 0 0, vS]]⟩
@[reducible] def po_mail_reader_year_io : PSh := ⟨[.var 176 [vS, vI, vE]], [.mk false [vI], .mk false [.ref 0 0]]⟩
def f_mail_reader_year_io_m (T : Unit) (d : ((ByteArray × (Int × ((Option Int) × Unit))) × Unit) × ((ByteArray × Unit) × Unit)) : Option (((ByteArray × (Int × ((Option Int) × Unit))) × Unit) × ((Int × Unit) × (Unit × Unit))) :=
  (g_scan_Scanner_string_Run_io (d.1, ((), (((⟨#[48, 49, 50, 51, 52, 53, 54, 55, 56, 57]⟩ : ByteArray), ()), ())))).bind fun x1 =>
  (g_figures_Whole ((), (x1.2.1, (((2 : Int), ()), (((4 : Int), ()), ()))))).bind fun x2 =>
  let x3 : Bool := (!x2.2.2.1.1.isNone)
  bif x3 then (
  let x4 : (Option Int) := (some (2 : Int))
  (g_scan_Scanner_string_Fail_io (x1.1, ((), ((x4, ()), ())))).bind fun x5 =>
  let x6 : Int := (x1.2.1.1.size : Int)
  let x7 : Bool := (x6 == (3 : Int))
  bif x7 then (
  let x8 : Int := (iadd .i64 (1900 : Int) x2.2.1.1)
  some (x5.1, ((x8, ()), ((), ()))))
  else (
  let x9 : Int := (x1.2.1.1.size : Int)
  let x10 : Bool := (x9 == (2 : Int))
  bif x10 then (
  let x11 : Bool := (decide (x2.2.1.1 < (50 : Int)))
  bif x11 then (
  let x12 : Int := (iadd .i64 (2000 : Int) x2.2.1.1)
  some (x5.1, ((x12, ()), ((), ()))))
  else (
  let x13 : Int := (x1.2.1.1.size : Int)
  let x14 : Bool := (x13 == (2 : Int))
  bif x14 then (
  let x15 : Int := (iadd .i64 (1900 : Int) x2.2.1.1)
  some (x5.1, ((x15, ()), ((), ()))))
  else (
  some (x5.1, (x2.2.1, ((), ()))))))
  else (
  let x16 : Int := (x1.2.1.1.size : Int)
  let x17 : Bool := (x16 == (2 : Int))
  bif x17 then (
  let x18 : Int := (iadd .i64 (1900 : Int) x2.2.1.1)
  some (x5.1, ((x18, ()), ((), ()))))
  else (
  some (x5.1, (x2.2.1, ((), ())))))))
  else (
  let x19 : Int := (x1.2.1.1.size : Int)
  let x20 : Bool := (x19 == (3 : Int))
  bif x20 then (
  let x21 : Int := (iadd .i64 (1900 : Int) x2.2.1.1)
  some (x1.1, ((x21, ()), ((), ()))))
  else (
  let x22 : Int := (x1.2.1.1.size : Int)
  let x23 : Bool := (x22 == (2 : Int))
  bif x23 then (
  let x24 : Bool := (decide (x2.2.1.1 < (50 : Int)))
  bif x24 then (
  let x25 : Int := (iadd .i64 (2000 : Int) x2.2.1.1)
  some (x1.1, ((x25, ()), ((), ()))))
  else (
  let x26 : Int := (x1.2.1.1.size : Int)
  let x27 : Bool := (x26 == (2 : Int))
  bif x27 then (
  let x28 : Int := (iadd .i64 (1900 : Int) x2.2.1.1)
  some (x1.1, ((x28, ()), ((), ()))))
  else (
  some (x1.1, (x2.2.1, ((), ()))))))
  else (
  let x29 : Int := (x1.2.1.1.size : Int)
  let x30 : Bool := (x29 == (2 : Int))
  bif x30 then (
  let x31 : Int := (iadd .i64 (1900 : Int) x2.2.1.1)
  some (x1.1, ((x31, ()), ((), ()))))
  else (
  some (x1.1, (x2.2.1, ((), ())))))))
def c_mail_reader_year_io : List Nat := []
def L_mail_reader_year_io (_ : Nat) : Pts po_mail_reader_year_io.den := []
def R_mail_reader_year_io (_ : Nat) : PtsR po_mail_reader_year_io.den := []
def E_mail_reader_year_io : Env := ((((E0.add 47 (ioSem pi_scan_Scanner_string_Fail_io po_scan_Scanner_string_Fail_io 0 [(0, 0, none)] g_scan_Scanner_string_Fail_io)).add 123 (ioSem pi_scan_Scanner_string_Run_io po_scan_Scanner_string_Run_io 1 [(0, 0, none)] g_scan_Scanner_string_Run_io)).add 188 (typedSem pi_figures_Whole po_figures_Whole g_figures_Whole)).kp [0])
theorem q_mail_reader_year_io_m (k : Nat) (d : pi_mail_reader_year_io.den) : evCode E_mail_reader_year_io (tb (L_mail_reader_year_io k) (R_mail_reader_year_io k)) c_mail_reader_year_io (bodyOf Tryz.f119) 0 (finKio E_mail_reader_year_io po_mail_reader_year_io [.tmp 2] [(0, some 0)]) (startSt pi_mail_reader_year_io 43 d) = f_mail_reader_year_io_m () d := by kernel_rfl
def g_mail_reader_year_io (d : ((ByteArray × (Int × ((Option Int) × Unit))) × Unit) × ((ByteArray × Unit) × Unit)) : Option (((ByteArray × (Int × ((Option Int) × Unit))) × Unit) × ((Int × Unit) × (Unit × Unit))) := f_mail_reader_year_io_m () d
theorem ok_mail_reader_year_io : FnIo Tryz.prog ET0 119 pi_mail_reader_year_io po_mail_reader_year_io 1 [(0, 0, some 0)] g_mail_reader_year_io :=
  fn_of_bodyIo (E := E_mail_reader_year_io) (envOk_kp (envOk_add (envOk_add (envOk_add e0_ok (io_ok ok_scan_Scanner_string_Fail_io)) (io_ok ok_scan_Scanner_string_Run_io)) (typed_ok ok_figures_Whole))) (fn := Tryz.f119) Tryz.func119 (by kernel_rfl) (by kernel_rfl) [.tmp 2] [(0, some 0)] [(0, 0, some 0)] (by kernel_rfl) (by kernel_rfl) (by kernel_rfl) (by kernel_rfl) (by decide) (by decide) c_mail_reader_year_io L_mail_reader_year_io R_mail_reader_year_io
    (by intro x hx; cases hx) (by intro k x hx; cases hx) (by intro x hx; cases hx) (by intro k x hx; cases hx) (fun d out h => ⟨0, (q_mail_reader_year_io_m 0 d).trans h⟩)

@[reducible] def pi_mail_reader_date_io : PSh := ⟨[.var 176 [vS, vI, vE], .var 28 [vI, vI, vI, vI, vI, vI, vI, vI]], [.mk true [.ref 0 0, vS], .mk false [.ref 1 0]]⟩
@[reducible] def po_mail_reader_date_io : PSh := ⟨[.var 176 [vS, vI, vE], .var 28 [vI, vI, vI, vI, vI, vI, vI, vI]], [.mk false [.ref 0 0], .mk false [.ref 1 0]]⟩
def f_mail_reader_date_io_m (T : Unit) (d : ((ByteArray × (Int × ((Option Int) × Unit))) × ((Int × (Int × (Int × (Int × (Int × (Int × (Int × (Int × Unit)))))))) × Unit)) × ((ByteArray × Unit) × (Unit × Unit))) : Option (((ByteArray × (Int × ((Option Int) × Unit))) × ((Int × (Int × (Int × (Int × (Int × (Int × (Int × (Int × Unit)))))))) × Unit)) × (Unit × (Unit × Unit))) :=
  (g_scan_Scanner_string_Figures_io ((d.1.1, ()), ((), (((1 : Int), ()), (((2 : Int), ()), ()))))).bind fun x1 =>
  (g_mail_reader_gap_io (x1.1, (d.2.1, ()))).bind fun x2 =>
  (g_mail_reader_one_io (x2.1, (d.2.1, (((⟨#[74, 97, 110, 70, 101, 98, 77, 97, 114, 65, 112, 114, 77, 97, 121, 74, 117, 110, 74, 117, 108, 65, 117, 103, 83, 101, 112, 79, 99, 116, 78, 111, 118, 68, 101, 99]⟩ : ByteArray), ()), ())))).bind fun x3 =>
  let x4 : Bool := (x3.2.1.1 == (0 : Int))
  bif x4 then (
  let x5 : (Option Int) := (some (2 : Int))
  (g_scan_Scanner_string_Fail_io (x3.1, ((), ((x5, ()), ())))).bind fun x6 =>
  (g_mail_reader_gap_io (x6.1, (d.2.1, ()))).bind fun x7 =>
  (g_mail_reader_year_io (x7.1, (d.2.1, ()))).bind fun x8 =>
  some ((x8.1.1, ((x8.2.1.1, (x3.2.1.1, (x1.2.1.1, d.1.2.1.2.2.2))), ())), ((), ((), ()))))
  else (
  (g_mail_reader_gap_io (x3.1, (d.2.1, ()))).bind fun x9 =>
  (g_mail_reader_year_io (x9.1, (d.2.1, ()))).bind fun x10 =>
  some ((x10.1.1, ((x10.2.1.1, (x3.2.1.1, (x1.2.1.1, d.1.2.1.2.2.2))), ())), ((), ((), ()))))
def c_mail_reader_date_io : List Nat := []
def L_mail_reader_date_io (_ : Nat) : Pts po_mail_reader_date_io.den := []
def R_mail_reader_date_io (_ : Nat) : PtsR po_mail_reader_date_io.den := []
def E_mail_reader_date_io : Env := ((((((E0.add 44 (ioSem pi_mail_reader_gap_io po_mail_reader_gap_io 1 [(0, 0, some 0)] g_mail_reader_gap_io)).add 47 (ioSem pi_scan_Scanner_string_Fail_io po_scan_Scanner_string_Fail_io 0 [(0, 0, none)] g_scan_Scanner_string_Fail_io)).add 116 (ioSem pi_mail_reader_one_io po_mail_reader_one_io 1 [(0, 0, some 0)] g_mail_reader_one_io)).add 118 (ioSem pi_scan_Scanner_string_Figures_io po_scan_Scanner_string_Figures_io 1 [(0, 0, none)] g_scan_Scanner_string_Figures_io)).add 119 (ioSem pi_mail_reader_year_io po_mail_reader_year_io 1 [(0, 0, some 0)] g_mail_reader_year_io)).kp [0, 1])
theorem q_mail_reader_date_io_m (k : Nat) (d : pi_mail_reader_date_io.den) : evCode E_mail_reader_date_io (tb (L_mail_reader_date_io k) (R_mail_reader_date_io k)) c_mail_reader_date_io (bodyOf Tryz.f46) 0 (finKio E_mail_reader_date_io po_mail_reader_date_io [] [(0, some 0), (1, none)]) (startSt pi_mail_reader_date_io 33 d) = f_mail_reader_date_io_m () d := by kernel_rfl
def g_mail_reader_date_io (d : ((ByteArray × (Int × ((Option Int) × Unit))) × ((Int × (Int × (Int × (Int × (Int × (Int × (Int × (Int × Unit)))))))) × Unit)) × ((ByteArray × Unit) × (Unit × Unit))) : Option (((ByteArray × (Int × ((Option Int) × Unit))) × ((Int × (Int × (Int × (Int × (Int × (Int × (Int × (Int × Unit)))))))) × Unit)) × (Unit × (Unit × Unit))) := f_mail_reader_date_io_m () d
theorem ok_mail_reader_date_io : FnIo Tryz.prog ET0 46 pi_mail_reader_date_io po_mail_reader_date_io 0 [(0, 0, some 0), (1, 1, none)] g_mail_reader_date_io :=
  fn_of_bodyIo (E := E_mail_reader_date_io) (envOk_kp (envOk_add (envOk_add (envOk_add (envOk_add (envOk_add e0_ok (io_ok ok_mail_reader_gap_io)) (io_ok ok_scan_Scanner_string_Fail_io)) (io_ok ok_mail_reader_one_io)) (io_ok ok_scan_Scanner_string_Figures_io)) (io_ok ok_mail_reader_year_io))) (fn := Tryz.f46) Tryz.func46 (by kernel_rfl) (by kernel_rfl) [] [(0, some 0), (1, none)] [(0, 0, some 0), (1, 1, none)] (by kernel_rfl) (by kernel_rfl) (by kernel_rfl) (by kernel_rfl) (by decide) (by decide) c_mail_reader_date_io L_mail_reader_date_io R_mail_reader_date_io
    (by intro x hx; cases hx) (by intro k x hx; cases hx) (by intro x hx; cases hx) (by intro k x hx; cases hx) (fun d out h => ⟨0, (q_mail_reader_date_io_m 0 d).trans h⟩)

@[reducible] def pi_scan_Scanner_string_Take_io : PSh := ⟨[.var 176 [vS, vI, vE]], [.mk false [.ref 0 0], .mk false [v8]]⟩
@[reducible] def po_scan_Scanner_string_Take_io : PSh := ⟨[.var 176 [vS, vI, vE]], [.mk false [vB], .mk false [.ref 0 0]]⟩
def f_scan_Scanner_string_Take_io_m (T : Unit) (d : ((ByteArray × (Int × ((Option Int) × Unit))) × Unit) × (Unit × ((Int × Unit) × Unit))) : Option (((ByteArray × (Int × ((Option Int) × Unit))) × Unit) × ((Bool × Unit) × (Unit × Unit))) :=
  (g_scan_Scanner_string_Peek ((), (((some (d.1.1.1, (d.1.1.2.1, d.1.1.2.2.1))), ()), ()))).bind fun x1 =>
  let x2 : Bool := (!x1.2.2.1.1)
  bif x2 then (
  some (d.1, ((false, ()), ((), ()))))
  else (
  let x3 : Bool := (x1.2.1.1 != d.2.2.1.1)
  bif x3 then (
  some (d.1, ((false, ()), ((), ()))))
  else (
  (g_scan_Scanner_string_take_io (d.1, ((), (((1 : Int), ()), ())))).bind fun x4 =>
  some (x4.1, ((true, ()), ((), ())))))
def c_scan_Scanner_string_Take_io : List Nat := []
def L_scan_Scanner_string_Take_io (_ : Nat) : Pts po_scan_Scanner_string_Take_io.den := []
def R_scan_Scanner_string_Take_io (_ : Nat) : PtsR po_scan_Scanner_string_Take_io.den := []
def E_scan_Scanner_string_Take_io : Env := (((E0.add 184 (ioSem pi_scan_Scanner_string_take_io po_scan_Scanner_string_take_io 1 [(0, 0, none)] g_scan_Scanner_string_take_io)).add 189 (typedSem pi_scan_Scanner_string_Peek po_scan_Scanner_string_Peek g_scan_Scanner_string_Peek)).kp [0])
theorem q_scan_Scanner_string_Take_io_m (k : Nat) (d : pi_scan_Scanner_string_Take_io.den) : evCode E_scan_Scanner_string_Take_io (tb (L_scan_Scanner_string_Take_io k) (R_scan_Scanner_string_Take_io k)) c_scan_Scanner_string_Take_io (bodyOf Tryz.f121) 0 (finKio E_scan_Scanner_string_Take_io po_scan_Scanner_string_Take_io [.tmp 4] [(0, none)]) (startSt pi_scan_Scanner_string_Take_io 21 d) = f_scan_Scanner_string_Take_io_m () d := by kernel_rfl
def g_scan_Scanner_string_Take_io (d : ((ByteArray × (Int × ((Option Int) × Unit))) × Unit) × (Unit × ((Int × Unit) × Unit))) : Option (((ByteArray × (Int × ((Option Int) × Unit))) × Unit) × ((Bool × Unit) × (Unit × Unit))) := f_scan_Scanner_string_Take_io_m () d
theorem ok_scan_Scanner_string_Take_io : FnIo Tryz.prog ET0 121 pi_scan_Scanner_string_Take_io po_scan_Scanner_string_Take_io 1 [(0, 0, none)] g_scan_Scanner_string_Take_io :=
  fn_of_bodyIo (E := E_scan_Scanner_string_Take_io) (envOk_kp (envOk_add (envOk_add e0_ok (io_ok ok_scan_Scanner_string_take_io)) (typed_ok ok_scan_Scanner_string_Peek))) (fn := Tryz.f121) Tryz.func121 (by kernel_rfl) (by kernel_rfl) [.tmp 4] [(0, none)] [(0, 0, none)] (by kernel_rfl) (by kernel_rfl) (by kernel_rfl) (by kernel_rfl) (by decide) (by decide) c_scan_Scanner_string_Take_io L_scan_Scanner_string_Take_io R_scan_Scanner_string_Take_io
    (by intro x hx; cases hx) (by intro k x hx; cases hx) (by intro x hx; cases hx) (by intro k x hx; cases hx) (fun d out h => ⟨0, (q_scan_Scanner_string_Take_io_m 0 d).trans h⟩)

@[reducible] def pi_mail_reader_clock_io : PSh := ⟨[.var 176 [vS, vI, vE], .var 28 [vI, vI, vI, vI, vI, vI, vI, vI]], [.mk true [.ref 0 0, vS], .mk false [.ref 1 0]]⟩
@[reducible] def po_mail_reader_clock_io : PSh := ⟨[.var 176 [vS, vI, vE], .var 28 [vI, vI, vI, vI, vI, vI, vI, vI]], [.mk false [.ref 0 0], .mk false [.ref 1 0]]⟩
def f_mail_reader_clock_io_m (T : Unit) (d : ((ByteArray × (Int × ((Option Int) × Unit))) × ((Int × (Int × (Int × (Int × (Int × (Int × (Int × (Int × Unit)))))))) × Unit)) × ((ByteArray × Unit) × (Unit × Unit))) : Option (((ByteArray × (Int × ((Option Int) × Unit))) × ((Int × (Int × (Int × (Int × (Int × (Int × (Int × (Int × Unit)))))))) × Unit)) × (Unit × (Unit × Unit))) :=
  (g_scan_Scanner_string_Figures_io ((d.1.1, ()), ((), (((2 : Int), ()), (((2 : Int), ()), ()))))).bind fun x1 =>
  (g_mail_reader_gap_io (x1.1, (d.2.1, ()))).bind fun x2 =>
  (g_scan_Scanner_string_Must_io (x2.1, ((), (((⟨#[58]⟩ : ByteArray), ()), ())))).bind fun x3 =>
  (g_mail_reader_gap_io (x3.1, (d.2.1, ()))).bind fun x4 =>
  (g_scan_Scanner_string_Figures_io (x4.1, ((), (((2 : Int), ()), (((2 : Int), ()), ()))))).bind fun x5 =>
  (g_mail_reader_gap_io (x5.1, (d.2.1, ()))).bind fun x6 =>
  (g_scan_Scanner_string_Take_io (x6.1, ((), (((58 : Int), ()), ())))).bind fun x7 =>
  bif x7.2.1.1 then (
  (g_mail_reader_gap_io (x7.1, (d.2.1, ()))).bind fun x8 =>
  (g_scan_Scanner_string_Figures_io (x8.1, ((), (((2 : Int), ()), (((2 : Int), ()), ()))))).bind fun x9 =>
  (g_mail_reader_gap_io (x9.1, (d.2.1, ()))).bind fun x10 =>
  some ((x10.1.1, ((d.1.2.1.1, (d.1.2.1.2.1, (d.1.2.1.2.2.1, (x1.2.1.1, (x5.2.1.1, (x9.2.1.1, d.1.2.1.2.2.2.2.2.2)))))), ())), ((), ((), ()))))
  else (
  some ((x7.1.1, ((d.1.2.1.1, (d.1.2.1.2.1, (d.1.2.1.2.2.1, (x1.2.1.1, (x5.2.1.1, d.1.2.1.2.2.2.2.2))))), ())), ((), ((), ()))))
def c_mail_reader_clock_io : List Nat := []
def L_mail_reader_clock_io (_ : Nat) : Pts po_mail_reader_clock_io.den := []
def R_mail_reader_clock_io (_ : Nat) : PtsR po_mail_reader_clock_io.den := []
def E_mail_reader_clock_io : Env := (((((E0.add 44 (ioSem pi_mail_reader_gap_io po_mail_reader_gap_io 1 [(0, 0, some 0)] g_mail_reader_gap_io)).add 117 (ioSem pi_scan_Scanner_string_Must_io po_scan_Scanner_string_Must_io 0 [(0, 0, none)] g_scan_Scanner_string_Must_io)).add 118 (ioSem pi_scan_Scanner_string_Figures_io po_scan_Scanner_string_Figures_io 1 [(0, 0, none)] g_scan_Scanner_string_Figures_io)).add 121 (ioSem pi_scan_Scanner_string_Take_io po_scan_Scanner_string_Take_io 1 [(0, 0, none)] g_scan_Scanner_string_Take_io)).kp [0, 1])
theorem q_mail_reader_clock_io_m (k : Nat) (d : pi_mail_reader_clock_io.den) : evCode E_mail_reader_clock_io (tb (L_mail_reader_clock_io k) (R_mail_reader_clock_io k)) c_mail_reader_clock_io (bodyOf Tryz.f48) 0 (finKio E_mail_reader_clock_io po_mail_reader_clock_io [] [(0, some 0), (1, none)]) (startSt pi_mail_reader_clock_io 38 d) = f_mail_reader_clock_io_m () d := by kernel_rfl
def g_mail_reader_clock_io (d : ((ByteArray × (Int × ((Option Int) × Unit))) × ((Int × (Int × (Int × (Int × (Int × (Int × (Int × (Int × Unit)))))))) × Unit)) × ((ByteArray × Unit) × (Unit × Unit))) : Option (((ByteArray × (Int × ((Option Int) × Unit))) × ((Int × (Int × (Int × (Int × (Int × (Int × (Int × (Int × Unit)))))))) × Unit)) × (Unit × (Unit × Unit))) := f_mail_reader_clock_io_m () d
theorem ok_mail_reader_clock_io : FnIo Tryz.prog ET0 48 pi_mail_reader_clock_io po_mail_reader_clock_io 0 [(0, 0, some 0), (1, 1, none)] g_mail_reader_clock_io :=
  fn_of_bodyIo (E := E_mail_reader_clock_io) (envOk_kp (envOk_add (envOk_add (envOk_add (envOk_add e0_ok (io_ok ok_mail_reader_gap_io)) (io_ok ok_scan_Scanner_string_Must_io)) (io_ok ok_scan_Scanner_string_Figures_io)) (io_ok ok_scan_Scanner_string_Take_io))) (fn := Tryz.f48) Tryz.func48 (by kernel_rfl) (by kernel_rfl) [] [(0, some 0), (1, none)] [(0, 0, some 0), (1, 1, none)] (by kernel_rfl) (by kernel_rfl) (by kernel_rfl) (by kernel_rfl) (by decide) (by decide) c_mail_reader_clock_io L_mail_reader_clock_io R_mail_reader_clock_io
    (by intro x hx; cases hx) (by intro k x hx; cases hx) (by intro x hx; cases hx) (by intro k x hx; cases hx) (fun d out h => ⟨0, (q_mail_reader_clock_io_m 0 d).trans h⟩)

@[reducible] def pi_mail_reader_zone_io : PSh := ⟨[.var 176 [vS, vI, vE]], [.mk true [.ref 0 0, vS]]⟩
@[reducible] def po_mail_reader_zone_io : PSh := ⟨[.var 176 [vS, vI, vE]], [.mk false [vI], .mk false [vB], .mk false [.ref 0 0]]⟩
def f_mail_reader_zone_io_m (T : Unit) (d : ((ByteArray × (Int × ((Option Int) × Unit))) × Unit) × ((ByteArray × Unit) × Unit)) : Option (((ByteArray × (Int × ((Option Int) × Unit))) × Unit) × ((Int × Unit) × ((Bool × Unit) × (Unit × Unit)))) :=
  (g_scan_Scanner_string_Take_io (d.1, ((), (((45 : Int), ()), ())))).bind fun x1 =>
  let x2 : Bool := (!x1.2.1.1)
  bif x2 then (
  (g_scan_Scanner_string_Take_io (x1.1, ((), (((43 : Int), ()), ())))).bind fun x3 =>
  let x4 : Bool := (!x3.2.1.1)
  bif x4 then (
  (g_scan_Scanner_string_Run_io (x3.1, ((), (((⟨#[65, 66, 67, 68, 69, 70, 71, 72, 73, 74, 75, 76, 77, 78, 79, 80, 81, 82, 83, 84, 85, 86, 87, 88, 89, 90, 97, 98, 99, 100, 101, 102, 103, 104, 105, 106, 107, 108, 109, 110, 111, 112, 113, 114, 115, 116, 117, 118, 119, 120, 121, 122]⟩ : ByteArray), ()), ())))).bind fun x5 =>
  (g_mail_Zone ((), (x5.2.1, ()))).bind fun x6 =>
  let x7 : Bool := (!x6.2.2.1.1)
  bif x7 then (
  let x8 : (Option Int) := (some (2 : Int))
  (g_scan_Scanner_string_Fail_io (x5.1, ((), ((x8, ()), ())))).bind fun x9 =>
  some (x9.1, (x6.2.1, ((true, ()), ((), ())))))
  else (
  some (x5.1, (x6.2.1, ((true, ()), ((), ()))))))
  else (
  (g_scan_Scanner_string_Figures_io (x3.1, ((), (((2 : Int), ()), (((2 : Int), ()), ()))))).bind fun x10 =>
  (g_scan_Scanner_string_Figures_io (x10.1, ((), (((2 : Int), ()), (((2 : Int), ()), ()))))).bind fun x11 =>
  let x12 : Int := (imul .i64 x10.2.1.1 (60 : Int))
  let x13 : Int := (iadd .i64 x12 x11.2.1.1)
  bif x1.2.1.1 then (
  let x14 : Int := (ineg .i64 x13)
  let x15 : Bool := (decide (x10.2.1.1 < (24 : Int)))
  bif x15 then (
  let x16 : Bool := (decide (x11.2.1.1 < (60 : Int)))
  some (x11.1, ((x14, ()), ((x16, ()), ((), ())))))
  else (
  some (x11.1, ((x14, ()), ((false, ()), ((), ()))))))
  else (
  let x17 : Bool := (decide (x10.2.1.1 < (24 : Int)))
  bif x17 then (
  let x18 : Bool := (decide (x11.2.1.1 < (60 : Int)))
  some (x11.1, ((x13, ()), ((x18, ()), ((), ())))))
  else (
  some (x11.1, ((x13, ()), ((false, ()), ((), ()))))))))
  else (
  (g_scan_Scanner_string_Figures_io (x1.1, ((), (((2 : Int), ()), (((2 : Int), ()), ()))))).bind fun x19 =>
  (g_scan_Scanner_string_Figures_io (x19.1, ((), (((2 : Int), ()), (((2 : Int), ()), ()))))).bind fun x20 =>
  let x21 : Int := (imul .i64 x19.2.1.1 (60 : Int))
  let x22 : Int := (iadd .i64 x21 x20.2.1.1)
  bif x1.2.1.1 then (
  let x23 : Int := (ineg .i64 x22)
  let x24 : Bool := (decide (x19.2.1.1 < (24 : Int)))
  bif x24 then (
  let x25 : Bool := (decide (x20.2.1.1 < (60 : Int)))
  some (x20.1, ((x23, ()), ((x25, ()), ((), ())))))
  else (
  some (x20.1, ((x23, ()), ((false, ()), ((), ()))))))
  else (
  let x26 : Bool := (decide (x19.2.1.1 < (24 : Int)))
  bif x26 then (
  let x27 : Bool := (decide (x20.2.1.1 < (60 : Int)))
  some (x20.1, ((x22, ()), ((x27, ()), ((), ())))))
  else (
  some (x20.1, ((x22, ()), ((false, ()), ((), ())))))))
def c_mail_reader_zone_io : List Nat := []
def L_mail_reader_zone_io (_ : Nat) : Pts po_mail_reader_zone_io.den := []
def R_mail_reader_zone_io (_ : Nat) : PtsR po_mail_reader_zone_io.den := []
def E_mail_reader_zone_io : Env := ((((((E0.add 47 (ioSem pi_scan_Scanner_string_Fail_io po_scan_Scanner_string_Fail_io 0 [(0, 0, none)] g_scan_Scanner_string_Fail_io)).add 118 (ioSem pi_scan_Scanner_string_Figures_io po_scan_Scanner_string_Figures_io 1 [(0, 0, none)] g_scan_Scanner_string_Figures_io)).add 121 (ioSem pi_scan_Scanner_string_Take_io po_scan_Scanner_string_Take_io 1 [(0, 0, none)] g_scan_Scanner_string_Take_io)).add 122 (typedSem pi_mail_Zone po_mail_Zone g_mail_Zone)).add 123 (ioSem pi_scan_Scanner_string_Run_io po_scan_Scanner_string_Run_io 1 [(0, 0, none)] g_scan_Scanner_string_Run_io)).kp [0])
theorem q_mail_reader_zone_io_m (k : Nat) (d : pi_mail_reader_zone_io.den) : evCode E_mail_reader_zone_io (tb (L_mail_reader_zone_io k) (R_mail_reader_zone_io k)) c_mail_reader_zone_io (bodyOf Tryz.f49) 0 (finKio E_mail_reader_zone_io po_mail_reader_zone_io [.tmp 2, .tmp 3] [(0, some 0)]) (startSt pi_mail_reader_zone_io 55 d) = f_mail_reader_zone_io_m () d := by kernel_rfl
def g_mail_reader_zone_io (d : ((ByteArray × (Int × ((Option Int) × Unit))) × Unit) × ((ByteArray × Unit) × Unit)) : Option (((ByteArray × (Int × ((Option Int) × Unit))) × Unit) × ((Int × Unit) × ((Bool × Unit) × (Unit × Unit)))) := f_mail_reader_zone_io_m () d
theorem ok_mail_reader_zone_io : FnIo Tryz.prog ET0 49 pi_mail_reader_zone_io po_mail_reader_zone_io 2 [(0, 0, some 0)] g_mail_reader_zone_io :=
  fn_of_bodyIo (E := E_mail_reader_zone_io) (envOk_kp (envOk_add (envOk_add (envOk_add (envOk_add (envOk_add e0_ok (io_ok ok_scan_Scanner_string_Fail_io)) (io_ok ok_scan_Scanner_string_Figures_io)) (io_ok ok_scan_Scanner_string_Take_io)) (typed_ok ok_mail_Zone)) (io_ok ok_scan_Scanner_string_Run_io))) (fn := Tryz.f49) Tryz.func49 (by kernel_rfl) (by kernel_rfl) [.tmp 2, .tmp 3] [(0, some 0)] [(0, 0, some 0)] (by kernel_rfl) (by kernel_rfl) (by kernel_rfl) (by kernel_rfl) (by decide) (by decide) c_mail_reader_zone_io L_mail_reader_zone_io R_mail_reader_zone_io
    (by intro x hx; cases hx) (by intro k x hx; cases hx) (by intro x hx; cases hx) (by intro k x hx; cases hx) (fun d out h => ⟨0, (q_mail_reader_zone_io_m 0 d).trans h⟩)

@[reducible] def pi_mail_Parse : PSh := ⟨[], [.mk false [vS]]⟩
@[reducible] def po_mail_Parse : PSh := ⟨[], [.mk true [vI, vI, vI, vI, vI, vI, vI, vI], .mk false [vE]]⟩
@[reducible] def TT_mail_Parse : Type := (((((Int × (Int × (Int × (Int × (Int × (Int × (Int × (Int × Unit)))))))) × ((ByteArray × Unit) × ((ByteArray × (Int × ((Option Int) × Unit))) × ((Int × (Int × (Int × (Int × (Int × (Int × (Int × (Int × Unit)))))))) × Unit)))) × (Unit × (Unit × (Unit × ((Int × Unit) × Unit))))) → Option (Unit × ((Int × (Int × (Int × (Int × (Int × (Int × (Int × (Int × Unit)))))))) × (((Option Int) × Unit) × Unit)))) × Unit)
@[reducible] def sh_mail_Parse_6 : PSh := ⟨[.var 28 [vI, vI, vI, vI, vI, vI, vI, vI], .var 95 [.ref 2 0, vS], .var 176 [vS, vI, vE], .var 28 [vI, vI, vI, vI, vI, vI, vI, vI]], [.any, .any, .mk false [.ref 0 0], .any, .mk false [.ref 1 0], .mk false [.ref 3 0], .mk false [vI], .any, .any, .any, .any, .any, .any, .any, .any, .any, .any, .any, .any, .any, .any, .any, .any, .any, .any, .any, .any, .any, .any, .any, .any, .any, .any, .any, .any, .any, .any, .any, .any, .any, .any, .any, .any, .any, .any, .any, .any, .any, .any, .any, .any, .any, .any, .any, .any, .any, .any, .any, .any, .any, .any, .any, .any, .any, .any, .any, .any, .any, .any, .any, .any, .any, .any, .any, .any, .any, .any, .any, .any, .any, .any, .any, .any, .any, .any]⟩
def f_mail_Parse_p6 (T : TT_mail_Parse) (d : ((Int × (Int × (Int × (Int × (Int × (Int × (Int × (Int × Unit)))))))) × ((ByteArray × Unit) × ((ByteArray × (Int × ((Option Int) × Unit))) × ((Int × (Int × (Int × (Int × (Int × (Int × (Int × (Int × Unit)))))))) × Unit)))) × (Unit × (Unit × (Unit × ((Int × Unit) × Unit))))) : Option (Unit × ((Int × (Int × (Int × (Int × (Int × (Int × (Int × (Int × Unit)))))))) × (((Option Int) × Unit) × Unit))) :=
  (g_mail_reader_clock_io (d.1.2.2, (d.1.2.1, ((), ())))).bind fun x9 =>
  (g_mail_reader_zone_io ((x9.1.1, ()), (d.1.2.1, ()))).bind fun x10 =>
  (g_mail_reader_gap_io (x10.1, (d.1.2.1, ()))).bind fun x11 =>
  (g_scan_Scanner_string_End ((), (((some (x11.1.1.1, (x11.1.1.2.1, x11.1.1.2.2.1))), ()), ()))).bind fun x12 =>
  let x13 : Bool := (!x12.2.1.1.isNone)
  bif x13 then (
  let x14 : (Option Int) := (some (2 : Int))
  some ((), (((0 : Int), ((0 : Int), ((0 : Int), ((0 : Int), ((0 : Int), ((0 : Int), ((0 : Int), ((0 : Int), ())))))))), ((x14, ()), ()))))
  else (
  let x15 : Bool := (!x10.2.2.1.1)
  bif x15 then (
  let x16 : (Option Int) := (some (1 : Int))
  some ((), (((0 : Int), ((0 : Int), ((0 : Int), ((0 : Int), ((0 : Int), ((0 : Int), ((0 : Int), ((0 : Int), ())))))))), ((x16, ()), ()))))
  else (
  let x17 : Bool := (decide (x9.1.2.1.1 < (1900 : Int)))
  bif x17 then (
  let x18 : (Option Int) := (some (13 : Int))
  some ((), (((0 : Int), ((0 : Int), ((0 : Int), ((0 : Int), ((0 : Int), ((0 : Int), ((0 : Int), ((0 : Int), ())))))))), ((x18, ()), ()))))
  else (
  (g_label_Check ((), ((x9.1.2.1.1, (x9.1.2.1.2.1, (x9.1.2.1.2.2.1, (x9.1.2.1.2.2.2.1, (x9.1.2.1.2.2.2.2.1, (x9.1.2.1.2.2.2.2.2.1, (x9.1.2.1.2.2.2.2.2.2.1, x10.2.1))))))), ()))).bind fun x19 =>
  let x20 : Bool := (!x19.2.1.1.isNone)
  bif x20 then (
  some ((), (((0 : Int), ((0 : Int), ((0 : Int), ((0 : Int), ((0 : Int), ((0 : Int), ((0 : Int), ((0 : Int), ())))))))), x19.2)))
  else (
  (g_mail_weekday ((), ((x9.1.2.1.1, (x9.1.2.1.2.1, (x9.1.2.1.2.2.1, (x9.1.2.1.2.2.2.1, (x9.1.2.1.2.2.2.2.1, (x9.1.2.1.2.2.2.2.2.1, (x9.1.2.1.2.2.2.2.2.2.1, x10.2.1))))))), ()))).bind fun x21 =>
  let x22 : Bool := (!x21.2.2.1.1.isNone)
  bif x22 then (
  some ((), (((0 : Int), ((0 : Int), ((0 : Int), ((0 : Int), ((0 : Int), ((0 : Int), ((0 : Int), ((0 : Int), ())))))))), x21.2.2)))
  else (
  let x23 : Bool := (d.2.2.2.2.1.1 != (0 : Int))
  bif x23 then (
  let x24 : Bool := (d.2.2.2.2.1.1 != x21.2.1.1)
  bif x24 then (
  let x25 : (Option Int) := (some (1 : Int))
  some ((), (((0 : Int), ((0 : Int), ((0 : Int), ((0 : Int), ((0 : Int), ((0 : Int), ((0 : Int), ((0 : Int), ())))))))), ((x25, ()), ()))))
  else (
  some ((), ((x9.1.2.1.1, (x9.1.2.1.2.1, (x9.1.2.1.2.2.1, (x9.1.2.1.2.2.2.1, (x9.1.2.1.2.2.2.2.1, (x9.1.2.1.2.2.2.2.2.1, (x9.1.2.1.2.2.2.2.2.2.1, x10.2.1))))))), (((none : Option Int), ()), ())))))
  else (
  some ((), ((x9.1.2.1.1, (x9.1.2.1.2.1, (x9.1.2.1.2.2.1, (x9.1.2.1.2.2.2.1, (x9.1.2.1.2.2.2.2.1, (x9.1.2.1.2.2.2.2.2.1, (x9.1.2.1.2.2.2.2.2.2.1, x10.2.1))))))), (((none : Option Int), ()), ())))))))))
def f_mail_Parse_t : Nat → TT_mail_Parse
  | 0 => (fun _ => none, ())
  | k + 1 => (f_mail_Parse_p6 (f_mail_Parse_t k), ())
theorem t_mail_Parse (k : Nat) : f_mail_Parse_t (k + 1) = (f_mail_Parse_p6 (f_mail_Parse_t k), ()) := rfl
def f_mail_Parse_m (T : TT_mail_Parse) (d : Unit × ((ByteArray × Unit) × Unit)) : Option (Unit × ((Int × (Int × (Int × (Int × (Int × (Int × (Int × (Int × Unit)))))))) × (((Option Int) × Unit) × Unit))) :=
  (g_scan_New_string ((), d.2)).bind fun x1 =>
  (g_mail_reader_gap_io (x1.1, d.2)).bind fun x2 =>
  (g_mail_reader_weekday_io (x2.1, d.2)).bind fun x3 =>
  (g_mail_reader_date_io ((x3.1.1, (((0 : Int), ((0 : Int), ((0 : Int), ((0 : Int), ((0 : Int), ((0 : Int), ((0 : Int), ((0 : Int), ())))))))), ())), (d.2.1, ((), ())))).bind fun x4 =>
  (g_mail_reader_gap_io ((x4.1.1, ()), d.2)).bind fun x5 =>
  let x6 : Bool := (!x5.2.1.1)
  bif x6 then (
  let x7 : (Option Int) := (some (2 : Int))
  (g_scan_Scanner_string_Fail_io (x5.1, ((), ((x7, ()), ())))).bind fun x8 =>
  (T.1 ((((0 : Int), ((0 : Int), ((0 : Int), ((0 : Int), ((0 : Int), ((0 : Int), ((0 : Int), ((0 : Int), ())))))))), (d.2.1, (x8.1.1, x4.1.2))), ((), ((), ((), (x3.2.1, ())))))))
  else (
  (T.1 ((((0 : Int), ((0 : Int), ((0 : Int), ((0 : Int), ((0 : Int), ((0 : Int), ((0 : Int), ((0 : Int), ())))))))), (d.2.1, (x5.1.1, x4.1.2))), ((), ((), ((), (x3.2.1, ())))))))
def c_mail_Parse : List Nat := [6]
def L_mail_Parse (k : Nat) : Pts po_mail_Parse.den := [(6, ⟨sh_mail_Parse_6, (f_mail_Parse_t k).1⟩)]
def R_mail_Parse (_ : Nat) : PtsR po_mail_Parse.den := []
def E_mail_Parse : Env := ((((((((((E0.add 43 (typedSem pi_scan_New_string po_scan_New_string g_scan_New_string)).add 44 (ioSem pi_mail_reader_gap_io po_mail_reader_gap_io 1 [(0, 0, some 0)] g_mail_reader_gap_io)).add 45 (ioSem pi_mail_reader_weekday_io po_mail_reader_weekday_io 1 [(0, 0, some 0)] g_mail_reader_weekday_io)).add 46 (ioSem pi_mail_reader_date_io po_mail_reader_date_io 0 [(0, 0, some 0), (1, 1, none)] g_mail_reader_date_io)).add 47 (ioSem pi_scan_Scanner_string_Fail_io po_scan_Scanner_string_Fail_io 0 [(0, 0, none)] g_scan_Scanner_string_Fail_io)).add 48 (ioSem pi_mail_reader_clock_io po_mail_reader_clock_io 0 [(0, 0, some 0), (1, 1, none)] g_mail_reader_clock_io)).add 49 (ioSem pi_mail_reader_zone_io po_mail_reader_zone_io 2 [(0, 0, some 0)] g_mail_reader_zone_io)).add 50 (typedSem pi_scan_Scanner_string_End po_scan_Scanner_string_End g_scan_Scanner_string_End)).add 51 (typedSem pi_label_Check po_label_Check g_label_Check)).add 52 (typedSem pi_mail_weekday po_mail_weekday g_mail_weekday))
theorem q_mail_Parse_6 (k : Nat) (d : sh_mail_Parse_6.den) : evAt E_mail_Parse (tb (L_mail_Parse k) (R_mail_Parse k)) c_mail_Parse 6 (bodyOf Tryz.f8) 0 (finK E_mail_Parse po_mail_Parse [.cell 2 28, .tmp 3]) (ptSt sh_mail_Parse_6 d) = f_mail_Parse_p6 (f_mail_Parse_t k) d := by kernel_rfl
theorem q_mail_Parse_m (k : Nat) (d : pi_mail_Parse.den) : evCode E_mail_Parse (tb (L_mail_Parse k) (R_mail_Parse k)) c_mail_Parse (bodyOf Tryz.f8) 0 (finK E_mail_Parse po_mail_Parse [.cell 2 28, .tmp 3]) (startSt pi_mail_Parse 85 d) = f_mail_Parse_m (f_mail_Parse_t k) d := by kernel_rfl
def g_mail_Parse (d : Unit × ((ByteArray × Unit) × Unit)) : Option (Unit × ((Int × (Int × (Int × (Int × (Int × (Int × (Int × (Int × Unit)))))))) × (((Option Int) × Unit) × Unit))) := lim fun k => f_mail_Parse_m (f_mail_Parse_t k) d
theorem ok_mail_Parse : FnOk Tryz.prog ET0 8 pi_mail_Parse po_mail_Parse g_mail_Parse :=
  fn_of_body (E := E_mail_Parse) (envOk_add (envOk_add (envOk_add (envOk_add (envOk_add (envOk_add (envOk_add (envOk_add (envOk_add (envOk_add e0_ok (typed_ok ok_scan_New_string)) (io_ok ok_mail_reader_gap_io)) (io_ok ok_mail_reader_weekday_io)) (io_ok ok_mail_reader_date_io)) (io_ok ok_scan_Scanner_string_Fail_io)) (io_ok ok_mail_reader_clock_io)) (io_ok ok_mail_reader_zone_io)) (typed_ok ok_scan_Scanner_string_End)) (typed_ok ok_label_Check)) (typed_ok ok_mail_weekday)) (fn := Tryz.f8) Tryz.func8 (by kernel_rfl) (by kernel_rfl) [.cell 2 28, .tmp 3] (by kernel_rfl) (by kernel_rfl) (by decide) rfl c_mail_Parse L_mail_Parse R_mail_Parse
    (by intro x hx d; simp only [L_mail_Parse, List.mem_cons, List.not_mem_nil, or_false] at hx; subst hx; rfl)
    (by intro k x hx d out h; simp only [L_mail_Parse, List.mem_cons, List.not_mem_nil, or_false] at hx; subst hx; exact (q_mail_Parse_6 k d).trans h)
    (by intro x hx; cases hx)
    (by intro k x hx; cases hx)
    (by intro d out h; obtain ⟨k, hk⟩ := lim_some h; exact ⟨k, (q_mail_Parse_m k d).trans hk⟩)

@[reducible] def pi_slices_Reverse_byte_byte_io : PSh := ⟨[.row 5 (.int .u8)], [.mk false [.osl 0]]⟩
@[reducible] def po_slices_Reverse_byte_byte_io : PSh := ⟨[.row 5 (.int .u8)], [.mk false [.osl 0]]⟩
@[reducible] def TT_slices_Reverse_byte_byte_io : Type := (((((List Int) × Unit) × (Unit × ((Int × Unit) × ((Int × Unit) × Unit)))) → Option (((List Int) × Unit) × (Unit × Unit))) × Unit)
@[reducible] def sh_slices_Reverse_byte_byte_io_1 : PSh := ⟨[.row 5 (.int .u8)], [.mk false [.osl 0], .any, .mk false [vI], .mk false [vI], .any, .any, .any, .any, .any, .any, .any, .any, .any, .any, .any, .any, .any, .any, .any, .any, .any, .any, .any, .any, .any, .any, .any, .any]⟩
def f_slices_Reverse_byte_byte_io_p1 (T : TT_slices_Reverse_byte_byte_io) (d : ((List Int) × Unit) × (Unit × ((Int × Unit) × ((Int × Unit) × Unit)))) : Option (((List Int) × Unit) × (Unit × Unit)) :=
  let x3 : Bool := (decide (d.2.2.1.1 < d.2.2.2.1.1))
  bif x3 then (
  bif decide ((0 : Int) ≤ d.2.2.2.1.1) && decide (d.2.2.2.1.1 < (d.1.1.length : Int)) then (
  bif decide ((0 : Int) ≤ d.2.2.1.1) && decide (d.2.2.1.1 < (d.1.1.length : Int)) then (
  bif decide ((0 : Int) ≤ d.2.2.1.1) && decide (d.2.2.1.1 < (d.1.1.length : Int)) then (
  let x4 : (List Int) := (List.set d.1.1 (Int.toNat d.2.2.1.1) (gd (.int .u8) d.1.1 d.2.2.2.1.1))
  bif decide ((0 : Int) ≤ d.2.2.2.1.1) && decide (d.2.2.2.1.1 < (x4.length : Int)) then (
  let x5 : (List Int) := (List.set x4 (Int.toNat d.2.2.2.1.1) (gd (.int .u8) d.1.1 d.2.2.1.1))
  let x6 : Int := (iadd .i64 d.2.2.1.1 (1 : Int))
  let x7 : Int := (isub .i64 d.2.2.2.1.1 (1 : Int))
  (T.1 ((x5, ()), ((), ((x6, ()), ((x7, ()), ()))))))
  else none)
  else none)
  else none)
  else none)
  else (
  some (d.1, ((), ())))
def f_slices_Reverse_byte_byte_io_t : Nat → TT_slices_Reverse_byte_byte_io
  | 0 => (fun _ => none, ())
  | k + 1 => (f_slices_Reverse_byte_byte_io_p1 (f_slices_Reverse_byte_byte_io_t k), ())
theorem t_slices_Reverse_byte_byte_io (k : Nat) : f_slices_Reverse_byte_byte_io_t (k + 1) = (f_slices_Reverse_byte_byte_io_p1 (f_slices_Reverse_byte_byte_io_t k), ()) := rfl
def f_slices_Reverse_byte_byte_io_m (T : TT_slices_Reverse_byte_byte_io) (d : ((List Int) × Unit) × (Unit × Unit)) : Option (((List Int) × Unit) × (Unit × Unit)) :=
  let x1 : Int := (d.1.1.length : Int)
  let x2 : Int := (isub .i64 x1 (1 : Int))
  (T.1 (d.1, ((), (((0 : Int), ()), ((x2, ()), ())))))
def c_slices_Reverse_byte_byte_io : List Nat := []
def L_slices_Reverse_byte_byte_io (k : Nat) : Pts po_slices_Reverse_byte_byte_io.den := [(1, ⟨sh_slices_Reverse_byte_byte_io_1, (f_slices_Reverse_byte_byte_io_t k).1⟩)]
def R_slices_Reverse_byte_byte_io (_ : Nat) : PtsR po_slices_Reverse_byte_byte_io.den := []
def E_slices_Reverse_byte_byte_io : Env := (E0.kp [0])
theorem q_slices_Reverse_byte_byte_io_1 (k : Nat) (d : sh_slices_Reverse_byte_byte_io_1.den) : evAt E_slices_Reverse_byte_byte_io (tb (L_slices_Reverse_byte_byte_io k) (R_slices_Reverse_byte_byte_io k)) c_slices_Reverse_byte_byte_io 1 (bodyOf Tryz.f200) 0 (finKio E_slices_Reverse_byte_byte_io po_slices_Reverse_byte_byte_io [] [(0, none)]) (ptSt sh_slices_Reverse_byte_byte_io_1 d) = f_slices_Reverse_byte_byte_io_p1 (f_slices_Reverse_byte_byte_io_t k) d := by kernel_rfl
theorem q_slices_Reverse_byte_byte_io_m (k : Nat) (d : pi_slices_Reverse_byte_byte_io.den) : evCode E_slices_Reverse_byte_byte_io (tb (L_slices_Reverse_byte_byte_io k) (R_slices_Reverse_byte_byte_io k)) c_slices_Reverse_byte_byte_io (bodyOf Tryz.f200) 0 (finKio E_slices_Reverse_byte_byte_io po_slices_Reverse_byte_byte_io [] [(0, none)]) (startSt pi_slices_Reverse_byte_byte_io 28 d) = f_slices_Reverse_byte_byte_io_m (f_slices_Reverse_byte_byte_io_t k) d := by kernel_rfl
def g_slices_Reverse_byte_byte_io (d : ((List Int) × Unit) × (Unit × Unit)) : Option (((List Int) × Unit) × (Unit × Unit)) := lim fun k => f_slices_Reverse_byte_byte_io_m (f_slices_Reverse_byte_byte_io_t k) d
theorem ok_slices_Reverse_byte_byte_io : FnIo Tryz.prog ET0 200 pi_slices_Reverse_byte_byte_io po_slices_Reverse_byte_byte_io 0 [(0, 0, none)] g_slices_Reverse_byte_byte_io :=
  fn_of_bodyIo (E := E_slices_Reverse_byte_byte_io) (envOk_kp e0_ok) (fn := Tryz.f200) Tryz.func200 (by kernel_rfl) (by kernel_rfl) [] [(0, none)] [(0, 0, none)] (by kernel_rfl) (by kernel_rfl) (by kernel_rfl) (by kernel_rfl) (by decide) (by decide) c_slices_Reverse_byte_byte_io L_slices_Reverse_byte_byte_io R_slices_Reverse_byte_byte_io
    (by intro x hx d; simp only [L_slices_Reverse_byte_byte_io, List.mem_cons, List.not_mem_nil, or_false] at hx; subst hx; rfl)
    (by intro k x hx d out h; simp only [L_slices_Reverse_byte_byte_io, List.mem_cons, List.not_mem_nil, or_false] at hx; subst hx; exact (q_slices_Reverse_byte_byte_io_1 k d).trans h)
    (by intro x hx; cases hx)
    (by intro k x hx; cases hx)
    (by intro d out h; obtain ⟨k, hk⟩ := lim_some h; exact ⟨k, (q_slices_Reverse_byte_byte_io_m k d).trans hk⟩)

@[reducible] def pi_figures_raw : PSh := ⟨[], [.mk false [.v (.int .u64)], .mk false [vI]]⟩
@[reducible] def po_figures_raw : PSh := ⟨[], [.mk false [vS]]⟩
@[reducible] def TT_figures_raw : Type := (((((List Int) × Unit) × ((Int × Unit) × ((Int × Unit) × (Unit × Unit)))) → Option (Unit × ((ByteArray × Unit) × Unit))) × Unit)
@[reducible] def sh_figures_raw_3 : PSh := ⟨[.row 5 (.int .u8)], [.mk false [.v (.int .u64)], .mk false [vI], .any, .any, .any, .mk false [.osl 0], .any, .any, .any, .any, .any, .any, .any, .any, .any, .any, .any, .any, .any, .any, .any, .any, .any, .any, .any, .any, .any, .any]⟩
def f_figures_raw_p3 (T : TT_figures_raw) (d : ((List Int) × Unit) × ((Int × Unit) × ((Int × Unit) × (Unit × Unit)))) : Option (Unit × ((ByteArray × Unit) × Unit)) :=
  let x1 : Bool := (decide (d.2.1.1 > (0 : Int)))
  bif x1 then (
  let x2 : Int := (Int.tmod d.2.1.1 (10 : Int))
  let x3 : Int := (iconv .u8 x2)
  let x4 : Int := (iadd .u8 (48 : Int) x3)
  let x5 : (List Int) := ([x4] : List Int)
  bif decide (((d.1.1.length + x5.length) * 1 : Nat) ≤ 140737488355328) && decide (d.1.1.length + x5.length ≤ 9223372036854775807) then (
  let x6 : (List Int) := (d.1.1 ++ x5)
  let x7 : Int := (iquo .u64 d.2.1.1 (10 : Int))
  (T.1 ((x6, ()), ((x7, ()), (d.2.2.1, ((), ()))))))
  else none)
  else (
  let x8 : Int := (d.1.1.length : Int)
  let x9 : Int := (if (1 : Int) > d.2.2.1.1 then (1 : Int) else d.2.2.1.1)
  let x10 : Bool := (decide (x8 < x9))
  bif x10 then (
  let x11 : Int := (Int.tmod d.2.1.1 (10 : Int))
  let x12 : Int := (iconv .u8 x11)
  let x13 : Int := (iadd .u8 (48 : Int) x12)
  let x14 : (List Int) := ([x13] : List Int)
  bif decide (((d.1.1.length + x14.length) * 1 : Nat) ≤ 140737488355328) && decide (d.1.1.length + x14.length ≤ 9223372036854775807) then (
  let x15 : (List Int) := (d.1.1 ++ x14)
  let x16 : Int := (iquo .u64 d.2.1.1 (10 : Int))
  (T.1 ((x15, ()), ((x16, ()), (d.2.2.1, ((), ()))))))
  else none)
  else (
  (g_slices_Reverse_byte_byte_io (d.1, ((), ()))).bind fun x17 =>
  let x18 : ByteArray := (strOf x17.1.1)
  some ((), ((x18, ()), ()))))
def f_figures_raw_t : Nat → TT_figures_raw
  | 0 => (fun _ => none, ())
  | k + 1 => (f_figures_raw_p3 (f_figures_raw_t k), ())
theorem t_figures_raw (k : Nat) : f_figures_raw_t (k + 1) = (f_figures_raw_p3 (f_figures_raw_t k), ()) := rfl
def f_figures_raw_m (T : TT_figures_raw) (d : Unit × ((Int × Unit) × ((Int × Unit) × Unit))) : Option (Unit × ((ByteArray × Unit) × Unit)) :=
  (T.1 ((([] : List Int), ()), (d.2.1, (d.2.2.1, ((), ())))))
def c_figures_raw : List Nat := []
def L_figures_raw (k : Nat) : Pts po_figures_raw.den := [(3, ⟨sh_figures_raw_3, (f_figures_raw_t k).1⟩)]
def R_figures_raw (_ : Nat) : PtsR po_figures_raw.den := []
def E_figures_raw : Env := (E0.add 200 (ioSem pi_slices_Reverse_byte_byte_io po_slices_Reverse_byte_byte_io 0 [(0, 0, none)] g_slices_Reverse_byte_byte_io))
theorem q_figures_raw_3 (k : Nat) (d : sh_figures_raw_3.den) : evAt E_figures_raw (tb (L_figures_raw k) (R_figures_raw k)) c_figures_raw 3 (bodyOf Tryz.f154) 0 (finK E_figures_raw po_figures_raw [.tmp 4]) (ptSt sh_figures_raw_3 d) = f_figures_raw_p3 (f_figures_raw_t k) d := by kernel_rfl
theorem q_figures_raw_m (k : Nat) (d : pi_figures_raw.den) : evCode E_figures_raw (tb (L_figures_raw k) (R_figures_raw k)) c_figures_raw (bodyOf Tryz.f154) 0 (finK E_figures_raw po_figures_raw [.tmp 4]) (startSt pi_figures_raw 28 d) = f_figures_raw_m (f_figures_raw_t k) d := by kernel_rfl
def g_figures_raw (d : Unit × ((Int × Unit) × ((Int × Unit) × Unit))) : Option (Unit × ((ByteArray × Unit) × Unit)) := lim fun k => f_figures_raw_m (f_figures_raw_t k) d
theorem ok_figures_raw : FnOk Tryz.prog ET0 154 pi_figures_raw po_figures_raw g_figures_raw :=
  fn_of_body (E := E_figures_raw) (envOk_add e0_ok (io_ok ok_slices_Reverse_byte_byte_io)) (fn := Tryz.f154) Tryz.func154 (by kernel_rfl) (by kernel_rfl) [.tmp 4] (by kernel_rfl) (by kernel_rfl) (by decide) rfl c_figures_raw L_figures_raw R_figures_raw
    (by intro x hx d; simp only [L_figures_raw, List.mem_cons, List.not_mem_nil, or_false] at hx; subst hx; rfl)
    (by intro k x hx d out h; simp only [L_figures_raw, List.mem_cons, List.not_mem_nil, or_false] at hx; subst hx; exact (q_figures_raw_3 k d).trans h)
    (by intro x hx; cases hx)
    (by intro k x hx; cases hx)
    (by intro d out h; obtain ⟨k, hk⟩ := lim_some h; exact ⟨k, (q_figures_raw_m k d).trans hk⟩)

@[reducible] def pi_figures_Put : PSh := ⟨[], [.mk false [vI], .mk false [vI]]⟩
@[reducible] def po_figures_Put : PSh := ⟨[], [.mk false [vS], .mk false [vE]]⟩
def f_figures_Put_m (T : Unit) (d : Unit × ((Int × Unit) × ((Int × Unit) × Unit))) : Option (Unit × ((ByteArray × Unit) × (((Option Int) × Unit) × Unit))) :=
  let x1 : Bool := (decide (d.2.2.1.1 < (0 : Int)))
  bif x1 then (
  let x2 : (Option Int) := (some (1 : Int))
  some ((), (((⟨#[]⟩ : ByteArray), ()), ((x2, ()), ()))))
  else (
  let x3 : Bool := (decide (d.2.2.1.1 > (20 : Int)))
  bif x3 then (
  let x4 : (Option Int) := (some (1 : Int))
  some ((), (((⟨#[]⟩ : ByteArray), ()), ((x4, ()), ()))))
  else (
  let x5 : Bool := (decide (d.2.1.1 < (0 : Int)))
  bif x5 then (
  let x6 : Int := (iconv .u64 d.2.1.1)
  let x7 : Int := (ineg .u64 x6)
  (g_figures_raw ((), ((x7, ()), d.2.2))).bind fun x8 =>
  bif fitsS (⟨#[45]⟩ : ByteArray) x8.2.1.1 then (
  let x9 : ByteArray := ((⟨#[45]⟩ : ByteArray) ++ x8.2.1.1)
  some ((), ((x9, ()), (((none : Option Int), ()), ()))))
  else none)
  else (
  let x10 : Int := (iconv .u64 d.2.1.1)
  (g_figures_raw ((), ((x10, ()), d.2.2))).bind fun x11 =>
  some ((), (x11.2.1, (((none : Option Int), ()), ()))))))
def g_figures_Put (d : Unit × ((Int × Unit) × ((Int × Unit) × Unit))) : Option (Unit × ((ByteArray × Unit) × (((Option Int) × Unit) × Unit))) := f_figures_Put_m () d
theorem ok_figures_Put : FnOk Tryz.prog ET0 86 pi_figures_Put po_figures_Put g_figures_Put :=
  fn0 (E := (E0.add 154 (typedSem pi_figures_raw po_figures_raw g_figures_raw))) (envOk_add e0_ok (typed_ok ok_figures_raw)) (fn := Tryz.f86) Tryz.func86 (by kernel_rfl) (by kernel_rfl) [.tmp 4, .tmp 5] (by kernel_rfl) rfl rfl rfl [] fun d => by kernel_rfl

@[reducible] def pi_mail_Weekday : PSh := ⟨[], [.mk false [vI]]⟩
@[reducible] def po_mail_Weekday : PSh := ⟨[], [.mk false [vS]]⟩
def f_mail_Weekday_m (T : Unit) (d : Unit × ((Int × Unit) × Unit)) : Option (Unit × ((ByteArray × Unit) × Unit)) :=
  (g_mail_name ((), (((⟨#[77, 111, 110, 84, 117, 101, 87, 101, 100, 84, 104, 117, 70, 114, 105, 83, 97, 116, 83, 117, 110]⟩ : ByteArray), ()), d.2))).bind fun x1 =>
  some ((), x1.2)
def g_mail_Weekday (d : Unit × ((Int × Unit) × Unit)) : Option (Unit × ((ByteArray × Unit) × Unit)) := f_mail_Weekday_m () d
theorem ok_mail_Weekday : FnOk Tryz.prog ET0 82 pi_mail_Weekday po_mail_Weekday g_mail_Weekday :=
  fn0 (E := (E0.add 157 (typedSem pi_mail_name po_mail_name g_mail_name))) (envOk_add e0_ok (typed_ok ok_mail_name)) (fn := Tryz.f82) Tryz.func82 (by kernel_rfl) (by kernel_rfl) [.tmp 2] (by kernel_rfl) rfl rfl rfl [] fun d => by kernel_rfl

@[reducible] def pi_mail_Month : PSh := ⟨[], [.mk false [vI]]⟩
@[reducible] def po_mail_Month : PSh := ⟨[], [.mk false [vS]]⟩
def f_mail_Month_m (T : Unit) (d : Unit × ((Int × Unit) × Unit)) : Option (Unit × ((ByteArray × Unit) × Unit)) :=
  (g_mail_name ((), (((⟨#[74, 97, 110, 70, 101, 98, 77, 97, 114, 65, 112, 114, 77, 97, 121, 74, 117, 110, 74, 117, 108, 65, 117, 103, 83, 101, 112, 79, 99, 116, 78, 111, 118, 68, 101, 99]⟩ : ByteArray), ()), d.2))).bind fun x1 =>
  some ((), x1.2)
def g_mail_Month (d : Unit × ((Int × Unit) × Unit)) : Option (Unit × ((ByteArray × Unit) × Unit)) := f_mail_Month_m () d
theorem ok_mail_Month : FnOk Tryz.prog ET0 83 pi_mail_Month po_mail_Month g_mail_Month :=
  fn0 (E := (E0.add 157 (typedSem pi_mail_name po_mail_name g_mail_name))) (envOk_add e0_ok (typed_ok ok_mail_name)) (fn := Tryz.f83) Tryz.func83 (by kernel_rfl) (by kernel_rfl) [.tmp 2] (by kernel_rfl) rfl rfl rfl [] fun d => by kernel_rfl

@[reducible] def pi_mail_writer_put_io : PSh := ⟨[.var 142 [.osl 1, vE], .row 5 (.int .u8)], [.mk false [.ref 0 0], .mk false [vS], .mk false [vI], .mk false [vI]]⟩
@[reducible] def po_mail_writer_put_io : PSh := ⟨[.var 142 [.osl 1, vE], .row 5 (.int .u8)], [.mk false [.ref 0 0]]⟩
def f_mail_writer_put_io_m (T : Unit) (d : (((Option Int) × Unit) × ((List Int) × Unit)) × (Unit × ((ByteArray × Unit) × ((Int × Unit) × ((Int × Unit) × Unit))))) : Option ((((Option Int) × Unit) × ((List Int) × Unit)) × (Unit × Unit)) :=
  (g_figures_Put ((), d.2.2.2)).bind fun x1 =>
  let x2 : Bool := (!x1.2.2.1.1.isNone)
  bif x2 then (
  bif decide (((d.1.2.1.length + (bytesOf d.2.2.1.1).length) * 1 : Nat) ≤ 140737488355328) && decide (d.1.2.1.length + (bytesOf d.2.2.1.1).length ≤ 9223372036854775807) then (
  let x3 : (List Int) := (d.1.2.1 ++ (bytesOf d.2.2.1.1))
  bif decide (((x3.length + (bytesOf x1.2.1.1).length) * 1 : Nat) ≤ 140737488355328) && decide (x3.length + (bytesOf x1.2.1.1).length ≤ 9223372036854775807) then (
  let x4 : (List Int) := (x3 ++ (bytesOf x1.2.1.1))
  some ((x1.2.2.1, (x4, ())), ((), ())))
  else none)
  else none)
  else (
  bif decide (((d.1.2.1.length + (bytesOf d.2.2.1.1).length) * 1 : Nat) ≤ 140737488355328) && decide (d.1.2.1.length + (bytesOf d.2.2.1.1).length ≤ 9223372036854775807) then (
  let x5 : (List Int) := (d.1.2.1 ++ (bytesOf d.2.2.1.1))
  bif decide (((x5.length + (bytesOf x1.2.1.1).length) * 1 : Nat) ≤ 140737488355328) && decide (x5.length + (bytesOf x1.2.1.1).length ≤ 9223372036854775807) then (
  let x6 : (List Int) := (x5 ++ (bytesOf x1.2.1.1))
  some ((d.1.1, (x6, ())), ((), ())))
  else none)
  else none)
def c_mail_writer_put_io : List Nat := []
def L_mail_writer_put_io (_ : Nat) : Pts po_mail_writer_put_io.den := []
def R_mail_writer_put_io (_ : Nat) : PtsR po_mail_writer_put_io.den := []
def E_mail_writer_put_io : Env := ((E0.add 86 (typedSem pi_figures_Put po_figures_Put g_figures_Put)).kp [0])
theorem q_mail_writer_put_io_m (k : Nat) (d : pi_mail_writer_put_io.den) : evCode E_mail_writer_put_io (tb (L_mail_writer_put_io k) (R_mail_writer_put_io k)) c_mail_writer_put_io (bodyOf Tryz.f81) 0 (finKio E_mail_writer_put_io po_mail_writer_put_io [] [(0, none)]) (startSt pi_mail_writer_put_io 33 d) = f_mail_writer_put_io_m () d := by kernel_rfl
def g_mail_writer_put_io (d : (((Option Int) × Unit) × ((List Int) × Unit)) × (Unit × ((ByteArray × Unit) × ((Int × Unit) × ((Int × Unit) × Unit))))) : Option ((((Option Int) × Unit) × ((List Int) × Unit)) × (Unit × Unit)) := f_mail_writer_put_io_m () d
theorem ok_mail_writer_put_io : FnIo Tryz.prog ET0 81 pi_mail_writer_put_io po_mail_writer_put_io 0 [(0, 0, none)] g_mail_writer_put_io :=
  fn_of_bodyIo (E := E_mail_writer_put_io) (envOk_kp (envOk_add e0_ok (typed_ok ok_figures_Put))) (fn := Tryz.f81) Tryz.func81 (by kernel_rfl) (by kernel_rfl) [] [(0, none)] [(0, 0, none)] (by kernel_rfl) (by kernel_rfl) (by kernel_rfl) (by kernel_rfl) (by decide) (by decide) c_mail_writer_put_io L_mail_writer_put_io R_mail_writer_put_io
    (by intro x hx; cases hx) (by intro k x hx; cases hx) (by intro x hx; cases hx) (by intro k x hx; cases hx) (fun d out h => ⟨0, (q_mail_writer_put_io_m 0 d).trans h⟩)

@[reducible] def pi_mail_Put : PSh := ⟨[], [.mk true [vI, vI, vI, vI, vI, vI, vI, vI]]⟩
@[reducible] def po_mail_Put : PSh := ⟨[], [.mk false [vS], .mk false [vE]]⟩
def f_mail_Put_m (T : Unit) (d : Unit × ((Int × (Int × (Int × (Int × (Int × (Int × (Int × (Int × Unit)))))))) × Unit)) : Option (Unit × ((ByteArray × Unit) × (((Option Int) × Unit) × Unit))) :=
  (g_label_Check ((), d.2)).bind fun x1 =>
  let x2 : Bool := (!x1.2.1.1.isNone)
  bif x2 then (
  some ((), (((⟨#[]⟩ : ByteArray), ()), x1.2)))
  else (
  let x3 : Bool := (decide (d.2.1.1 < (1900 : Int)))
  bif x3 then (
  let x4 : (Option Int) := (some (13 : Int))
  some ((), (((⟨#[]⟩ : ByteArray), ()), ((x4, ()), ()))))
  else (
  let x5 : Bool := (d.2.1.2.2.2.2.2.2.1 != (0 : Int))
  bif x5 then (
  let x6 : (Option Int) := (some (1 : Int))
  some ((), (((⟨#[]⟩ : ByteArray), ()), ((x6, ()), ()))))
  else (
  (g_mail_weekday ((), d.2)).bind fun x7 =>
  let x8 : Bool := (!x7.2.2.1.1.isNone)
  bif x8 then (
  some ((), (((⟨#[]⟩ : ByteArray), ()), x7.2.2)))
  else (
  (g_mail_Weekday ((), (x7.2.1, ()))).bind fun x9 =>
  bif fitsS x9.2.1.1 (⟨#[44, 32]⟩ : ByteArray) then (
  let x10 : ByteArray := (x9.2.1.1 ++ (⟨#[44, 32]⟩ : ByteArray))
  (g_mail_writer_put_io ((((none : Option Int), ()), (([] : List Int), ())), ((), ((x10, ()), ((d.2.1.2.2.1, ()), (((2 : Int), ()), ())))))).bind fun x11 =>
  (g_mail_Month ((), ((d.2.1.2.1, ()), ()))).bind fun x12 =>
  bif fitsS (⟨#[32]⟩ : ByteArray) x12.2.1.1 then (
  let x13 : ByteArray := ((⟨#[32]⟩ : ByteArray) ++ x12.2.1.1)
  bif fitsS x13 (⟨#[32]⟩ : ByteArray) then (
  let x14 : ByteArray := (x13 ++ (⟨#[32]⟩ : ByteArray))
  (g_mail_writer_put_io (x11.1, ((), ((x14, ()), ((d.2.1.1, ()), (((4 : Int), ()), ())))))).bind fun x15 =>
  (g_mail_writer_put_io (x15.1, ((), (((⟨#[32]⟩ : ByteArray), ()), ((d.2.1.2.2.2.1, ()), (((2 : Int), ()), ())))))).bind fun x16 =>
  (g_mail_writer_put_io (x16.1, ((), (((⟨#[58]⟩ : ByteArray), ()), ((d.2.1.2.2.2.2.1, ()), (((2 : Int), ()), ())))))).bind fun x17 =>
  (g_mail_writer_put_io (x17.1, ((), (((⟨#[58]⟩ : ByteArray), ()), ((d.2.1.2.2.2.2.2.1, ()), (((2 : Int), ()), ())))))).bind fun x18 =>
  let x19 : Bool := (decide (d.2.1.2.2.2.2.2.2.2.1 < (0 : Int)))
  bif x19 then (
  let x20 : Int := (ineg .i64 d.2.1.2.2.2.2.2.2.2.1)
  let x21 : Int := (iquo .i64 x20 (60 : Int))
  (g_mail_writer_put_io (x18.1, ((), (((⟨#[32, 45]⟩ : ByteArray), ()), ((x21, ()), (((2 : Int), ()), ())))))).bind fun x22 =>
  let x23 : Int := (Int.tmod x20 (60 : Int))
  (g_mail_writer_put_io (x22.1, ((), (((⟨#[]⟩ : ByteArray), ()), ((x23, ()), (((2 : Int), ()), ())))))).bind fun x24 =>
  let x25 : ByteArray := (strOf x24.1.2.1)
  some ((), ((x25, ()), (x24.1.1, ()))))
  else (
  let x26 : Int := (iquo .i64 d.2.1.2.2.2.2.2.2.2.1 (60 : Int))
  (g_mail_writer_put_io (x18.1, ((), (((⟨#[32, 43]⟩ : ByteArray), ()), ((x26, ()), (((2 : Int), ()), ())))))).bind fun x27 =>
  let x28 : Int := (Int.tmod d.2.1.2.2.2.2.2.2.2.1 (60 : Int))
  (g_mail_writer_put_io (x27.1, ((), (((⟨#[]⟩ : ByteArray), ()), ((x28, ()), (((2 : Int), ()), ())))))).bind fun x29 =>
  let x30 : ByteArray := (strOf x29.1.2.1)
  some ((), ((x30, ()), (x29.1.1, ())))))
  else none)
  else none)
  else none))))
def g_mail_Put (d : Unit × ((Int × (Int × (Int × (Int × (Int × (Int × (Int × (Int × Unit)))))))) × Unit)) : Option (Unit × ((ByteArray × Unit) × (((Option Int) × Unit) × Unit))) := f_mail_Put_m () d
theorem ok_mail_Put : FnOk Tryz.prog ET0 22 pi_mail_Put po_mail_Put g_mail_Put :=
  fn0 (E := (((((E0.add 51 (typedSem pi_label_Check po_label_Check g_label_Check)).add 52 (typedSem pi_mail_weekday po_mail_weekday g_mail_weekday)).add 81 (ioSem pi_mail_writer_put_io po_mail_writer_put_io 0 [(0, 0, none)] g_mail_writer_put_io)).add 82 (typedSem pi_mail_Weekday po_mail_Weekday g_mail_Weekday)).add 83 (typedSem pi_mail_Month po_mail_Month g_mail_Month))) (envOk_add (envOk_add (envOk_add (envOk_add (envOk_add e0_ok (typed_ok ok_label_Check)) (typed_ok ok_mail_weekday)) (io_ok ok_mail_writer_put_io)) (typed_ok ok_mail_Weekday)) (typed_ok ok_mail_Month)) (fn := Tryz.f22) Tryz.func22 (by kernel_rfl) (by kernel_rfl) [.tmp 2, .tmp 3] (by kernel_rfl) rfl rfl rfl [] fun d => by kernel_rfl

@[reducible] def pi_law25_alive : PSh := ⟨[], []⟩
@[reducible] def po_law25_alive : PSh := ⟨[], [.mk false [vB]]⟩
def f_law25_alive_m (T : Unit) (d : Unit × Unit) : Option (Unit × ((Bool × Unit) × Unit)) :=
  (g_mail_Parse ((), (((⟨#[84, 104, 117, 44, 32, 49, 51, 32, 70, 101, 98, 32, 49, 57, 54, 57, 32, 50, 51, 58, 51, 50, 32, 45, 48, 51, 51, 48, 32, 40, 78, 101, 119, 102, 111, 117, 110, 100, 108, 97, 110, 100, 32, 84, 105, 109, 101, 41]⟩ : ByteArray), ()), ()))).bind fun x1 =>
  (g_mail_Put ((), (x1.2.1, ()))).bind fun x2 =>
  bif x1.2.2.1.1.isNone then (
  bif x2.2.2.1.1.isNone then (
  let x3 : Bool := (x1.2.1.2.2.2.2.2.2.2.1 == (-210 : Int))
  bif x3 then (
  let x4 : Bool := (x1.2.1.2.2.1 == (13 : Int))
  bif x4 then (
  let x5 : Bool := (x2.2.1.1.toList == (⟨#[84, 104, 117, 44, 32, 49, 51, 32, 70, 101, 98, 32, 49, 57, 54, 57, 32, 50, 51, 58, 51, 50, 58, 48, 48, 32, 45, 48, 51, 51, 48]⟩ : ByteArray).toList)
  some ((), ((x5, ()), ())))
  else (
  some ((), ((false, ()), ()))))
  else (
  some ((), ((false, ()), ()))))
  else (
  some ((), ((false, ()), ()))))
  else (
  some ((), ((false, ()), ())))
def g_law25_alive (d : Unit × Unit) : Option (Unit × ((Bool × Unit) × Unit)) := f_law25_alive_m () d
theorem ok_law25_alive : FnOk Tryz.prog ET0 6 pi_law25_alive po_law25_alive g_law25_alive :=
  fn0 (E := ((E0.add 8 (typedSem pi_mail_Parse po_mail_Parse g_mail_Parse)).add 22 (typedSem pi_mail_Put po_mail_Put g_mail_Put))) (envOk_add (envOk_add e0_ok (typed_ok ok_mail_Parse)) (typed_ok ok_mail_Put)) (fn := Tryz.f6) Tryz.func6 (by kernel_rfl) (by kernel_rfl) [.tmp 0] (by kernel_rfl) rfl rfl rfl [] fun d => by kernel_rfl

@[reducible] def pi_law10_Long : PSh := ⟨[], [.mk true [.v (.sl (.pair (.int .i64) (.int .i64))), vI, vI]]⟩
@[reducible] def po_law10_Long : PSh := ⟨[], [.mk false [vB]]⟩
def f_law10_Long_m (T : Unit) (d : Unit × (((List (Int × Int)) × (Int × (Int × Unit))) × Unit)) : Option (Unit × ((Bool × Unit) × Unit)) :=
  let x1 : Int := (d.2.1.1.length : Int)
  let x2 : Bool := (decide (x1 > (296 : Int)))
  some ((), ((x2, ()), ()))
def g_law10_Long (d : Unit × (((List (Int × Int)) × (Int × (Int × Unit))) × Unit)) : Option (Unit × ((Bool × Unit) × Unit)) := f_law10_Long_m () d
theorem ok_law10_Long : FnOk Tryz.prog ET0 7 pi_law10_Long po_law10_Long g_law10_Long :=
  fn0 (E := E0) e0_ok (fn := Tryz.f7) Tryz.func7 (by kernel_rfl) (by kernel_rfl) [.tmp 2] (by kernel_rfl) rfl rfl rfl [] fun d => by kernel_rfl

@[reducible] def pi_ref25_Remark : PSh := ⟨[], [.mk false [vS], .mk false [vI]]⟩
@[reducible] def po_ref25_Remark : PSh := ⟨[], [.mk false [vI]]⟩
@[reducible] def TT_ref25_Remark : Type := (((Unit × ((ByteArray × Unit) × ((Int × Unit) × Unit))) → Option (Unit × ((Int × Unit) × Unit))) × Unit)
@[reducible] def sh_ref25_Remark_3 : PSh := ⟨[], [.mk false [vS], .mk false [vI], .any, .any, .any, .any, .any, .any, .any, .any, .any, .any, .any, .any, .any, .any, .any, .any, .any, .any, .any, .any, .any, .any, .any, .any, .any, .any, .any, .any, .any, .any, .any, .any]⟩
def f_ref25_Remark_p3 (G : Unit × ((ByteArray × Unit) × ((Int × Unit) × Unit)) → Option (Unit × ((Int × Unit) × Unit))) (T : TT_ref25_Remark) (d : Unit × ((ByteArray × Unit) × ((Int × Unit) × Unit))) : Option (Unit × ((Int × Unit) × Unit)) :=
  let x2 : Int := (d.2.1.1.size : Int)
  let x3 : Bool := (decide (d.2.2.1.1 < x2))
  bif x3 then (
  bif decide ((0 : Int) ≤ d.2.2.1.1) && decide (d.2.2.1.1 < ((d.2.1.1.size : Int) : Int)) then (
  let x4 : Int := (bt d.2.1.1 d.2.2.1.1)
  let x5 : Bool := (x4 == (41 : Int))
  bif x5 then (
  let x6 : Int := (iadd .i64 d.2.2.1.1 (1 : Int))
  some ((), ((x6, ()), ())))
  else (
  bif decide ((0 : Int) ≤ d.2.2.1.1) && decide (d.2.2.1.1 < ((d.2.1.1.size : Int) : Int)) then (
  let x7 : Int := (bt d.2.1.1 d.2.2.1.1)
  let x8 : Bool := (x7 == (40 : Int))
  bif x8 then (
  (G ((), d.2)).bind fun x9 =>
  let x10 : Bool := (decide (x9.2.1.1 < (0 : Int)))
  bif x10 then (
  some ((), (((-1 : Int), ()), ())))
  else (
  (T.1 ((), (d.2.1, x9.2)))))
  else (
  bif decide ((0 : Int) ≤ d.2.2.1.1) && decide (d.2.2.1.1 < ((d.2.1.1.size : Int) : Int)) then (
  let x11 : Int := (bt d.2.1.1 d.2.2.1.1)
  let x12 : Bool := (x11 == (92 : Int))
  bif x12 then (
  let x13 : Int := (iadd .i64 d.2.2.1.1 (1 : Int))
  let x14 : Int := (iadd .i64 x13 (1 : Int))
  (T.1 ((), (d.2.1, ((x14, ()), ())))))
  else (
  let x15 : Int := (iadd .i64 d.2.2.1.1 (1 : Int))
  (T.1 ((), (d.2.1, ((x15, ()), ()))))))
  else none))
  else none))
  else none)
  else (
  some ((), (((-1 : Int), ()), ())))
def f_ref25_Remark_t (G : Unit × ((ByteArray × Unit) × ((Int × Unit) × Unit)) → Option (Unit × ((Int × Unit) × Unit))) : Nat → TT_ref25_Remark
  | 0 => (fun _ => none, ())
  | k + 1 => (f_ref25_Remark_p3 G (f_ref25_Remark_t G k), ())
theorem t_ref25_Remark (G : Unit × ((ByteArray × Unit) × ((Int × Unit) × Unit)) → Option (Unit × ((Int × Unit) × Unit))) (k : Nat) : f_ref25_Remark_t G (k + 1) = (f_ref25_Remark_p3 G (f_ref25_Remark_t G k), ()) := rfl
def f_ref25_Remark_m (G : Unit × ((ByteArray × Unit) × ((Int × Unit) × Unit)) → Option (Unit × ((Int × Unit) × Unit))) (T : TT_ref25_Remark) (d : Unit × ((ByteArray × Unit) × ((Int × Unit) × Unit))) : Option (Unit × ((Int × Unit) × Unit)) :=
  let x1 : Int := (iadd .i64 d.2.2.1.1 (1 : Int))
  (T.1 ((), (d.2.1, ((x1, ()), ()))))
def c_ref25_Remark : List Nat := []
def L_ref25_Remark (G : Unit × ((ByteArray × Unit) × ((Int × Unit) × Unit)) → Option (Unit × ((Int × Unit) × Unit))) (k : Nat) : Pts po_ref25_Remark.den := [(3, ⟨sh_ref25_Remark_3, (f_ref25_Remark_t G k).1⟩)]
def R_ref25_Remark (G : Unit × ((ByteArray × Unit) × ((Int × Unit) × Unit)) → Option (Unit × ((Int × Unit) × Unit))) (_ : Nat) : PtsR po_ref25_Remark.den := []
def E_ref25_Remark (G : Unit × ((ByteArray × Unit) × ((Int × Unit) × Unit)) → Option (Unit × ((Int × Unit) × Unit))) : Env := (E0.add 193 (typedSem pi_ref25_Remark po_ref25_Remark G))
theorem q_ref25_Remark_3 (G : Unit × ((ByteArray × Unit) × ((Int × Unit) × Unit)) → Option (Unit × ((Int × Unit) × Unit))) (k : Nat) (d : sh_ref25_Remark_3.den) : evAt (E_ref25_Remark G) (tb (L_ref25_Remark G k) (R_ref25_Remark G k)) c_ref25_Remark 3 (bodyOf Tryz.f193) 0 (finK (E_ref25_Remark G) po_ref25_Remark [.tmp 4]) (ptSt sh_ref25_Remark_3 d) = f_ref25_Remark_p3 G (f_ref25_Remark_t G k) d := by kernel_rfl
theorem q_ref25_Remark_m (G : Unit × ((ByteArray × Unit) × ((Int × Unit) × Unit)) → Option (Unit × ((Int × Unit) × Unit))) (k : Nat) (d : pi_ref25_Remark.den) : evCode (E_ref25_Remark G) (tb (L_ref25_Remark G k) (R_ref25_Remark G k)) c_ref25_Remark (bodyOf Tryz.f193) 0 (finK (E_ref25_Remark G) po_ref25_Remark [.tmp 4]) (startSt pi_ref25_Remark 34 d) = f_ref25_Remark_m G (f_ref25_Remark_t G k) d := by kernel_rfl
theorem go_ref25_Remark (G : Unit × ((ByteArray × Unit) × ((Int × Unit) × Unit)) → Option (Unit × ((Int × Unit) × Unit))) (hG0 : FnOk Tryz.prog ET0 193 pi_ref25_Remark po_ref25_Remark G) (F : Unit × ((ByteArray × Unit) × ((Int × Unit) × Unit)) → Option (Unit × ((Int × Unit) × Unit))) (hF : ∀ d out, F d = some out → ∃ k, f_ref25_Remark_m G (f_ref25_Remark_t G k) d = some out) : FnOk Tryz.prog ET0 193 pi_ref25_Remark po_ref25_Remark F :=
  fn_of_body (E := (E_ref25_Remark G)) (envOk_add e0_ok (typed_ok hG0)) (fn := Tryz.f193) Tryz.func193 (by kernel_rfl) (by kernel_rfl) [.tmp 4] (by kernel_rfl) (by kernel_rfl) (by decide) rfl c_ref25_Remark (L_ref25_Remark G) (R_ref25_Remark G)
    (by intro x hx d; simp only [L_ref25_Remark, List.mem_cons, List.not_mem_nil, or_false] at hx; subst hx; rfl)
    (by intro k x hx d out h; simp only [L_ref25_Remark, List.mem_cons, List.not_mem_nil, or_false] at hx; subst hx; exact (q_ref25_Remark_3 G k d).trans h)
    (by intro x hx; cases hx)
    (by intro k x hx; cases hx)
    (by intro d out h; obtain ⟨k, hk⟩ := hF d out h; exact ⟨k, (q_ref25_Remark_m G k d).trans hk⟩)
def r_ref25_Remark : Nat → Unit × ((ByteArray × Unit) × ((Int × Unit) × Unit)) → Option (Unit × ((Int × Unit) × Unit))
  | 0 => fun _ => none
  | n + 1 => fun d => lim fun k => f_ref25_Remark_m (r_ref25_Remark n) (f_ref25_Remark_t (r_ref25_Remark n) k) d
theorem okr_ref25_Remark : ∀ n, FnOk Tryz.prog ET0 193 pi_ref25_Remark po_ref25_Remark (r_ref25_Remark n)
  | 0 => ⟨⟨Tryz.f193, Tryz.func193, by kernel_rfl, by kernel_rfl⟩, fun d out h => by cases h⟩
  | n + 1 => go_ref25_Remark (r_ref25_Remark n) (okr_ref25_Remark n) (r_ref25_Remark (n + 1)) fun d out h => lim_some h
def g_ref25_Remark (d : Unit × ((ByteArray × Unit) × ((Int × Unit) × Unit))) : Option (Unit × ((Int × Unit) × Unit)) := lim fun n => r_ref25_Remark n d
theorem ok_ref25_Remark : FnOk Tryz.prog ET0 193 pi_ref25_Remark po_ref25_Remark g_ref25_Remark := ⟨(okr_ref25_Remark 0).fn, fun d out h => by obtain ⟨n, hn⟩ := lim_some h; exact (okr_ref25_Remark n).run d out hn⟩

@[reducible] def pi_ref25_Gap : PSh := ⟨[], [.mk false [vS], .mk false [vI]]⟩
@[reducible] def po_ref25_Gap : PSh := ⟨[], [.mk false [vI]]⟩
@[reducible] def TT_ref25_Gap : Type := (((Unit × ((ByteArray × Unit) × ((Int × Unit) × Unit))) → Option (Unit × ((Int × Unit) × Unit))) × Unit)
@[reducible] def sh_ref25_Gap_5 : PSh := ⟨[], [.mk false [vS], .mk false [vI], .any, .any, .any, .any, .any, .any, .any, .any, .any, .any, .any, .any, .any, .any, .any, .any, .any, .any, .any, .any, .any, .any, .any, .any, .any, .any, .any, .any, .any, .any, .any, .any, .any, .any, .any, .any, .any, .any, .any, .any, .any, .any, .any, .any, .any, .any, .any, .any, .any, .any, .any]⟩
def f_ref25_Gap_p5 (T : TT_ref25_Gap) (d : Unit × ((ByteArray × Unit) × ((Int × Unit) × Unit))) : Option (Unit × ((Int × Unit) × Unit)) :=
  let x4 : Int := (d.2.1.1.size : Int)
  let x5 : Bool := (decide (d.2.2.1.1 < x4))
  bif x5 then (
  bif decide ((0 : Int) ≤ d.2.2.1.1) && decide (d.2.2.1.1 < ((d.2.1.1.size : Int) : Int)) then (
  let x6 : Int := (bt d.2.1.1 d.2.2.1.1)
  let x7 : Bool := (x6 == (40 : Int))
  bif x7 then (
  (g_ref25_Remark ((), d.2)).bind fun x8 =>
  let x9 : Bool := (decide (x8.2.1.1 < (0 : Int)))
  bif x9 then (
  some ((), (((-1 : Int), ()), ())))
  else (
  (T.1 ((), (d.2.1, x8.2)))))
  else (
  bif decide ((0 : Int) ≤ d.2.2.1.1) && decide (d.2.2.1.1 < ((d.2.1.1.size : Int) : Int)) then (
  let x10 : Int := (bt d.2.1.1 d.2.2.1.1)
  let x11 : Bool := (x10 == (32 : Int))
  bif x11 then (
  let x12 : Int := (iadd .i64 d.2.2.1.1 (1 : Int))
  (T.1 ((), (d.2.1, ((x12, ()), ())))))
  else (
  bif decide ((0 : Int) ≤ d.2.2.1.1) && decide (d.2.2.1.1 < ((d.2.1.1.size : Int) : Int)) then (
  let x13 : Int := (bt d.2.1.1 d.2.2.1.1)
  let x14 : Bool := (x13 == (9 : Int))
  bif x14 then (
  let x15 : Int := (iadd .i64 d.2.2.1.1 (1 : Int))
  (T.1 ((), (d.2.1, ((x15, ()), ())))))
  else (
  bif decide ((0 : Int) ≤ d.2.2.1.1) && decide (d.2.2.1.1 < ((d.2.1.1.size : Int) : Int)) then (
  let x16 : Int := (bt d.2.1.1 d.2.2.1.1)
  let x17 : Bool := (x16 == (13 : Int))
  bif x17 then (
  let x18 : Int := (iadd .i64 d.2.2.1.1 (1 : Int))
  (T.1 ((), (d.2.1, ((x18, ()), ())))))
  else (
  bif decide ((0 : Int) ≤ d.2.2.1.1) && decide (d.2.2.1.1 < ((d.2.1.1.size : Int) : Int)) then (
  let x19 : Int := (bt d.2.1.1 d.2.2.1.1)
  let x20 : Bool := (x19 == (10 : Int))
  bif x20 then (
  let x21 : Int := (iadd .i64 d.2.2.1.1 (1 : Int))
  (T.1 ((), (d.2.1, ((x21, ()), ())))))
  else (
  some ((), d.2.2)))
  else none))
  else none))
  else none))
  else none))
  else none)
  else (
  some ((), d.2.2))
def f_ref25_Gap_t : Nat → TT_ref25_Gap
  | 0 => (fun _ => none, ())
  | k + 1 => (f_ref25_Gap_p5 (f_ref25_Gap_t k), ())
theorem t_ref25_Gap (k : Nat) : f_ref25_Gap_t (k + 1) = (f_ref25_Gap_p5 (f_ref25_Gap_t k), ()) := rfl
def f_ref25_Gap_m (T : TT_ref25_Gap) (d : Unit × ((ByteArray × Unit) × ((Int × Unit) × Unit))) : Option (Unit × ((Int × Unit) × Unit)) :=
  let x1 : Bool := (decide (d.2.2.1.1 < (0 : Int)))
  bif x1 then (
  some ((), d.2.2))
  else (
  let x2 : Int := (d.2.1.1.size : Int)
  let x3 : Bool := (decide (d.2.2.1.1 > x2))
  bif x3 then (
  some ((), d.2.2))
  else (
  (T.1 ((), d.2))))
def c_ref25_Gap : List Nat := []
def L_ref25_Gap (k : Nat) : Pts po_ref25_Gap.den := [(5, ⟨sh_ref25_Gap_5, (f_ref25_Gap_t k).1⟩)]
def R_ref25_Gap (_ : Nat) : PtsR po_ref25_Gap.den := []
def E_ref25_Gap : Env := (E0.add 193 (typedSem pi_ref25_Remark po_ref25_Remark g_ref25_Remark))
theorem q_ref25_Gap_5 (k : Nat) (d : sh_ref25_Gap_5.den) : evAt E_ref25_Gap (tb (L_ref25_Gap k) (R_ref25_Gap k)) c_ref25_Gap 5 (bodyOf Tryz.f129) 0 (finK E_ref25_Gap po_ref25_Gap [.tmp 4]) (ptSt sh_ref25_Gap_5 d) = f_ref25_Gap_p5 (f_ref25_Gap_t k) d := by kernel_rfl
theorem q_ref25_Gap_m (k : Nat) (d : pi_ref25_Gap.den) : evCode E_ref25_Gap (tb (L_ref25_Gap k) (R_ref25_Gap k)) c_ref25_Gap (bodyOf Tryz.f129) 0 (finK E_ref25_Gap po_ref25_Gap [.tmp 4]) (startSt pi_ref25_Gap 53 d) = f_ref25_Gap_m (f_ref25_Gap_t k) d := by kernel_rfl
def g_ref25_Gap (d : Unit × ((ByteArray × Unit) × ((Int × Unit) × Unit))) : Option (Unit × ((Int × Unit) × Unit)) := lim fun k => f_ref25_Gap_m (f_ref25_Gap_t k) d
theorem ok_ref25_Gap : FnOk Tryz.prog ET0 129 pi_ref25_Gap po_ref25_Gap g_ref25_Gap :=
  fn_of_body (E := E_ref25_Gap) (envOk_add e0_ok (typed_ok ok_ref25_Remark)) (fn := Tryz.f129) Tryz.func129 (by kernel_rfl) (by kernel_rfl) [.tmp 4] (by kernel_rfl) (by kernel_rfl) (by decide) rfl c_ref25_Gap L_ref25_Gap R_ref25_Gap
    (by intro x hx d; simp only [L_ref25_Gap, List.mem_cons, List.not_mem_nil, or_false] at hx; subst hx; rfl)
    (by intro k x hx d out h; simp only [L_ref25_Gap, List.mem_cons, List.not_mem_nil, or_false] at hx; subst hx; exact (q_ref25_Gap_5 k d).trans h)
    (by intro x hx; cases hx)
    (by intro k x hx; cases hx)
    (by intro d out h; obtain ⟨k, hk⟩ := lim_some h; exact ⟨k, (q_ref25_Gap_m k d).trans hk⟩)

@[reducible] def pi_ref02_Is : PSh := ⟨[], [.mk false [v8]]⟩
@[reducible] def po_ref02_Is : PSh := ⟨[], [.mk false [vB]]⟩
@[reducible] def TT_ref02_Is : Type := (((Unit × ((Int × Unit) × ((Int × Unit) × Unit))) → Option (Unit × ((Bool × Unit) × Unit))) × Unit)
@[reducible] def sh_ref02_Is_3 : PSh := ⟨[], [.mk false [v8], .any, .any, .mk false [v8], .any, .any, .any, .any, .any, .any, .any]⟩
def f_ref02_Is_p3 (T : TT_ref02_Is) (d : Unit × ((Int × Unit) × ((Int × Unit) × Unit))) : Option (Unit × ((Bool × Unit) × Unit)) :=
  let x1 : Bool := (decide (d.2.2.1.1 ≤ (57 : Int)))
  bif x1 then (
  let x2 : Bool := (d.2.1.1 == d.2.2.1.1)
  bif x2 then (
  some ((), ((true, ()), ())))
  else (
  let x3 : Int := (iadd .u8 d.2.2.1.1 (1 : Int))
  (T.1 ((), (d.2.1, ((x3, ()), ()))))))
  else (
  some ((), ((false, ()), ())))
def f_ref02_Is_t : Nat → TT_ref02_Is
  | 0 => (fun _ => none, ())
  | k + 1 => (f_ref02_Is_p3 (f_ref02_Is_t k), ())
theorem t_ref02_Is (k : Nat) : f_ref02_Is_t (k + 1) = (f_ref02_Is_p3 (f_ref02_Is_t k), ()) := rfl
def f_ref02_Is_m (T : TT_ref02_Is) (d : Unit × ((Int × Unit) × Unit)) : Option (Unit × ((Bool × Unit) × Unit)) :=
  (T.1 ((), (d.2.1, (((48 : Int), ()), ()))))
def c_ref02_Is : List Nat := []
def L_ref02_Is (k : Nat) : Pts po_ref02_Is.den := [(3, ⟨sh_ref02_Is_3, (f_ref02_Is_t k).1⟩)]
def R_ref02_Is (_ : Nat) : PtsR po_ref02_Is.den := []
def E_ref02_Is : Env := E0
theorem q_ref02_Is_3 (k : Nat) (d : sh_ref02_Is_3.den) : evAt E_ref02_Is (tb (L_ref02_Is k) (R_ref02_Is k)) c_ref02_Is 3 (bodyOf Tryz.f130) 0 (finK E_ref02_Is po_ref02_Is [.tmp 2]) (ptSt sh_ref02_Is_3 d) = f_ref02_Is_p3 (f_ref02_Is_t k) d := by kernel_rfl
theorem q_ref02_Is_m (k : Nat) (d : pi_ref02_Is.den) : evCode E_ref02_Is (tb (L_ref02_Is k) (R_ref02_Is k)) c_ref02_Is (bodyOf Tryz.f130) 0 (finK E_ref02_Is po_ref02_Is [.tmp 2]) (startSt pi_ref02_Is 11 d) = f_ref02_Is_m (f_ref02_Is_t k) d := by kernel_rfl
def g_ref02_Is (d : Unit × ((Int × Unit) × Unit)) : Option (Unit × ((Bool × Unit) × Unit)) := lim fun k => f_ref02_Is_m (f_ref02_Is_t k) d
theorem ok_ref02_Is : FnOk Tryz.prog ET0 130 pi_ref02_Is po_ref02_Is g_ref02_Is :=
  fn_of_body (E := E_ref02_Is) e0_ok (fn := Tryz.f130) Tryz.func130 (by kernel_rfl) (by kernel_rfl) [.tmp 2] (by kernel_rfl) (by kernel_rfl) (by decide) rfl c_ref02_Is L_ref02_Is R_ref02_Is
    (by intro x hx d; simp only [L_ref02_Is, List.mem_cons, List.not_mem_nil, or_false] at hx; subst hx; rfl)
    (by intro k x hx d out h; simp only [L_ref02_Is, List.mem_cons, List.not_mem_nil, or_false] at hx; subst hx; exact (q_ref02_Is_3 k d).trans h)
    (by intro x hx; cases hx)
    (by intro k x hx; cases hx)
    (by intro d out h; obtain ⟨k, hk⟩ := lim_some h; exact ⟨k, (q_ref02_Is_m k d).trans hk⟩)

@[reducible] def pi_ref25_letter : PSh := ⟨[], [.mk false [v8]]⟩
@[reducible] def po_ref25_letter : PSh := ⟨[], [.mk false [vB]]⟩
def f_ref25_letter_m (T : Unit) (d : Unit × ((Int × Unit) × Unit)) : Option (Unit × ((Bool × Unit) × Unit)) :=
  let x1 : Bool := (decide (d.2.1.1 ≥ (65 : Int)))
  bif x1 then (
  let x2 : Bool := (decide (d.2.1.1 ≤ (90 : Int)))
  bif x2 then (
  some ((), ((true, ()), ())))
  else (
  let x3 : Bool := (decide (d.2.1.1 ≥ (97 : Int)))
  bif x3 then (
  let x4 : Bool := (decide (d.2.1.1 ≤ (122 : Int)))
  some ((), ((x4, ()), ())))
  else (
  some ((), ((false, ()), ())))))
  else (
  let x5 : Bool := (decide (d.2.1.1 ≥ (97 : Int)))
  bif x5 then (
  let x6 : Bool := (decide (d.2.1.1 ≤ (122 : Int)))
  some ((), ((x6, ()), ())))
  else (
  some ((), ((false, ()), ()))))
def g_ref25_letter (d : Unit × ((Int × Unit) × Unit)) : Option (Unit × ((Bool × Unit) × Unit)) := f_ref25_letter_m () d
theorem ok_ref25_letter : FnOk Tryz.prog ET0 131 pi_ref25_letter po_ref25_letter g_ref25_letter :=
  fn0 (E := E0) e0_ok (fn := Tryz.f131) Tryz.func131 (by kernel_rfl) (by kernel_rfl) [.tmp 2] (by kernel_rfl) rfl rfl rfl [] fun d => by kernel_rfl

@[reducible] def pi_ref25_parts : PSh := ⟨[], [.mk false [vS]]⟩
@[reducible] def po_ref25_parts : PSh := ⟨[.row 9 .str, .row 4 .bool], [.mk false [.osl 0], .mk false [.osl 1], .mk false [vB]]⟩
@[reducible] def TT_ref25_parts : Type := (((((List ByteArray) × ((List Bool) × Unit)) × ((ByteArray × Unit) × (Unit × (Unit × ((Int × Unit) × Unit))))) → Option (((List ByteArray) × ((List Bool) × Unit)) × (Unit × (Unit × ((Bool × Unit) × Unit))))) × (((((List ByteArray) × ((List Bool) × Unit)) × ((ByteArray × Unit) × (Unit × (Unit × ((Int × Unit) × ((Int × Unit) × Unit)))))) → Option (((List ByteArray) × ((List Bool) × Unit)) × (Unit × (Unit × ((Bool × Unit) × Unit))))) × Unit))
@[reducible] def sh_ref25_parts_4 : PSh := ⟨[.row 9 .str, .row 4 .bool], [.mk false [vS], .any, .any, .any, .any, .mk false [.osl 0], .mk false [.osl 1], .mk false [vI], .any, .any, .any, .any, .any, .any, .any, .any, .any, .any, .any, .any, .any, .any, .any, .any, .any, .any, .any, .any, .any, .any, .any, .any, .any, .any, .any, .any, .any, .any, .any, .any, .any, .any, .any, .any, .any, .any, .any, .any, .any, .any, .any, .any, .any, .any, .any, .any, .any, .any, .any, .any, .any, .any, .any, .any, .any, .any, .any, .any, .any, .any]⟩
@[reducible] def sh_ref25_parts_16 : PSh := ⟨[.row 9 .str, .row 4 .bool], [.mk false [vS], .any, .any, .any, .any, .mk false [.osl 0], .mk false [.osl 1], .mk false [vI], .any, .mk false [vI], .any, .any, .any, .any, .any, .any, .any, .any, .any, .any, .any, .any, .any, .any, .any, .any, .any, .any, .any, .any, .any, .any, .any, .any, .any, .any, .any, .any, .any, .any, .any, .any, .any, .any, .any, .any, .any, .any, .any, .any, .any, .any, .any, .any, .any, .any, .any, .any, .any, .any, .any, .any, .any, .any, .any, .any, .any, .any, .any, .any]⟩
def f_ref25_parts_p4 (T : TT_ref25_parts) (d : ((List ByteArray) × ((List Bool) × Unit)) × ((ByteArray × Unit) × (Unit × (Unit × ((Int × Unit) × Unit))))) : Option (((List ByteArray) × ((List Bool) × Unit)) × (Unit × (Unit × ((Bool × Unit) × Unit)))) :=
  (g_ref25_Gap ((), (d.2.1, d.2.2.2.2))).bind fun x3 =>
  let x4 : Bool := (decide (x3.2.1.1 < (0 : Int)))
  bif x4 then (
  some ((([] : List ByteArray), (([] : List Bool), ())), ((), ((), ((false, ()), ())))))
  else (
  let x5 : Int := (d.2.1.1.size : Int)
  let x6 : Bool := (x3.2.1.1 == x5)
  bif x6 then (
  some (d.1, ((), ((), ((true, ()), ())))))
  else (
  let x7 : Bool := (decide (x3.2.1.1 > d.2.2.2.2.1.1))
  let x8 : (List Bool) := ([x7] : List Bool)
  bif decide (((d.1.2.1.length + x8.length) * 1 : Nat) ≤ 140737488355328) && decide (d.1.2.1.length + x8.length ≤ 9223372036854775807) then (
  let x9 : (List Bool) := (d.1.2.1 ++ x8)
  let x10 : Int := (iadd .i64 x3.2.1.1 (1 : Int))
  (T.2.1 ((d.1.1, (x9, ())), (d.2.1, ((), ((), (x3.2.1, ((x10, ()), ()))))))))
  else none))
def f_ref25_parts_p16 (T : TT_ref25_parts) (d : ((List ByteArray) × ((List Bool) × Unit)) × ((ByteArray × Unit) × (Unit × (Unit × ((Int × Unit) × ((Int × Unit) × Unit)))))) : Option (((List ByteArray) × ((List Bool) × Unit)) × (Unit × (Unit × ((Bool × Unit) × Unit)))) :=
  let x11 : Int := (d.2.1.1.size : Int)
  let x12 : Bool := (decide (d.2.2.2.2.2.1.1 < x11))
  bif x12 then (
  bif decide ((0 : Int) ≤ d.2.2.2.2.1.1) && decide (d.2.2.2.2.1.1 < ((d.2.1.1.size : Int) : Int)) then (
  let x13 : Int := (bt d.2.1.1 d.2.2.2.2.1.1)
  (g_ref02_Is ((), ((x13, ()), ()))).bind fun x14 =>
  bif x14.2.1.1 then (
  bif decide ((0 : Int) ≤ d.2.2.2.2.2.1.1) && decide (d.2.2.2.2.2.1.1 < ((d.2.1.1.size : Int) : Int)) then (
  let x15 : Int := (bt d.2.1.1 d.2.2.2.2.2.1.1)
  (g_ref02_Is ((), ((x15, ()), ()))).bind fun x16 =>
  bif x16.2.1.1 then (
  let x17 : Int := (iadd .i64 d.2.2.2.2.2.1.1 (1 : Int))
  (T.2.1 (d.1, (d.2.1, ((), ((), (d.2.2.2.2.1, ((x17, ()), ()))))))))
  else (
  bif decide ((0 : Int) ≤ d.2.2.2.2.1.1) && decide (d.2.2.2.2.1.1 < ((d.2.1.1.size : Int) : Int)) then (
  let x18 : Int := (bt d.2.1.1 d.2.2.2.2.1.1)
  (g_ref25_letter ((), ((x18, ()), ()))).bind fun x19 =>
  bif x19.2.1.1 then (
  bif decide ((0 : Int) ≤ d.2.2.2.2.2.1.1) && decide (d.2.2.2.2.2.1.1 < ((d.2.1.1.size : Int) : Int)) then (
  let x20 : Int := (bt d.2.1.1 d.2.2.2.2.2.1.1)
  (g_ref25_letter ((), ((x20, ()), ()))).bind fun x21 =>
  bif x21.2.1.1 then (
  let x22 : Int := (iadd .i64 d.2.2.2.2.2.1.1 (1 : Int))
  (T.2.1 (d.1, (d.2.1, ((), ((), (d.2.2.2.2.1, ((x22, ()), ()))))))))
  else (
  bif decide ((0 : Int) ≤ d.2.2.2.2.1.1) && decide (d.2.2.2.2.1.1 ≤ d.2.2.2.2.2.1.1) && decide (d.2.2.2.2.2.1.1 ≤ (d.2.1.1.size : Int)) then (
  let x23 : ByteArray := (d.2.1.1.extract (Int.toNat d.2.2.2.2.1.1) (Int.toNat d.2.2.2.2.2.1.1))
  let x24 : (List ByteArray) := ([x23] : List ByteArray)
  bif decide (((d.1.1.length + x24.length) * 16 : Nat) ≤ 140737488355328) && decide (d.1.1.length + x24.length ≤ 9223372036854775807) then (
  let x25 : (List ByteArray) := (d.1.1 ++ x24)
  (T.1 ((x25, d.1.2), (d.2.1, ((), ((), d.2.2.2.2.2))))))
  else none)
  else none))
  else none)
  else (
  bif decide ((0 : Int) ≤ d.2.2.2.2.1.1) && decide (d.2.2.2.2.1.1 ≤ d.2.2.2.2.2.1.1) && decide (d.2.2.2.2.2.1.1 ≤ (d.2.1.1.size : Int)) then (
  let x26 : ByteArray := (d.2.1.1.extract (Int.toNat d.2.2.2.2.1.1) (Int.toNat d.2.2.2.2.2.1.1))
  let x27 : (List ByteArray) := ([x26] : List ByteArray)
  bif decide (((d.1.1.length + x27.length) * 16 : Nat) ≤ 140737488355328) && decide (d.1.1.length + x27.length ≤ 9223372036854775807) then (
  let x28 : (List ByteArray) := (d.1.1 ++ x27)
  (T.1 ((x28, d.1.2), (d.2.1, ((), ((), d.2.2.2.2.2))))))
  else none)
  else none))
  else none))
  else none)
  else (
  bif decide ((0 : Int) ≤ d.2.2.2.2.1.1) && decide (d.2.2.2.2.1.1 < ((d.2.1.1.size : Int) : Int)) then (
  let x29 : Int := (bt d.2.1.1 d.2.2.2.2.1.1)
  (g_ref25_letter ((), ((x29, ()), ()))).bind fun x30 =>
  bif x30.2.1.1 then (
  bif decide ((0 : Int) ≤ d.2.2.2.2.2.1.1) && decide (d.2.2.2.2.2.1.1 < ((d.2.1.1.size : Int) : Int)) then (
  let x31 : Int := (bt d.2.1.1 d.2.2.2.2.2.1.1)
  (g_ref25_letter ((), ((x31, ()), ()))).bind fun x32 =>
  bif x32.2.1.1 then (
  let x33 : Int := (iadd .i64 d.2.2.2.2.2.1.1 (1 : Int))
  (T.2.1 (d.1, (d.2.1, ((), ((), (d.2.2.2.2.1, ((x33, ()), ()))))))))
  else (
  bif decide ((0 : Int) ≤ d.2.2.2.2.1.1) && decide (d.2.2.2.2.1.1 ≤ d.2.2.2.2.2.1.1) && decide (d.2.2.2.2.2.1.1 ≤ (d.2.1.1.size : Int)) then (
  let x34 : ByteArray := (d.2.1.1.extract (Int.toNat d.2.2.2.2.1.1) (Int.toNat d.2.2.2.2.2.1.1))
  let x35 : (List ByteArray) := ([x34] : List ByteArray)
  bif decide (((d.1.1.length + x35.length) * 16 : Nat) ≤ 140737488355328) && decide (d.1.1.length + x35.length ≤ 9223372036854775807) then (
  let x36 : (List ByteArray) := (d.1.1 ++ x35)
  (T.1 ((x36, d.1.2), (d.2.1, ((), ((), d.2.2.2.2.2))))))
  else none)
  else none))
  else none)
  else (
  bif decide ((0 : Int) ≤ d.2.2.2.2.1.1) && decide (d.2.2.2.2.1.1 ≤ d.2.2.2.2.2.1.1) && decide (d.2.2.2.2.2.1.1 ≤ (d.2.1.1.size : Int)) then (
  let x37 : ByteArray := (d.2.1.1.extract (Int.toNat d.2.2.2.2.1.1) (Int.toNat d.2.2.2.2.2.1.1))
  let x38 : (List ByteArray) := ([x37] : List ByteArray)
  bif decide (((d.1.1.length + x38.length) * 16 : Nat) ≤ 140737488355328) && decide (d.1.1.length + x38.length ≤ 9223372036854775807) then (
  let x39 : (List ByteArray) := (d.1.1 ++ x38)
  (T.1 ((x39, d.1.2), (d.2.1, ((), ((), d.2.2.2.2.2))))))
  else none)
  else none))
  else none))
  else none)
  else (
  bif decide ((0 : Int) ≤ d.2.2.2.2.1.1) && decide (d.2.2.2.2.1.1 ≤ d.2.2.2.2.2.1.1) && decide (d.2.2.2.2.2.1.1 ≤ (d.2.1.1.size : Int)) then (
  let x40 : ByteArray := (d.2.1.1.extract (Int.toNat d.2.2.2.2.1.1) (Int.toNat d.2.2.2.2.2.1.1))
  let x41 : (List ByteArray) := ([x40] : List ByteArray)
  bif decide (((d.1.1.length + x41.length) * 16 : Nat) ≤ 140737488355328) && decide (d.1.1.length + x41.length ≤ 9223372036854775807) then (
  let x42 : (List ByteArray) := (d.1.1 ++ x41)
  (T.1 ((x42, d.1.2), (d.2.1, ((), ((), d.2.2.2.2.2))))))
  else none)
  else none)
def f_ref25_parts_t : Nat → TT_ref25_parts
  | 0 => (fun _ => none, (fun _ => none, ()))
  | k + 1 => (f_ref25_parts_p4 (f_ref25_parts_t k), (f_ref25_parts_p16 (f_ref25_parts_t k), ()))
theorem t_ref25_parts (k : Nat) : f_ref25_parts_t (k + 1) = (f_ref25_parts_p4 (f_ref25_parts_t k), (f_ref25_parts_p16 (f_ref25_parts_t k), ())) := rfl
def f_ref25_parts_m (T : TT_ref25_parts) (d : Unit × ((ByteArray × Unit) × Unit)) : Option (((List ByteArray) × ((List Bool) × Unit)) × (Unit × (Unit × ((Bool × Unit) × Unit)))) :=
  let x1 : (List ByteArray) := ([] : List ByteArray)
  let x2 : (List Bool) := ([] : List Bool)
  (T.1 ((x1, (x2, ())), (d.2.1, ((), ((), (((0 : Int), ()), ()))))))
def c_ref25_parts : List Nat := []
def L_ref25_parts (k : Nat) : Pts po_ref25_parts.den := [(4, ⟨sh_ref25_parts_4, (f_ref25_parts_t k).1⟩), (16, ⟨sh_ref25_parts_16, (f_ref25_parts_t k).2.1⟩)]
def R_ref25_parts (_ : Nat) : PtsR po_ref25_parts.den := []
def E_ref25_parts : Env := (((E0.add 129 (typedSem pi_ref25_Gap po_ref25_Gap g_ref25_Gap)).add 130 (typedSem pi_ref02_Is po_ref02_Is g_ref02_Is)).add 131 (typedSem pi_ref25_letter po_ref25_letter g_ref25_letter))
theorem q_ref25_parts_4 (k : Nat) (d : sh_ref25_parts_4.den) : evAt E_ref25_parts (tb (L_ref25_parts k) (R_ref25_parts k)) c_ref25_parts 4 (bodyOf Tryz.f53) 0 (finK E_ref25_parts po_ref25_parts [.tmp 2, .tmp 3, .tmp 4]) (ptSt sh_ref25_parts_4 d) = f_ref25_parts_p4 (f_ref25_parts_t k) d := by kernel_rfl
theorem q_ref25_parts_16 (k : Nat) (d : sh_ref25_parts_16.den) : evAt E_ref25_parts (tb (L_ref25_parts k) (R_ref25_parts k)) c_ref25_parts 16 (bodyOf Tryz.f53) 0 (finK E_ref25_parts po_ref25_parts [.tmp 2, .tmp 3, .tmp 4]) (ptSt sh_ref25_parts_16 d) = f_ref25_parts_p16 (f_ref25_parts_t k) d := by kernel_rfl
theorem q_ref25_parts_m (k : Nat) (d : pi_ref25_parts.den) : evCode E_ref25_parts (tb (L_ref25_parts k) (R_ref25_parts k)) c_ref25_parts (bodyOf Tryz.f53) 0 (finK E_ref25_parts po_ref25_parts [.tmp 2, .tmp 3, .tmp 4]) (startSt pi_ref25_parts 70 d) = f_ref25_parts_m (f_ref25_parts_t k) d := by kernel_rfl
def g_ref25_parts (d : Unit × ((ByteArray × Unit) × Unit)) : Option (((List ByteArray) × ((List Bool) × Unit)) × (Unit × (Unit × ((Bool × Unit) × Unit)))) := lim fun k => f_ref25_parts_m (f_ref25_parts_t k) d
theorem ok_ref25_parts : FnOk Tryz.prog ET0 53 pi_ref25_parts po_ref25_parts g_ref25_parts :=
  fn_of_body (E := E_ref25_parts) (envOk_add (envOk_add (envOk_add e0_ok (typed_ok ok_ref25_Gap)) (typed_ok ok_ref02_Is)) (typed_ok ok_ref25_letter)) (fn := Tryz.f53) Tryz.func53 (by kernel_rfl) (by kernel_rfl) [.tmp 2, .tmp 3, .tmp 4] (by kernel_rfl) (by kernel_rfl) (by decide) rfl c_ref25_parts L_ref25_parts R_ref25_parts
    (by intro x hx d; simp only [L_ref25_parts, List.mem_cons, List.not_mem_nil, or_false] at hx; rcases hx with rfl | rfl; rfl; rfl)
    (by intro k x hx d out h; simp only [L_ref25_parts, List.mem_cons, List.not_mem_nil, or_false] at hx; rcases hx with rfl | rfl; exact (q_ref25_parts_4 k d).trans h; exact (q_ref25_parts_16 k d).trans h)
    (by intro x hx; cases hx)
    (by intro k x hx; cases hx)
    (by intro d out h; obtain ⟨k, hk⟩ := lim_some h; exact ⟨k, (q_ref25_parts_m k d).trans hk⟩)

@[reducible] def pi_ref25_Weekday : PSh := ⟨[], [.mk false [vI]]⟩
@[reducible] def po_ref25_Weekday : PSh := ⟨[], [.mk false [vS]]⟩
def f_ref25_Weekday_m (T : Unit) (d : Unit × ((Int × Unit) × Unit)) : Option (Unit × ((ByteArray × Unit) × Unit)) :=
  let x1 : Bool := (decide (d.2.1.1 < (1 : Int)))
  bif x1 then (
  some ((), (((⟨#[]⟩ : ByteArray), ()), ())))
  else (
  let x2 : Bool := (decide (d.2.1.1 > (7 : Int)))
  bif x2 then (
  some ((), (((⟨#[]⟩ : ByteArray), ()), ())))
  else (
  let x3 : (List ByteArray) := ([(⟨#[77, 111, 110]⟩ : ByteArray), (⟨#[84, 117, 101]⟩ : ByteArray), (⟨#[87, 101, 100]⟩ : ByteArray), (⟨#[84, 104, 117]⟩ : ByteArray), (⟨#[70, 114, 105]⟩ : ByteArray), (⟨#[83, 97, 116]⟩ : ByteArray), (⟨#[83, 117, 110]⟩ : ByteArray)] : List ByteArray)
  let x4 : Int := (isub .i64 d.2.1.1 (1 : Int))
  bif decide ((0 : Int) ≤ x4) && decide (x4 < (x3.length : Int)) then (
  some ((), (((gd .str x3 x4), ()), ())))
  else none))
def g_ref25_Weekday (d : Unit × ((Int × Unit) × Unit)) : Option (Unit × ((ByteArray × Unit) × Unit)) := f_ref25_Weekday_m () d
theorem ok_ref25_Weekday : FnOk Tryz.prog ET0 132 pi_ref25_Weekday po_ref25_Weekday g_ref25_Weekday :=
  fn0 (E := E0) e0_ok (fn := Tryz.f132) Tryz.func132 (by kernel_rfl) (by kernel_rfl) [.tmp 2] (by kernel_rfl) rfl rfl rfl [] fun d => by kernel_rfl

@[reducible] def pi_ref25_Month : PSh := ⟨[], [.mk false [vI]]⟩
@[reducible] def po_ref25_Month : PSh := ⟨[], [.mk false [vS]]⟩
def f_ref25_Month_m (T : Unit) (d : Unit × ((Int × Unit) × Unit)) : Option (Unit × ((ByteArray × Unit) × Unit)) :=
  let x1 : Bool := (decide (d.2.1.1 < (1 : Int)))
  bif x1 then (
  some ((), (((⟨#[]⟩ : ByteArray), ()), ())))
  else (
  let x2 : Bool := (decide (d.2.1.1 > (12 : Int)))
  bif x2 then (
  some ((), (((⟨#[]⟩ : ByteArray), ()), ())))
  else (
  let x3 : (List ByteArray) := ([(⟨#[74, 97, 110]⟩ : ByteArray), (⟨#[70, 101, 98]⟩ : ByteArray), (⟨#[77, 97, 114]⟩ : ByteArray), (⟨#[65, 112, 114]⟩ : ByteArray), (⟨#[77, 97, 121]⟩ : ByteArray), (⟨#[74, 117, 110]⟩ : ByteArray), (⟨#[74, 117, 108]⟩ : ByteArray), (⟨#[65, 117, 103]⟩ : ByteArray), (⟨#[83, 101, 112]⟩ : ByteArray), (⟨#[79, 99, 116]⟩ : ByteArray), (⟨#[78, 111, 118]⟩ : ByteArray), (⟨#[68, 101, 99]⟩ : ByteArray)] : List ByteArray)
  let x4 : Int := (isub .i64 d.2.1.1 (1 : Int))
  bif decide ((0 : Int) ≤ x4) && decide (x4 < (x3.length : Int)) then (
  some ((), (((gd .str x3 x4), ()), ())))
  else none))
def g_ref25_Month (d : Unit × ((Int × Unit) × Unit)) : Option (Unit × ((ByteArray × Unit) × Unit)) := f_ref25_Month_m () d
theorem ok_ref25_Month : FnOk Tryz.prog ET0 133 pi_ref25_Month po_ref25_Month g_ref25_Month :=
  fn0 (E := E0) e0_ok (fn := Tryz.f133) Tryz.func133 (by kernel_rfl) (by kernel_rfl) [.tmp 2] (by kernel_rfl) rfl rfl rfl [] fun d => by kernel_rfl

@[reducible] def pi_ref25_great : PSh := ⟨[], [.mk false [vS]]⟩
@[reducible] def po_ref25_great : PSh := ⟨[], [.mk false [vS]]⟩
@[reducible] def TT_ref25_great : Type := (((((List Int) × Unit) × (Unit × ((Int × Unit) × Unit))) → Option (Unit × ((ByteArray × Unit) × Unit))) × Unit)
@[reducible] def sh_ref25_great_4 : PSh := ⟨[.row 5 (.int .u8)], [.any, .any, .any, .mk false [.osl 0], .mk false [vI], .any, .any, .any, .any, .any, .any, .any, .any, .any, .any, .any, .any, .any, .any, .any, .any, .any, .any, .any, .any, .any, .any, .any, .any, .any, .any, .any, .any, .any, .any]⟩
def f_ref25_great_p4 (T : TT_ref25_great) (d : ((List Int) × Unit) × (Unit × ((Int × Unit) × Unit))) : Option (Unit × ((ByteArray × Unit) × Unit)) :=
  let x2 : Int := (d.1.1.length : Int)
  let x3 : Bool := (decide (d.2.2.1.1 < x2))
  bif x3 then (
  bif decide ((0 : Int) ≤ d.2.2.1.1) && decide (d.2.2.1.1 < (d.1.1.length : Int)) then (
  let x4 : Bool := (decide ((gd (.int .u8) d.1.1 d.2.2.1.1) ≥ (97 : Int)))
  bif x4 then (
  bif decide ((0 : Int) ≤ d.2.2.1.1) && decide (d.2.2.1.1 < (d.1.1.length : Int)) then (
  let x5 : Bool := (decide ((gd (.int .u8) d.1.1 d.2.2.1.1) ≤ (122 : Int)))
  bif x5 then (
  bif decide ((0 : Int) ≤ d.2.2.1.1) && decide (d.2.2.1.1 < (d.1.1.length : Int)) then (
  let x6 : Int := (isub .u8 (gd (.int .u8) d.1.1 d.2.2.1.1) (32 : Int))
  bif decide ((0 : Int) ≤ d.2.2.1.1) && decide (d.2.2.1.1 < (d.1.1.length : Int)) then (
  let x7 : (List Int) := (List.set d.1.1 (Int.toNat d.2.2.1.1) x6)
  let x8 : Int := (iadd .i64 d.2.2.1.1 (1 : Int))
  (T.1 ((x7, ()), ((), ((x8, ()), ())))))
  else none)
  else none)
  else (
  let x9 : Int := (iadd .i64 d.2.2.1.1 (1 : Int))
  (T.1 (d.1, ((), ((x9, ()), ()))))))
  else none)
  else (
  let x10 : Int := (iadd .i64 d.2.2.1.1 (1 : Int))
  (T.1 (d.1, ((), ((x10, ()), ()))))))
  else none)
  else (
  let x11 : ByteArray := (strOf d.1.1)
  some ((), ((x11, ()), ())))
def f_ref25_great_t : Nat → TT_ref25_great
  | 0 => (fun _ => none, ())
  | k + 1 => (f_ref25_great_p4 (f_ref25_great_t k), ())
theorem t_ref25_great (k : Nat) : f_ref25_great_t (k + 1) = (f_ref25_great_p4 (f_ref25_great_t k), ()) := rfl
def f_ref25_great_m (T : TT_ref25_great) (d : Unit × ((ByteArray × Unit) × Unit)) : Option (Unit × ((ByteArray × Unit) × Unit)) :=
  bif decide ((d.2.1.1.size : Int) ≤ 9223372036854775807) then (
  let x1 : (List Int) := (bytesOf d.2.1.1)
  (T.1 ((x1, ()), ((), (((0 : Int), ()), ())))))
  else none
def c_ref25_great : List Nat := []
def L_ref25_great (k : Nat) : Pts po_ref25_great.den := [(4, ⟨sh_ref25_great_4, (f_ref25_great_t k).1⟩)]
def R_ref25_great (_ : Nat) : PtsR po_ref25_great.den := []
def E_ref25_great : Env := E0
theorem q_ref25_great_4 (k : Nat) (d : sh_ref25_great_4.den) : evAt E_ref25_great (tb (L_ref25_great k) (R_ref25_great k)) c_ref25_great 4 (bodyOf Tryz.f134) 0 (finK E_ref25_great po_ref25_great [.tmp 2]) (ptSt sh_ref25_great_4 d) = f_ref25_great_p4 (f_ref25_great_t k) d := by kernel_rfl
theorem q_ref25_great_m (k : Nat) (d : pi_ref25_great.den) : evCode E_ref25_great (tb (L_ref25_great k) (R_ref25_great k)) c_ref25_great (bodyOf Tryz.f134) 0 (finK E_ref25_great po_ref25_great [.tmp 2]) (startSt pi_ref25_great 35 d) = f_ref25_great_m (f_ref25_great_t k) d := by kernel_rfl
def g_ref25_great (d : Unit × ((ByteArray × Unit) × Unit)) : Option (Unit × ((ByteArray × Unit) × Unit)) := lim fun k => f_ref25_great_m (f_ref25_great_t k) d
theorem ok_ref25_great : FnOk Tryz.prog ET0 134 pi_ref25_great po_ref25_great g_ref25_great :=
  fn_of_body (E := E_ref25_great) e0_ok (fn := Tryz.f134) Tryz.func134 (by kernel_rfl) (by kernel_rfl) [.tmp 2] (by kernel_rfl) (by kernel_rfl) (by decide) rfl c_ref25_great L_ref25_great R_ref25_great
    (by intro x hx d; simp only [L_ref25_great, List.mem_cons, List.not_mem_nil, or_false] at hx; subst hx; rfl)
    (by intro k x hx d out h; simp only [L_ref25_great, List.mem_cons, List.not_mem_nil, or_false] at hx; subst hx; exact (q_ref25_great_4 k d).trans h)
    (by intro x hx; cases hx)
    (by intro k x hx; cases hx)
    (by intro d out h; obtain ⟨k, hk⟩ := lim_some h; exact ⟨k, (q_ref25_great_m k d).trans hk⟩)

@[reducible] def pi_ref25_index : PSh := ⟨[], [.mk false [vS], .mk false [vB], .mk false [vI]]⟩
@[reducible] def po_ref25_index : PSh := ⟨[], [.mk false [vI]]⟩
@[reducible] def TT_ref25_index : Type := (((Unit × ((ByteArray × Unit) × ((Bool × Unit) × ((Int × Unit) × ((Int × Unit) × Unit))))) → Option (Unit × ((Int × Unit) × Unit))) × Unit)
@[reducible] def sh_ref25_index_3 : PSh := ⟨[], [.mk false [vS], .mk false [vB], .mk false [vI], .any, .any, .any, .any, .mk false [vI], .any, .any, .any, .any, .any, .any, .any, .any, .any, .any, .any, .any, .any, .any, .any, .any, .any]⟩
def f_ref25_index_p3 (T : TT_ref25_index) (d : Unit × ((ByteArray × Unit) × ((Bool × Unit) × ((Int × Unit) × ((Int × Unit) × Unit))))) : Option (Unit × ((Int × Unit) × Unit)) :=
  let x1 : Bool := (decide (d.2.2.2.2.1.1 ≤ d.2.2.2.1.1))
  bif x1 then (
  (g_ref25_Weekday ((), d.2.2.2.2)).bind fun x2 =>
  bif d.2.2.1.1 then (
  (g_ref25_Month ((), d.2.2.2.2)).bind fun x3 =>
  (g_ref25_great ((), (d.2.1, ()))).bind fun x4 =>
  (g_ref25_great ((), x3.2)).bind fun x5 =>
  let x6 : Bool := (x4.2.1.1.toList == x5.2.1.1.toList)
  bif x6 then (
  some ((), d.2.2.2.2))
  else (
  let x7 : Int := (iadd .i64 d.2.2.2.2.1.1 (1 : Int))
  (T.1 ((), (d.2.1, (d.2.2.1, (d.2.2.2.1, ((x7, ()), ()))))))))
  else (
  (g_ref25_great ((), (d.2.1, ()))).bind fun x8 =>
  (g_ref25_great ((), x2.2)).bind fun x9 =>
  let x10 : Bool := (x8.2.1.1.toList == x9.2.1.1.toList)
  bif x10 then (
  some ((), d.2.2.2.2))
  else (
  let x11 : Int := (iadd .i64 d.2.2.2.2.1.1 (1 : Int))
  (T.1 ((), (d.2.1, (d.2.2.1, (d.2.2.2.1, ((x11, ()), ())))))))))
  else (
  some ((), (((0 : Int), ()), ())))
def f_ref25_index_t : Nat → TT_ref25_index
  | 0 => (fun _ => none, ())
  | k + 1 => (f_ref25_index_p3 (f_ref25_index_t k), ())
theorem t_ref25_index (k : Nat) : f_ref25_index_t (k + 1) = (f_ref25_index_p3 (f_ref25_index_t k), ()) := rfl
def f_ref25_index_m (T : TT_ref25_index) (d : Unit × ((ByteArray × Unit) × ((Bool × Unit) × ((Int × Unit) × Unit)))) : Option (Unit × ((Int × Unit) × Unit)) :=
  (T.1 ((), (d.2.1, (d.2.2.1, (d.2.2.2.1, (((1 : Int), ()), ()))))))
def c_ref25_index : List Nat := []
def L_ref25_index (k : Nat) : Pts po_ref25_index.den := [(3, ⟨sh_ref25_index_3, (f_ref25_index_t k).1⟩)]
def R_ref25_index (_ : Nat) : PtsR po_ref25_index.den := []
def E_ref25_index : Env := (((E0.add 132 (typedSem pi_ref25_Weekday po_ref25_Weekday g_ref25_Weekday)).add 133 (typedSem pi_ref25_Month po_ref25_Month g_ref25_Month)).add 134 (typedSem pi_ref25_great po_ref25_great g_ref25_great))
theorem q_ref25_index_3 (k : Nat) (d : sh_ref25_index_3.den) : evAt E_ref25_index (tb (L_ref25_index k) (R_ref25_index k)) c_ref25_index 3 (bodyOf Tryz.f54) 0 (finK E_ref25_index po_ref25_index [.tmp 6]) (ptSt sh_ref25_index_3 d) = f_ref25_index_p3 (f_ref25_index_t k) d := by kernel_rfl
theorem q_ref25_index_m (k : Nat) (d : pi_ref25_index.den) : evCode E_ref25_index (tb (L_ref25_index k) (R_ref25_index k)) c_ref25_index (bodyOf Tryz.f54) 0 (finK E_ref25_index po_ref25_index [.tmp 6]) (startSt pi_ref25_index 25 d) = f_ref25_index_m (f_ref25_index_t k) d := by kernel_rfl
def g_ref25_index (d : Unit × ((ByteArray × Unit) × ((Bool × Unit) × ((Int × Unit) × Unit)))) : Option (Unit × ((Int × Unit) × Unit)) := lim fun k => f_ref25_index_m (f_ref25_index_t k) d
theorem ok_ref25_index : FnOk Tryz.prog ET0 54 pi_ref25_index po_ref25_index g_ref25_index :=
  fn_of_body (E := E_ref25_index) (envOk_add (envOk_add (envOk_add e0_ok (typed_ok ok_ref25_Weekday)) (typed_ok ok_ref25_Month)) (typed_ok ok_ref25_great)) (fn := Tryz.f54) Tryz.func54 (by kernel_rfl) (by kernel_rfl) [.tmp 6] (by kernel_rfl) (by kernel_rfl) (by decide) rfl c_ref25_index L_ref25_index R_ref25_index
    (by intro x hx d; simp only [L_ref25_index, List.mem_cons, List.not_mem_nil, or_false] at hx; subst hx; rfl)
    (by intro k x hx d out h; simp only [L_ref25_index, List.mem_cons, List.not_mem_nil, or_false] at hx; subst hx; exact (q_ref25_index_3 k d).trans h)
    (by intro x hx; cases hx)
    (by intro k x hx; cases hx)
    (by intro d out h; obtain ⟨k, hk⟩ := lim_some h; exact ⟨k, (q_ref25_index_m k d).trans hk⟩)

@[reducible] def pi_ref02_Many : PSh := ⟨[], [.mk false [vS]]⟩
@[reducible] def po_ref02_Many : PSh := ⟨[], [.mk false [vI]]⟩
@[reducible] def TT_ref02_Many : Type := (((Unit × ((ByteArray × Unit) × ((Int × Unit) × Unit))) → Option (Unit × ((Int × Unit) × Unit))) × Unit)
@[reducible] def sh_ref02_Many_3 : PSh := ⟨[], [.mk false [vS], .any, .any, .mk false [vI], .any, .any, .any, .any, .any, .any, .any, .any, .any, .any, .any, .any, .any, .any]⟩
def f_ref02_Many_p3 (T : TT_ref02_Many) (d : Unit × ((ByteArray × Unit) × ((Int × Unit) × Unit))) : Option (Unit × ((Int × Unit) × Unit)) :=
  let x1 : Int := (d.2.1.1.size : Int)
  let x2 : Bool := (decide (d.2.2.1.1 < x1))
  bif x2 then (
  bif decide ((0 : Int) ≤ d.2.2.1.1) && decide (d.2.2.1.1 < ((d.2.1.1.size : Int) : Int)) then (
  let x3 : Int := (bt d.2.1.1 d.2.2.1.1)
  (g_ref02_Is ((), ((x3, ()), ()))).bind fun x4 =>
  let x5 : Bool := (!x4.2.1.1)
  bif x5 then (
  some ((), d.2.2))
  else (
  let x6 : Int := (iadd .i64 d.2.2.1.1 (1 : Int))
  (T.1 ((), (d.2.1, ((x6, ()), ()))))))
  else none)
  else (
  let x7 : Int := (d.2.1.1.size : Int)
  some ((), ((x7, ()), ())))
def f_ref02_Many_t : Nat → TT_ref02_Many
  | 0 => (fun _ => none, ())
  | k + 1 => (f_ref02_Many_p3 (f_ref02_Many_t k), ())
theorem t_ref02_Many (k : Nat) : f_ref02_Many_t (k + 1) = (f_ref02_Many_p3 (f_ref02_Many_t k), ()) := rfl
def f_ref02_Many_m (T : TT_ref02_Many) (d : Unit × ((ByteArray × Unit) × Unit)) : Option (Unit × ((Int × Unit) × Unit)) :=
  (T.1 ((), (d.2.1, (((0 : Int), ()), ()))))
def c_ref02_Many : List Nat := []
def L_ref02_Many (k : Nat) : Pts po_ref02_Many.den := [(3, ⟨sh_ref02_Many_3, (f_ref02_Many_t k).1⟩)]
def R_ref02_Many (_ : Nat) : PtsR po_ref02_Many.den := []
def E_ref02_Many : Env := (E0.add 130 (typedSem pi_ref02_Is po_ref02_Is g_ref02_Is))
theorem q_ref02_Many_3 (k : Nat) (d : sh_ref02_Many_3.den) : evAt E_ref02_Many (tb (L_ref02_Many k) (R_ref02_Many k)) c_ref02_Many 3 (bodyOf Tryz.f135) 0 (finK E_ref02_Many po_ref02_Many [.tmp 2]) (ptSt sh_ref02_Many_3 d) = f_ref02_Many_p3 (f_ref02_Many_t k) d := by kernel_rfl
theorem q_ref02_Many_m (k : Nat) (d : pi_ref02_Many.den) : evCode E_ref02_Many (tb (L_ref02_Many k) (R_ref02_Many k)) c_ref02_Many (bodyOf Tryz.f135) 0 (finK E_ref02_Many po_ref02_Many [.tmp 2]) (startSt pi_ref02_Many 18 d) = f_ref02_Many_m (f_ref02_Many_t k) d := by kernel_rfl
def g_ref02_Many (d : Unit × ((ByteArray × Unit) × Unit)) : Option (Unit × ((Int × Unit) × Unit)) := lim fun k => f_ref02_Many_m (f_ref02_Many_t k) d
theorem ok_ref02_Many : FnOk Tryz.prog ET0 135 pi_ref02_Many po_ref02_Many g_ref02_Many :=
  fn_of_body (E := E_ref02_Many) (envOk_add e0_ok (typed_ok ok_ref02_Is)) (fn := Tryz.f135) Tryz.func135 (by kernel_rfl) (by kernel_rfl) [.tmp 2] (by kernel_rfl) (by kernel_rfl) (by decide) rfl c_ref02_Many L_ref02_Many R_ref02_Many
    (by intro x hx d; simp only [L_ref02_Many, List.mem_cons, List.not_mem_nil, or_false] at hx; subst hx; rfl)
    (by intro k x hx d out h; simp only [L_ref02_Many, List.mem_cons, List.not_mem_nil, or_false] at hx; subst hx; exact (q_ref02_Many_3 k d).trans h)
    (by intro x hx; cases hx)
    (by intro k x hx; cases hx)
    (by intro d out h; obtain ⟨k, hk⟩ := lim_some h; exact ⟨k, (q_ref02_Many_m k d).trans hk⟩)

@[reducible] def pi_ref25_figures : PSh := ⟨[], [.mk false [vS], .mk false [vI], .mk false [vI]]⟩
@[reducible] def po_ref25_figures : PSh := ⟨[], [.mk false [vB]]⟩
def f_ref25_figures_m (T : Unit) (d : Unit × ((ByteArray × Unit) × ((Int × Unit) × ((Int × Unit) × Unit)))) : Option (Unit × ((Bool × Unit) × Unit)) :=
  let x1 : Int := (d.2.1.1.size : Int)
  let x2 : Bool := (decide (x1 ≥ d.2.2.1.1))
  bif x2 then (
  let x3 : Int := (d.2.1.1.size : Int)
  let x4 : Bool := (decide (x3 ≤ d.2.2.2.1.1))
  bif x4 then (
  (g_ref02_Many ((), (d.2.1, ()))).bind fun x5 =>
  let x6 : Int := (d.2.1.1.size : Int)
  let x7 : Bool := (x5.2.1.1 == x6)
  some ((), ((x7, ()), ())))
  else (
  some ((), ((false, ()), ()))))
  else (
  some ((), ((false, ()), ())))
def g_ref25_figures (d : Unit × ((ByteArray × Unit) × ((Int × Unit) × ((Int × Unit) × Unit)))) : Option (Unit × ((Bool × Unit) × Unit)) := f_ref25_figures_m () d
theorem ok_ref25_figures : FnOk Tryz.prog ET0 55 pi_ref25_figures po_ref25_figures g_ref25_figures :=
  fn0 (E := (E0.add 135 (typedSem pi_ref02_Many po_ref02_Many g_ref02_Many))) (envOk_add e0_ok (typed_ok ok_ref02_Many)) (fn := Tryz.f55) Tryz.func55 (by kernel_rfl) (by kernel_rfl) [.tmp 6] (by kernel_rfl) rfl rfl rfl [] fun d => by kernel_rfl

@[reducible] def pi_ref25_number : PSh := ⟨[], [.mk false [vS]]⟩
@[reducible] def po_ref25_number : PSh := ⟨[], [.mk false [vI]]⟩
@[reducible] def TT_ref25_number : Type := (((Unit × ((ByteArray × Unit) × ((Int × Unit) × ((Int × Unit) × Unit)))) → Option (Unit × ((Int × Unit) × Unit))) × Unit)
@[reducible] def sh_ref25_number_4 : PSh := ⟨[], [.mk false [vS], .any, .any, .mk false [vI], .mk false [vI], .any, .any, .any, .any, .any, .any, .any, .any, .any, .any, .any, .any, .any, .any, .any]⟩
def f_ref25_number_p4 (T : TT_ref25_number) (d : Unit × ((ByteArray × Unit) × ((Int × Unit) × ((Int × Unit) × Unit)))) : Option (Unit × ((Int × Unit) × Unit)) :=
  let x1 : Int := (d.2.1.1.size : Int)
  let x2 : Bool := (decide (d.2.2.2.1.1 < x1))
  bif x2 then (
  let x3 : Int := (imul .i64 d.2.2.1.1 (10 : Int))
  bif decide ((0 : Int) ≤ d.2.2.2.1.1) && decide (d.2.2.2.1.1 < ((d.2.1.1.size : Int) : Int)) then (
  let x4 : Int := (bt d.2.1.1 d.2.2.2.1.1)
  let x5 : Int := (isub .u8 x4 (48 : Int))
  let x6 : Int := (iconv .i64 x5)
  let x7 : Int := (iadd .i64 x3 x6)
  let x8 : Int := (iadd .i64 d.2.2.2.1.1 (1 : Int))
  (T.1 ((), (d.2.1, ((x7, ()), ((x8, ()), ()))))))
  else none)
  else (
  some ((), (d.2.2.1, ())))
def f_ref25_number_t : Nat → TT_ref25_number
  | 0 => (fun _ => none, ())
  | k + 1 => (f_ref25_number_p4 (f_ref25_number_t k), ())
theorem t_ref25_number (k : Nat) : f_ref25_number_t (k + 1) = (f_ref25_number_p4 (f_ref25_number_t k), ()) := rfl
def f_ref25_number_m (T : TT_ref25_number) (d : Unit × ((ByteArray × Unit) × Unit)) : Option (Unit × ((Int × Unit) × Unit)) :=
  (T.1 ((), (d.2.1, (((0 : Int), ()), (((0 : Int), ()), ())))))
def c_ref25_number : List Nat := []
def L_ref25_number (k : Nat) : Pts po_ref25_number.den := [(4, ⟨sh_ref25_number_4, (f_ref25_number_t k).1⟩)]
def R_ref25_number (_ : Nat) : PtsR po_ref25_number.den := []
def E_ref25_number : Env := E0
theorem q_ref25_number_4 (k : Nat) (d : sh_ref25_number_4.den) : evAt E_ref25_number (tb (L_ref25_number k) (R_ref25_number k)) c_ref25_number 4 (bodyOf Tryz.f56) 0 (finK E_ref25_number po_ref25_number [.tmp 2]) (ptSt sh_ref25_number_4 d) = f_ref25_number_p4 (f_ref25_number_t k) d := by kernel_rfl
theorem q_ref25_number_m (k : Nat) (d : pi_ref25_number.den) : evCode E_ref25_number (tb (L_ref25_number k) (R_ref25_number k)) c_ref25_number (bodyOf Tryz.f56) 0 (finK E_ref25_number po_ref25_number [.tmp 2]) (startSt pi_ref25_number 20 d) = f_ref25_number_m (f_ref25_number_t k) d := by kernel_rfl
def g_ref25_number (d : Unit × ((ByteArray × Unit) × Unit)) : Option (Unit × ((Int × Unit) × Unit)) := lim fun k => f_ref25_number_m (f_ref25_number_t k) d
theorem ok_ref25_number : FnOk Tryz.prog ET0 56 pi_ref25_number po_ref25_number g_ref25_number :=
  fn_of_body (E := E_ref25_number) e0_ok (fn := Tryz.f56) Tryz.func56 (by kernel_rfl) (by kernel_rfl) [.tmp 2] (by kernel_rfl) (by kernel_rfl) (by decide) rfl c_ref25_number L_ref25_number R_ref25_number
    (by intro x hx d; simp only [L_ref25_number, List.mem_cons, List.not_mem_nil, or_false] at hx; subst hx; rfl)
    (by intro k x hx d out h; simp only [L_ref25_number, List.mem_cons, List.not_mem_nil, or_false] at hx; subst hx; exact (q_ref25_number_4 k d).trans h)
    (by intro x hx; cases hx)
    (by intro k x hx; cases hx)
    (by intro d out h; obtain ⟨k, hk⟩ := lim_some h; exact ⟨k, (q_ref25_number_m k d).trans hk⟩)

@[reducible] def pi_ref25_Zone : PSh := ⟨[], [.mk false [vS]]⟩
@[reducible] def po_ref25_Zone : PSh := ⟨[], [.mk false [vI], .mk false [vB]]⟩
@[reducible] def TT_ref25_Zone : Type := (((((List ByteArray) × ((List Int) × Unit)) × ((ByteArray × Unit) × (Unit × (Unit × ((Int × Unit) × Unit))))) → Option (Unit × ((Int × Unit) × ((Bool × Unit) × Unit)))) × Unit)
@[reducible] def sh_ref25_Zone_8 : PSh := ⟨[.row 9 .str, .row 3 (.int .i64)], [.mk false [vS], .any, .any, .any, .mk false [.osl 0], .mk false [.osl 1], .mk false [vI], .any, .any, .any, .any, .any, .any, .any, .any, .any, .any, .any, .any, .any, .any, .any, .any, .any, .any, .any, .any, .any, .any, .any, .any, .any, .any, .any, .any, .any, .any, .any, .any, .any, .any, .any, .any]⟩
def f_ref25_Zone_p8 (T : TT_ref25_Zone) (d : ((List ByteArray) × ((List Int) × Unit)) × ((ByteArray × Unit) × (Unit × (Unit × ((Int × Unit) × Unit))))) : Option (Unit × ((Int × Unit) × ((Bool × Unit) × Unit))) :=
  let x11 : Int := (d.1.1.length : Int)
  let x12 : Bool := (decide (d.2.2.2.2.1.1 < x11))
  bif x12 then (
  (g_ref25_great ((), (d.2.1, ()))).bind fun x13 =>
  bif decide ((0 : Int) ≤ d.2.2.2.2.1.1) && decide (d.2.2.2.2.1.1 < (d.1.1.length : Int)) then (
  let x14 : Bool := (x13.2.1.1.toList == (gd .str d.1.1 d.2.2.2.2.1.1).toList)
  bif x14 then (
  bif decide ((0 : Int) ≤ d.2.2.2.2.1.1) && decide (d.2.2.2.2.1.1 < (d.1.2.1.length : Int)) then (
  let x15 : Int := (imul .i64 (gd (.int .i64) d.1.2.1 d.2.2.2.2.1.1) (60 : Int))
  some ((), ((x15, ()), ((true, ()), ()))))
  else none)
  else (
  let x16 : Int := (iadd .i64 d.2.2.2.2.1.1 (1 : Int))
  (T.1 (d.1, (d.2.1, ((), ((), ((x16, ()), ()))))))))
  else none)
  else (
  some ((), (((0 : Int), ()), ((false, ()), ()))))
def f_ref25_Zone_t : Nat → TT_ref25_Zone
  | 0 => (fun _ => none, ())
  | k + 1 => (f_ref25_Zone_p8 (f_ref25_Zone_t k), ())
theorem t_ref25_Zone (k : Nat) : f_ref25_Zone_t (k + 1) = (f_ref25_Zone_p8 (f_ref25_Zone_t k), ()) := rfl
def f_ref25_Zone_m (T : TT_ref25_Zone) (d : Unit × ((ByteArray × Unit) × Unit)) : Option (Unit × ((Int × Unit) × ((Bool × Unit) × Unit))) :=
  let x1 : Int := (d.2.1.1.size : Int)
  let x2 : Bool := (x1 == (1 : Int))
  bif x2 then (
  bif decide ((0 : Int) ≤ (0 : Int)) && decide ((0 : Int) < ((d.2.1.1.size : Int) : Int)) then (
  let x3 : Int := (bt d.2.1.1 (0 : Int))
  (g_ref25_letter ((), ((x3, ()), ()))).bind fun x4 =>
  bif x4.2.1.1 then (
  bif decide ((0 : Int) ≤ (0 : Int)) && decide ((0 : Int) < ((d.2.1.1.size : Int) : Int)) then (
  let x5 : Int := (bt d.2.1.1 (0 : Int))
  let x6 : Bool := (x5 != (74 : Int))
  bif x6 then (
  bif decide ((0 : Int) ≤ (0 : Int)) && decide ((0 : Int) < ((d.2.1.1.size : Int) : Int)) then (
  let x7 : Int := (bt d.2.1.1 (0 : Int))
  let x8 : Bool := (x7 != (106 : Int))
  some ((), (((0 : Int), ()), ((x8, ()), ()))))
  else none)
  else (
  some ((), (((0 : Int), ()), ((false, ()), ())))))
  else none)
  else (
  some ((), (((0 : Int), ()), ((false, ()), ())))))
  else none)
  else (
  let x9 : (List ByteArray) := ([(⟨#[85, 84]⟩ : ByteArray), (⟨#[71, 77, 84]⟩ : ByteArray), (⟨#[69, 83, 84]⟩ : ByteArray), (⟨#[69, 68, 84]⟩ : ByteArray), (⟨#[67, 83, 84]⟩ : ByteArray), (⟨#[67, 68, 84]⟩ : ByteArray), (⟨#[77, 83, 84]⟩ : ByteArray), (⟨#[77, 68, 84]⟩ : ByteArray), (⟨#[80, 83, 84]⟩ : ByteArray), (⟨#[80, 68, 84]⟩ : ByteArray)] : List ByteArray)
  let x10 : (List Int) := ([(0 : Int), (0 : Int), (-5 : Int), (-4 : Int), (-6 : Int), (-5 : Int), (-7 : Int), (-6 : Int), (-8 : Int), (-7 : Int)] : List Int)
  (T.1 ((x9, (x10, ())), (d.2.1, ((), ((), (((0 : Int), ()), ())))))))
def c_ref25_Zone : List Nat := []
def L_ref25_Zone (k : Nat) : Pts po_ref25_Zone.den := [(8, ⟨sh_ref25_Zone_8, (f_ref25_Zone_t k).1⟩)]
def R_ref25_Zone (_ : Nat) : PtsR po_ref25_Zone.den := []
def E_ref25_Zone : Env := ((E0.add 131 (typedSem pi_ref25_letter po_ref25_letter g_ref25_letter)).add 134 (typedSem pi_ref25_great po_ref25_great g_ref25_great))
theorem q_ref25_Zone_8 (k : Nat) (d : sh_ref25_Zone_8.den) : evAt E_ref25_Zone (tb (L_ref25_Zone k) (R_ref25_Zone k)) c_ref25_Zone 8 (bodyOf Tryz.f136) 0 (finK E_ref25_Zone po_ref25_Zone [.tmp 2, .tmp 3]) (ptSt sh_ref25_Zone_8 d) = f_ref25_Zone_p8 (f_ref25_Zone_t k) d := by kernel_rfl
theorem q_ref25_Zone_m (k : Nat) (d : pi_ref25_Zone.den) : evCode E_ref25_Zone (tb (L_ref25_Zone k) (R_ref25_Zone k)) c_ref25_Zone (bodyOf Tryz.f136) 0 (finK E_ref25_Zone po_ref25_Zone [.tmp 2, .tmp 3]) (startSt pi_ref25_Zone 43 d) = f_ref25_Zone_m (f_ref25_Zone_t k) d := by kernel_rfl
def g_ref25_Zone (d : Unit × ((ByteArray × Unit) × Unit)) : Option (Unit × ((Int × Unit) × ((Bool × Unit) × Unit))) := lim fun k => f_ref25_Zone_m (f_ref25_Zone_t k) d
theorem ok_ref25_Zone : FnOk Tryz.prog ET0 136 pi_ref25_Zone po_ref25_Zone g_ref25_Zone :=
  fn_of_body (E := E_ref25_Zone) (envOk_add (envOk_add e0_ok (typed_ok ok_ref25_letter)) (typed_ok ok_ref25_great)) (fn := Tryz.f136) Tryz.func136 (by kernel_rfl) (by kernel_rfl) [.tmp 2, .tmp 3] (by kernel_rfl) (by kernel_rfl) (by decide) rfl c_ref25_Zone L_ref25_Zone R_ref25_Zone
    (by intro x hx d; simp only [L_ref25_Zone, List.mem_cons, List.not_mem_nil, or_false] at hx; subst hx; rfl)
    (by intro k x hx d out h; simp only [L_ref25_Zone, List.mem_cons, List.not_mem_nil, or_false] at hx; subst hx; exact (q_ref25_Zone_8 k d).trans h)
    (by intro x hx; cases hx)
    (by intro k x hx; cases hx)
    (by intro d out h; obtain ⟨k, hk⟩ := lim_some h; exact ⟨k, (q_ref25_Zone_m k d).trans hk⟩)

@[reducible] def pi_ref25_zone : PSh := ⟨[], [.mk false [.v (.sl .str)], .mk false [.v (.sl .bool)]]⟩
@[reducible] def po_ref25_zone : PSh := ⟨[], [.mk false [vI], .mk false [vB], .mk false [vB]]⟩
def f_ref25_zone_m (T : Unit) (d : Unit × (((List ByteArray) × Unit) × (((List Bool) × Unit) × Unit))) : Option (Unit × ((Int × Unit) × ((Bool × Unit) × ((Bool × Unit) × Unit)))) :=
  let x1 : Int := (d.2.1.1.length : Int)
  let x2 : Bool := (x1 == (1 : Int))
  bif x2 then (
  bif decide ((0 : Int) ≤ (0 : Int)) && decide ((0 : Int) < (d.2.1.1.length : Int)) then (
  (g_ref25_Zone ((), (((gd .str d.2.1.1 (0 : Int)), ()), ()))).bind fun x3 =>
  some ((), (x3.2.1, ((true, ()), x3.2.2))))
  else none)
  else (
  let x4 : Int := (d.2.1.1.length : Int)
  let x5 : Bool := (x4 != (2 : Int))
  bif x5 then (
  some ((), (((0 : Int), ()), ((false, ()), ((false, ()), ())))))
  else (
  bif decide ((0 : Int) ≤ (0 : Int)) && decide ((0 : Int) < (d.2.1.1.length : Int)) then (
  let x6 : Bool := (!((gd .str d.2.1.1 (0 : Int)).toList == (⟨#[43]⟩ : ByteArray).toList))
  bif x6 then (
  bif decide ((0 : Int) ≤ (0 : Int)) && decide ((0 : Int) < (d.2.1.1.length : Int)) then (
  let x7 : Bool := (!((gd .str d.2.1.1 (0 : Int)).toList == (⟨#[45]⟩ : ByteArray).toList))
  bif x7 then (
  some ((), (((0 : Int), ()), ((false, ()), ((false, ()), ())))))
  else (
  bif decide ((0 : Int) ≤ (1 : Int)) && decide ((1 : Int) < (d.2.2.1.1.length : Int)) then (
  bif (gd .bool d.2.2.1.1 (1 : Int)) then (
  some ((), (((0 : Int), ()), ((false, ()), ((false, ()), ())))))
  else (
  bif decide ((0 : Int) ≤ (1 : Int)) && decide ((1 : Int) < (d.2.1.1.length : Int)) then (
  (g_ref25_figures ((), (((gd .str d.2.1.1 (1 : Int)), ()), (((4 : Int), ()), (((4 : Int), ()), ()))))).bind fun x8 =>
  let x9 : Bool := (!x8.2.1.1)
  bif x9 then (
  some ((), (((0 : Int), ()), ((false, ()), ((false, ()), ())))))
  else (
  bif decide ((0 : Int) ≤ (1 : Int)) && decide ((1 : Int) < (d.2.1.1.length : Int)) then (
  bif decide ((0 : Int) ≤ (0 : Int)) && decide ((2 : Int) ≤ ((gd .str d.2.1.1 (1 : Int)).size : Int)) then (
  let x10 : ByteArray := ((gd .str d.2.1.1 (1 : Int)).extract (Int.toNat (0 : Int)) (Int.toNat (2 : Int)))
  (g_ref25_number ((), ((x10, ()), ()))).bind fun x11 =>
  bif decide ((0 : Int) ≤ (1 : Int)) && decide ((1 : Int) < (d.2.1.1.length : Int)) then (
  bif decide ((2 : Int) ≤ ((gd .str d.2.1.1 (1 : Int)).size : Int)) && decide (((gd .str d.2.1.1 (1 : Int)).size : Int) ≤ ((gd .str d.2.1.1 (1 : Int)).size : Int)) then (
  let x12 : ByteArray := ((gd .str d.2.1.1 (1 : Int)).extract (Int.toNat (2 : Int)) (Int.toNat ((gd .str d.2.1.1 (1 : Int)).size : Int)))
  (g_ref25_number ((), ((x12, ()), ()))).bind fun x13 =>
  let x14 : Int := (imul .i64 x11.2.1.1 (60 : Int))
  let x15 : Int := (iadd .i64 x14 x13.2.1.1)
  bif decide ((0 : Int) ≤ (0 : Int)) && decide ((0 : Int) < (d.2.1.1.length : Int)) then (
  let x16 : Bool := ((gd .str d.2.1.1 (0 : Int)).toList == (⟨#[45]⟩ : ByteArray).toList)
  bif x16 then (
  let x17 : Int := (isub .i64 (0 : Int) x15)
  let x18 : Bool := (decide (x11.2.1.1 ≤ (23 : Int)))
  bif x18 then (
  let x19 : Bool := (decide (x13.2.1.1 ≤ (59 : Int)))
  some ((), ((x17, ()), ((x19, ()), ((true, ()), ())))))
  else (
  some ((), ((x17, ()), ((false, ()), ((true, ()), ()))))))
  else (
  let x20 : Bool := (decide (x11.2.1.1 ≤ (23 : Int)))
  bif x20 then (
  let x21 : Bool := (decide (x13.2.1.1 ≤ (59 : Int)))
  some ((), ((x15, ()), ((x21, ()), ((true, ()), ())))))
  else (
  some ((), ((x15, ()), ((false, ()), ((true, ()), ())))))))
  else none)
  else none)
  else none)
  else none)
  else none))
  else none))
  else none))
  else none)
  else (
  bif decide ((0 : Int) ≤ (1 : Int)) && decide ((1 : Int) < (d.2.2.1.1.length : Int)) then (
  bif (gd .bool d.2.2.1.1 (1 : Int)) then (
  some ((), (((0 : Int), ()), ((false, ()), ((false, ()), ())))))
  else (
  bif decide ((0 : Int) ≤ (1 : Int)) && decide ((1 : Int) < (d.2.1.1.length : Int)) then (
  (g_ref25_figures ((), (((gd .str d.2.1.1 (1 : Int)), ()), (((4 : Int), ()), (((4 : Int), ()), ()))))).bind fun x22 =>
  let x23 : Bool := (!x22.2.1.1)
  bif x23 then (
  some ((), (((0 : Int), ()), ((false, ()), ((false, ()), ())))))
  else (
  bif decide ((0 : Int) ≤ (1 : Int)) && decide ((1 : Int) < (d.2.1.1.length : Int)) then (
  bif decide ((0 : Int) ≤ (0 : Int)) && decide ((2 : Int) ≤ ((gd .str d.2.1.1 (1 : Int)).size : Int)) then (
  let x24 : ByteArray := ((gd .str d.2.1.1 (1 : Int)).extract (Int.toNat (0 : Int)) (Int.toNat (2 : Int)))
  (g_ref25_number ((), ((x24, ()), ()))).bind fun x25 =>
  bif decide ((0 : Int) ≤ (1 : Int)) && decide ((1 : Int) < (d.2.1.1.length : Int)) then (
  bif decide ((2 : Int) ≤ ((gd .str d.2.1.1 (1 : Int)).size : Int)) && decide (((gd .str d.2.1.1 (1 : Int)).size : Int) ≤ ((gd .str d.2.1.1 (1 : Int)).size : Int)) then (
  let x26 : ByteArray := ((gd .str d.2.1.1 (1 : Int)).extract (Int.toNat (2 : Int)) (Int.toNat ((gd .str d.2.1.1 (1 : Int)).size : Int)))
  (g_ref25_number ((), ((x26, ()), ()))).bind fun x27 =>
  let x28 : Int := (imul .i64 x25.2.1.1 (60 : Int))
  let x29 : Int := (iadd .i64 x28 x27.2.1.1)
  bif decide ((0 : Int) ≤ (0 : Int)) && decide ((0 : Int) < (d.2.1.1.length : Int)) then (
  let x30 : Bool := ((gd .str d.2.1.1 (0 : Int)).toList == (⟨#[45]⟩ : ByteArray).toList)
  bif x30 then (
  let x31 : Int := (isub .i64 (0 : Int) x29)
  let x32 : Bool := (decide (x25.2.1.1 ≤ (23 : Int)))
  bif x32 then (
  let x33 : Bool := (decide (x27.2.1.1 ≤ (59 : Int)))
  some ((), ((x31, ()), ((x33, ()), ((true, ()), ())))))
  else (
  some ((), ((x31, ()), ((false, ()), ((true, ()), ()))))))
  else (
  let x34 : Bool := (decide (x25.2.1.1 ≤ (23 : Int)))
  bif x34 then (
  let x35 : Bool := (decide (x27.2.1.1 ≤ (59 : Int)))
  some ((), ((x29, ()), ((x35, ()), ((true, ()), ())))))
  else (
  some ((), ((x29, ()), ((false, ()), ((true, ()), ())))))))
  else none)
  else none)
  else none)
  else none)
  else none))
  else none))
  else none))
  else none))
def g_ref25_zone (d : Unit × (((List ByteArray) × Unit) × (((List Bool) × Unit) × Unit))) : Option (Unit × ((Int × Unit) × ((Bool × Unit) × ((Bool × Unit) × Unit)))) := f_ref25_zone_m () d
theorem ok_ref25_zone : FnOk Tryz.prog ET0 57 pi_ref25_zone po_ref25_zone g_ref25_zone :=
  fn0 (E := (((E0.add 55 (typedSem pi_ref25_figures po_ref25_figures g_ref25_figures)).add 56 (typedSem pi_ref25_number po_ref25_number g_ref25_number)).add 136 (typedSem pi_ref25_Zone po_ref25_Zone g_ref25_Zone))) (envOk_add (envOk_add (envOk_add e0_ok (typed_ok ok_ref25_figures)) (typed_ok ok_ref25_number)) (typed_ok ok_ref25_Zone)) (fn := Tryz.f57) Tryz.func57 (by kernel_rfl) (by kernel_rfl) [.tmp 4, .tmp 5, .tmp 6] (by kernel_rfl) rfl rfl rfl [] fun d => by kernel_rfl

@[reducible] def pi_ref05_Leap : PSh := ⟨[], [.mk false [vI]]⟩
@[reducible] def po_ref05_Leap : PSh := ⟨[], [.mk false [vB]]⟩
def f_ref05_Leap_m (T : Unit) (d : Unit × ((Int × Unit) × Unit)) : Option (Unit × ((Bool × Unit) × Unit)) :=
  let x1 : Int := (Int.tmod d.2.1.1 (400 : Int))
  let x2 : Bool := (x1 == (0 : Int))
  bif x2 then (
  some ((), ((true, ()), ())))
  else (
  let x3 : Int := (Int.tmod d.2.1.1 (4 : Int))
  let x4 : Bool := (x3 == (0 : Int))
  bif x4 then (
  let x5 : Int := (Int.tmod d.2.1.1 (100 : Int))
  let x6 : Bool := (x5 != (0 : Int))
  some ((), ((x6, ()), ())))
  else (
  some ((), ((false, ()), ()))))
def g_ref05_Leap (d : Unit × ((Int × Unit) × Unit)) : Option (Unit × ((Bool × Unit) × Unit)) := f_ref05_Leap_m () d
theorem ok_ref05_Leap : FnOk Tryz.prog ET0 196 pi_ref05_Leap po_ref05_Leap g_ref05_Leap :=
  fn0 (E := E0) e0_ok (fn := Tryz.f196) Tryz.func196 (by kernel_rfl) (by kernel_rfl) [.tmp 2] (by kernel_rfl) rfl rfl rfl [] fun d => by kernel_rfl

@[reducible] def pi_ref05_Days : PSh := ⟨[], [.mk false [vI]]⟩
@[reducible] def po_ref05_Days : PSh := ⟨[], [.mk false [vI]]⟩
def f_ref05_Days_m (T : Unit) (d : Unit × ((Int × Unit) × Unit)) : Option (Unit × ((Int × Unit) × Unit)) :=
  (g_ref05_Leap ((), d.2)).bind fun x1 =>
  bif x1.2.1.1 then (
  some ((), (((366 : Int), ()), ())))
  else (
  some ((), (((365 : Int), ()), ())))
def g_ref05_Days (d : Unit × ((Int × Unit) × Unit)) : Option (Unit × ((Int × Unit) × Unit)) := f_ref05_Days_m () d
theorem ok_ref05_Days : FnOk Tryz.prog ET0 140 pi_ref05_Days po_ref05_Days g_ref05_Days :=
  fn0 (E := (E0.add 196 (typedSem pi_ref05_Leap po_ref05_Leap g_ref05_Leap))) (envOk_add e0_ok (typed_ok ok_ref05_Leap)) (fn := Tryz.f140) Tryz.func140 (by kernel_rfl) (by kernel_rfl) [.tmp 2] (by kernel_rfl) rfl rfl rfl [] fun d => by kernel_rfl

@[reducible] def pi_ref05_Start : PSh := ⟨[], [.mk false [vI]]⟩
@[reducible] def po_ref05_Start : PSh := ⟨[], [.mk false [vI]]⟩
@[reducible] def TT_ref05_Start : Type := (((Unit × ((Int × Unit) × ((Int × Unit) × Unit))) → Option (Unit × ((Int × Unit) × Unit))) × (((Unit × ((Int × Unit) × ((Int × Unit) × Unit))) → Option (Unit × ((Int × Unit) × Unit))) × (((Unit × ((Int × Unit) × ((Int × Unit) × ((Int × Unit) × Unit)))) → Option (Unit × ((Int × Unit) × Unit))) × Unit)))
@[reducible] def sh_ref05_Start_3 : PSh := ⟨[], [.mk false [vI], .any, .any, .mk false [vI], .any, .any, .any, .any, .any, .any, .any, .any, .any, .any, .any, .any, .any, .any, .any, .any, .any, .any, .any, .any, .any, .any, .any]⟩
@[reducible] def sh_ref05_Start_8 : PSh := ⟨[], [.mk false [vI], .any, .any, .mk false [vI], .any, .any, .any, .any, .any, .any, .any, .any, .any, .any, .any, .any, .any, .any, .any, .any, .any, .any, .any, .any, .any, .any, .any]⟩
@[reducible] def sh_ref05_Start_14 : PSh := ⟨[], [.mk false [vI], .any, .any, .mk false [vI], .mk false [vI], .any, .any, .any, .any, .any, .any, .any, .any, .any, .any, .any, .any, .any, .any, .any, .any, .any, .any, .any, .any, .any, .any]⟩
def f_ref05_Start_p3 (T : TT_ref05_Start) (d : Unit × ((Int × Unit) × ((Int × Unit) × Unit))) : Option (Unit × ((Int × Unit) × Unit)) :=
  let x1 : Bool := (decide (d.2.1.1 < (1970 : Int)))
  bif x1 then (
  let x2 : Int := (iadd .i64 d.2.1.1 (400 : Int))
  let x3 : Int := (isub .i64 d.2.2.1.1 (146097 : Int))
  (T.1 ((), ((x2, ()), ((x3, ()), ())))))
  else (
  (T.2.1 ((), d.2)))
def f_ref05_Start_p8 (T : TT_ref05_Start) (d : Unit × ((Int × Unit) × ((Int × Unit) × Unit))) : Option (Unit × ((Int × Unit) × Unit)) :=
  let x4 : Bool := (decide (d.2.1.1 ≥ (2370 : Int)))
  bif x4 then (
  let x5 : Int := (isub .i64 d.2.1.1 (400 : Int))
  let x6 : Int := (iadd .i64 d.2.2.1.1 (146097 : Int))
  (T.2.1 ((), ((x5, ()), ((x6, ()), ())))))
  else (
  (T.2.2.1 ((), (d.2.1, (d.2.2.1, (((1970 : Int), ()), ()))))))
def f_ref05_Start_p14 (T : TT_ref05_Start) (d : Unit × ((Int × Unit) × ((Int × Unit) × ((Int × Unit) × Unit)))) : Option (Unit × ((Int × Unit) × Unit)) :=
  let x7 : Bool := (decide (d.2.2.2.1.1 < d.2.1.1))
  bif x7 then (
  (g_ref05_Days ((), d.2.2.2)).bind fun x8 =>
  let x9 : Int := (iadd .i64 d.2.2.1.1 x8.2.1.1)
  let x10 : Int := (iadd .i64 d.2.2.2.1.1 (1 : Int))
  (T.2.2.1 ((), (d.2.1, ((x9, ()), ((x10, ()), ()))))))
  else (
  some ((), (d.2.2.1, ())))
def f_ref05_Start_t : Nat → TT_ref05_Start
  | 0 => (fun _ => none, (fun _ => none, (fun _ => none, ())))
  | k + 1 => (f_ref05_Start_p3 (f_ref05_Start_t k), (f_ref05_Start_p8 (f_ref05_Start_t k), (f_ref05_Start_p14 (f_ref05_Start_t k), ())))
theorem t_ref05_Start (k : Nat) : f_ref05_Start_t (k + 1) = (f_ref05_Start_p3 (f_ref05_Start_t k), (f_ref05_Start_p8 (f_ref05_Start_t k), (f_ref05_Start_p14 (f_ref05_Start_t k), ()))) := rfl
def f_ref05_Start_m (T : TT_ref05_Start) (d : Unit × ((Int × Unit) × Unit)) : Option (Unit × ((Int × Unit) × Unit)) :=
  (T.1 ((), (d.2.1, (((0 : Int), ()), ()))))
def c_ref05_Start : List Nat := []
def L_ref05_Start (k : Nat) : Pts po_ref05_Start.den := [(3, ⟨sh_ref05_Start_3, (f_ref05_Start_t k).1⟩), (8, ⟨sh_ref05_Start_8, (f_ref05_Start_t k).2.1⟩), (14, ⟨sh_ref05_Start_14, (f_ref05_Start_t k).2.2.1⟩)]
def R_ref05_Start (_ : Nat) : PtsR po_ref05_Start.den := []
def E_ref05_Start : Env := (E0.add 140 (typedSem pi_ref05_Days po_ref05_Days g_ref05_Days))
theorem q_ref05_Start_3 (k : Nat) (d : sh_ref05_Start_3.den) : evAt E_ref05_Start (tb (L_ref05_Start k) (R_ref05_Start k)) c_ref05_Start 3 (bodyOf Tryz.f62) 0 (finK E_ref05_Start po_ref05_Start [.tmp 2]) (ptSt sh_ref05_Start_3 d) = f_ref05_Start_p3 (f_ref05_Start_t k) d := by kernel_rfl
theorem q_ref05_Start_8 (k : Nat) (d : sh_ref05_Start_8.den) : evAt E_ref05_Start (tb (L_ref05_Start k) (R_ref05_Start k)) c_ref05_Start 8 (bodyOf Tryz.f62) 0 (finK E_ref05_Start po_ref05_Start [.tmp 2]) (ptSt sh_ref05_Start_8 d) = f_ref05_Start_p8 (f_ref05_Start_t k) d := by kernel_rfl
theorem q_ref05_Start_14 (k : Nat) (d : sh_ref05_Start_14.den) : evAt E_ref05_Start (tb (L_ref05_Start k) (R_ref05_Start k)) c_ref05_Start 14 (bodyOf Tryz.f62) 0 (finK E_ref05_Start po_ref05_Start [.tmp 2]) (ptSt sh_ref05_Start_14 d) = f_ref05_Start_p14 (f_ref05_Start_t k) d := by kernel_rfl
theorem q_ref05_Start_m (k : Nat) (d : pi_ref05_Start.den) : evCode E_ref05_Start (tb (L_ref05_Start k) (R_ref05_Start k)) c_ref05_Start (bodyOf Tryz.f62) 0 (finK E_ref05_Start po_ref05_Start [.tmp 2]) (startSt pi_ref05_Start 27 d) = f_ref05_Start_m (f_ref05_Start_t k) d := by kernel_rfl
def g_ref05_Start (d : Unit × ((Int × Unit) × Unit)) : Option (Unit × ((Int × Unit) × Unit)) := lim fun k => f_ref05_Start_m (f_ref05_Start_t k) d
theorem ok_ref05_Start : FnOk Tryz.prog ET0 62 pi_ref05_Start po_ref05_Start g_ref05_Start :=
  fn_of_body (E := E_ref05_Start) (envOk_add e0_ok (typed_ok ok_ref05_Days)) (fn := Tryz.f62) Tryz.func62 (by kernel_rfl) (by kernel_rfl) [.tmp 2] (by kernel_rfl) (by kernel_rfl) (by decide) rfl c_ref05_Start L_ref05_Start R_ref05_Start
    (by intro x hx d; simp only [L_ref05_Start, List.mem_cons, List.not_mem_nil, or_false] at hx; rcases hx with rfl | rfl | rfl; rfl; rfl; rfl)
    (by intro k x hx d out h; simp only [L_ref05_Start, List.mem_cons, List.not_mem_nil, or_false] at hx; rcases hx with rfl | rfl | rfl; exact (q_ref05_Start_3 k d).trans h; exact (q_ref05_Start_8 k d).trans h; exact (q_ref05_Start_14 k d).trans h)
    (by intro x hx; cases hx)
    (by intro k x hx; cases hx)
    (by intro d out h; obtain ⟨k, hk⟩ := lim_some h; exact ⟨k, (q_ref05_Start_m k d).trans hk⟩)

@[reducible] def pi_ref05_Month : PSh := ⟨[], [.mk false [vI], .mk false [vI]]⟩
@[reducible] def po_ref05_Month : PSh := ⟨[], [.mk false [vI]]⟩
def f_ref05_Month_m (T : Unit) (d : Unit × ((Int × Unit) × ((Int × Unit) × Unit))) : Option (Unit × ((Int × Unit) × Unit)) :=
  let x1 : (List Int) := ([(31 : Int), (28 : Int), (31 : Int), (30 : Int), (31 : Int), (30 : Int), (31 : Int), (31 : Int), (30 : Int), (31 : Int), (30 : Int), (31 : Int)] : List Int)
  let x2 : Bool := (d.2.2.1.1 == (2 : Int))
  bif x2 then (
  (g_ref05_Leap ((), (d.2.1, ()))).bind fun x3 =>
  bif x3.2.1.1 then (
  some ((), (((29 : Int), ()), ())))
  else (
  let x4 : Int := (isub .i64 d.2.2.1.1 (1 : Int))
  bif decide ((0 : Int) ≤ x4) && decide (x4 < (x1.length : Int)) then (
  some ((), (((gd (.int .i64) x1 x4), ()), ())))
  else none))
  else (
  let x5 : Int := (isub .i64 d.2.2.1.1 (1 : Int))
  bif decide ((0 : Int) ≤ x5) && decide (x5 < (x1.length : Int)) then (
  some ((), (((gd (.int .i64) x1 x5), ()), ())))
  else none)
def g_ref05_Month (d : Unit × ((Int × Unit) × ((Int × Unit) × Unit))) : Option (Unit × ((Int × Unit) × Unit)) := f_ref05_Month_m () d
theorem ok_ref05_Month : FnOk Tryz.prog ET0 139 pi_ref05_Month po_ref05_Month g_ref05_Month :=
  fn0 (E := (E0.add 196 (typedSem pi_ref05_Leap po_ref05_Leap g_ref05_Leap))) (envOk_add e0_ok (typed_ok ok_ref05_Leap)) (fn := Tryz.f139) Tryz.func139 (by kernel_rfl) (by kernel_rfl) [.tmp 4] (by kernel_rfl) rfl rfl rfl [] fun d => by kernel_rfl

@[reducible] def pi_ref05_Of : PSh := ⟨[], [.mk false [vI], .mk false [vI], .mk false [vI]]⟩
@[reducible] def po_ref05_Of : PSh := ⟨[], [.mk false [vI]]⟩
@[reducible] def TT_ref05_Of : Type := (((Unit × ((Int × Unit) × ((Int × Unit) × ((Int × Unit) × ((Int × Unit) × Unit))))) → Option (Unit × ((Int × Unit) × Unit))) × Unit)
@[reducible] def sh_ref05_Of_4 : PSh := ⟨[], [.mk false [vI], .mk false [vI], .any, .any, .any, .any, .any, .mk false [vI], .mk false [vI], .any, .any, .any, .any, .any, .any, .any, .any, .any, .any, .any, .any, .any, .any, .any, .any]⟩
def f_ref05_Of_p4 (T : TT_ref05_Of) (d : Unit × ((Int × Unit) × ((Int × Unit) × ((Int × Unit) × ((Int × Unit) × Unit))))) : Option (Unit × ((Int × Unit) × Unit)) :=
  let x4 : Bool := (decide (d.2.2.2.2.1.1 < d.2.2.1.1))
  bif x4 then (
  (g_ref05_Month ((), (d.2.1, d.2.2.2.2))).bind fun x5 =>
  let x6 : Int := (iadd .i64 d.2.2.2.1.1 x5.2.1.1)
  let x7 : Int := (iadd .i64 d.2.2.2.2.1.1 (1 : Int))
  (T.1 ((), (d.2.1, (d.2.2.1, ((x6, ()), ((x7, ()), ())))))))
  else (
  some ((), (d.2.2.2.1, ())))
def f_ref05_Of_t : Nat → TT_ref05_Of
  | 0 => (fun _ => none, ())
  | k + 1 => (f_ref05_Of_p4 (f_ref05_Of_t k), ())
theorem t_ref05_Of (k : Nat) : f_ref05_Of_t (k + 1) = (f_ref05_Of_p4 (f_ref05_Of_t k), ()) := rfl
def f_ref05_Of_m (T : TT_ref05_Of) (d : Unit × ((Int × Unit) × ((Int × Unit) × ((Int × Unit) × Unit)))) : Option (Unit × ((Int × Unit) × Unit)) :=
  (g_ref05_Start ((), (d.2.1, ()))).bind fun x1 =>
  let x2 : Int := (iadd .i64 x1.2.1.1 d.2.2.2.1.1)
  let x3 : Int := (isub .i64 x2 (1 : Int))
  (T.1 ((), (d.2.1, (d.2.2.1, ((x3, ()), (((1 : Int), ()), ()))))))
def c_ref05_Of : List Nat := []
def L_ref05_Of (k : Nat) : Pts po_ref05_Of.den := [(4, ⟨sh_ref05_Of_4, (f_ref05_Of_t k).1⟩)]
def R_ref05_Of (_ : Nat) : PtsR po_ref05_Of.den := []
def E_ref05_Of : Env := ((E0.add 62 (typedSem pi_ref05_Start po_ref05_Start g_ref05_Start)).add 139 (typedSem pi_ref05_Month po_ref05_Month g_ref05_Month))
theorem q_ref05_Of_4 (k : Nat) (d : sh_ref05_Of_4.den) : evAt E_ref05_Of (tb (L_ref05_Of k) (R_ref05_Of k)) c_ref05_Of 4 (bodyOf Tryz.f60) 0 (finK E_ref05_Of po_ref05_Of [.tmp 6]) (ptSt sh_ref05_Of_4 d) = f_ref05_Of_p4 (f_ref05_Of_t k) d := by kernel_rfl
theorem q_ref05_Of_m (k : Nat) (d : pi_ref05_Of.den) : evCode E_ref05_Of (tb (L_ref05_Of k) (R_ref05_Of k)) c_ref05_Of (bodyOf Tryz.f60) 0 (finK E_ref05_Of po_ref05_Of [.tmp 6]) (startSt pi_ref05_Of 25 d) = f_ref05_Of_m (f_ref05_Of_t k) d := by kernel_rfl
def g_ref05_Of (d : Unit × ((Int × Unit) × ((Int × Unit) × ((Int × Unit) × Unit)))) : Option (Unit × ((Int × Unit) × Unit)) := lim fun k => f_ref05_Of_m (f_ref05_Of_t k) d
theorem ok_ref05_Of : FnOk Tryz.prog ET0 60 pi_ref05_Of po_ref05_Of g_ref05_Of :=
  fn_of_body (E := E_ref05_Of) (envOk_add (envOk_add e0_ok (typed_ok ok_ref05_Start)) (typed_ok ok_ref05_Month)) (fn := Tryz.f60) Tryz.func60 (by kernel_rfl) (by kernel_rfl) [.tmp 6] (by kernel_rfl) (by kernel_rfl) (by decide) rfl c_ref05_Of L_ref05_Of R_ref05_Of
    (by intro x hx d; simp only [L_ref05_Of, List.mem_cons, List.not_mem_nil, or_false] at hx; subst hx; rfl)
    (by intro k x hx d out h; simp only [L_ref05_Of, List.mem_cons, List.not_mem_nil, or_false] at hx; subst hx; exact (q_ref05_Of_4 k d).trans h)
    (by intro x hx; cases hx)
    (by intro k x hx; cases hx)
    (by intro d out h; obtain ⟨k, hk⟩ := lim_some h; exact ⟨k, (q_ref05_Of_m k d).trans hk⟩)

@[reducible] def pi_ref08_Moment : PSh := ⟨[], [.mk true [vI, vI, vI, vI, vI, vI, vI, vI]]⟩
@[reducible] def po_ref08_Moment : PSh := ⟨[], [.mk false [vI], .mk false [vI]]⟩
@[reducible] def TT_ref08_Moment : Type := (((Unit × ((Int × Unit) × ((Int × Unit) × Unit))) → Option (Unit × ((Int × Unit) × ((Int × Unit) × Unit)))) × (((Unit × ((Int × Unit) × ((Int × Unit) × Unit))) → Option (Unit × ((Int × Unit) × ((Int × Unit) × Unit)))) × Unit))
@[reducible] def sh_ref08_Moment_4 : PSh := ⟨[], [.any, .any, .any, .any, .mk false [vI], .mk false [vI], .any, .any, .any, .any, .any, .any, .any, .any, .any, .any, .any, .any, .any, .any, .any, .any, .any, .any, .any, .any, .any, .any, .any, .any, .any, .any, .any, .any, .any, .any]⟩
@[reducible] def sh_ref08_Moment_9 : PSh := ⟨[], [.any, .any, .any, .any, .mk false [vI], .mk false [vI], .any, .any, .any, .any, .any, .any, .any, .any, .any, .any, .any, .any, .any, .any, .any, .any, .any, .any, .any, .any, .any, .any, .any, .any, .any, .any, .any, .any, .any, .any]⟩
def f_ref08_Moment_p4 (T : TT_ref08_Moment) (d : Unit × ((Int × Unit) × ((Int × Unit) × Unit))) : Option (Unit × ((Int × Unit) × ((Int × Unit) × Unit))) :=
  let x5 : Bool := (decide (d.2.2.1.1 < (0 : Int)))
  bif x5 then (
  let x6 : Int := (iadd .i64 d.2.2.1.1 (1440 : Int))
  let x7 : Int := (isub .i64 d.2.1.1 (1 : Int))
  (T.1 ((), ((x7, ()), ((x6, ()), ())))))
  else (
  (T.2.1 ((), d.2)))
def f_ref08_Moment_p9 (T : TT_ref08_Moment) (d : Unit × ((Int × Unit) × ((Int × Unit) × Unit))) : Option (Unit × ((Int × Unit) × ((Int × Unit) × Unit))) :=
  let x8 : Bool := (decide (d.2.2.1.1 ≥ (1440 : Int)))
  bif x8 then (
  let x9 : Int := (isub .i64 d.2.2.1.1 (1440 : Int))
  let x10 : Int := (iadd .i64 d.2.1.1 (1 : Int))
  (T.2.1 ((), ((x10, ()), ((x9, ()), ())))))
  else (
  some ((), d.2))
def f_ref08_Moment_t : Nat → TT_ref08_Moment
  | 0 => (fun _ => none, (fun _ => none, ()))
  | k + 1 => (f_ref08_Moment_p4 (f_ref08_Moment_t k), (f_ref08_Moment_p9 (f_ref08_Moment_t k), ()))
theorem t_ref08_Moment (k : Nat) : f_ref08_Moment_t (k + 1) = (f_ref08_Moment_p4 (f_ref08_Moment_t k), (f_ref08_Moment_p9 (f_ref08_Moment_t k), ())) := rfl
def f_ref08_Moment_m (T : TT_ref08_Moment) (d : Unit × ((Int × (Int × (Int × (Int × (Int × (Int × (Int × (Int × Unit)))))))) × Unit)) : Option (Unit × ((Int × Unit) × ((Int × Unit) × Unit))) :=
  (g_ref05_Of ((), ((d.2.1.1, ()), ((d.2.1.2.1, ()), ((d.2.1.2.2.1, ()), ()))))).bind fun x1 =>
  let x2 : Int := (imul .i64 d.2.1.2.2.2.1 (60 : Int))
  let x3 : Int := (iadd .i64 x2 d.2.1.2.2.2.2.1)
  let x4 : Int := (isub .i64 x3 d.2.1.2.2.2.2.2.2.2.1)
  (T.1 ((), (x1.2.1, ((x4, ()), ()))))
def c_ref08_Moment : List Nat := []
def L_ref08_Moment (k : Nat) : Pts po_ref08_Moment.den := [(4, ⟨sh_ref08_Moment_4, (f_ref08_Moment_t k).1⟩), (9, ⟨sh_ref08_Moment_9, (f_ref08_Moment_t k).2.1⟩)]
def R_ref08_Moment (_ : Nat) : PtsR po_ref08_Moment.den := []
def E_ref08_Moment : Env := (E0.add 60 (typedSem pi_ref05_Of po_ref05_Of g_ref05_Of))
theorem q_ref08_Moment_4 (k : Nat) (d : sh_ref08_Moment_4.den) : evAt E_ref08_Moment (tb (L_ref08_Moment k) (R_ref08_Moment k)) c_ref08_Moment 4 (bodyOf Tryz.f65) 0 (finK E_ref08_Moment po_ref08_Moment [.tmp 2, .tmp 3]) (ptSt sh_ref08_Moment_4 d) = f_ref08_Moment_p4 (f_ref08_Moment_t k) d := by kernel_rfl
theorem q_ref08_Moment_9 (k : Nat) (d : sh_ref08_Moment_9.den) : evAt E_ref08_Moment (tb (L_ref08_Moment k) (R_ref08_Moment k)) c_ref08_Moment 9 (bodyOf Tryz.f65) 0 (finK E_ref08_Moment po_ref08_Moment [.tmp 2, .tmp 3]) (ptSt sh_ref08_Moment_9 d) = f_ref08_Moment_p9 (f_ref08_Moment_t k) d := by kernel_rfl
theorem q_ref08_Moment_m (k : Nat) (d : pi_ref08_Moment.den) : evCode E_ref08_Moment (tb (L_ref08_Moment k) (R_ref08_Moment k)) c_ref08_Moment (bodyOf Tryz.f65) 0 (finK E_ref08_Moment po_ref08_Moment [.tmp 2, .tmp 3]) (startSt pi_ref08_Moment 36 d) = f_ref08_Moment_m (f_ref08_Moment_t k) d := by kernel_rfl
def g_ref08_Moment (d : Unit × ((Int × (Int × (Int × (Int × (Int × (Int × (Int × (Int × Unit)))))))) × Unit)) : Option (Unit × ((Int × Unit) × ((Int × Unit) × Unit))) := lim fun k => f_ref08_Moment_m (f_ref08_Moment_t k) d
theorem ok_ref08_Moment : FnOk Tryz.prog ET0 65 pi_ref08_Moment po_ref08_Moment g_ref08_Moment :=
  fn_of_body (E := E_ref08_Moment) (envOk_add e0_ok (typed_ok ok_ref05_Of)) (fn := Tryz.f65) Tryz.func65 (by kernel_rfl) (by kernel_rfl) [.tmp 2, .tmp 3] (by kernel_rfl) (by kernel_rfl) (by decide) rfl c_ref08_Moment L_ref08_Moment R_ref08_Moment
    (by intro x hx d; simp only [L_ref08_Moment, List.mem_cons, List.not_mem_nil, or_false] at hx; rcases hx with rfl | rfl; rfl; rfl)
    (by intro k x hx d out h; simp only [L_ref08_Moment, List.mem_cons, List.not_mem_nil, or_false] at hx; rcases hx with rfl | rfl; exact (q_ref08_Moment_4 k d).trans h; exact (q_ref08_Moment_9 k d).trans h)
    (by intro x hx; cases hx)
    (by intro k x hx; cases hx)
    (by intro d out h; obtain ⟨k, hk⟩ := lim_some h; exact ⟨k, (q_ref08_Moment_m k d).trans hk⟩)

@[reducible] def pi_ref05_Year : PSh := ⟨[], [.mk false [vI]]⟩
@[reducible] def po_ref05_Year : PSh := ⟨[], [.mk false [vB]]⟩
def f_ref05_Year_m (T : Unit) (d : Unit × ((Int × Unit) × Unit)) : Option (Unit × ((Bool × Unit) × Unit)) :=
  let x1 : Bool := (decide (d.2.1.1 ≥ (-9999 : Int)))
  bif x1 then (
  let x2 : Bool := (decide (d.2.1.1 ≤ (9999 : Int)))
  some ((), ((x2, ()), ())))
  else (
  some ((), ((false, ()), ())))
def g_ref05_Year (d : Unit × ((Int × Unit) × Unit)) : Option (Unit × ((Bool × Unit) × Unit)) := f_ref05_Year_m () d
theorem ok_ref05_Year : FnOk Tryz.prog ET0 194 pi_ref05_Year po_ref05_Year g_ref05_Year :=
  fn0 (E := E0) e0_ok (fn := Tryz.f194) Tryz.func194 (by kernel_rfl) (by kernel_rfl) [.tmp 2] (by kernel_rfl) rfl rfl rfl [] fun d => by kernel_rfl

@[reducible] def pi_ref05_Check : PSh := ⟨[], [.mk false [vI], .mk false [vI], .mk false [vI]]⟩
@[reducible] def po_ref05_Check : PSh := ⟨[], [.mk false [vI]]⟩
def f_ref05_Check_m (T : Unit) (d : Unit × ((Int × Unit) × ((Int × Unit) × ((Int × Unit) × Unit)))) : Option (Unit × ((Int × Unit) × Unit)) :=
  (g_ref05_Year ((), (d.2.1, ()))).bind fun x1 =>
  let x2 : Bool := (!x1.2.1.1)
  bif x2 then (
  some ((), (((13 : Int), ()), ())))
  else (
  let x3 : Bool := (decide (d.2.2.1.1 < (1 : Int)))
  bif x3 then (
  some ((), (((1 : Int), ()), ())))
  else (
  let x4 : Bool := (decide (d.2.2.1.1 > (12 : Int)))
  bif x4 then (
  some ((), (((1 : Int), ()), ())))
  else (
  let x5 : Bool := (decide (d.2.2.2.1.1 < (1 : Int)))
  bif x5 then (
  some ((), (((1 : Int), ()), ())))
  else (
  (g_ref05_Month ((), (d.2.1, (d.2.2.1, ())))).bind fun x6 =>
  let x7 : Bool := (decide (d.2.2.2.1.1 > x6.2.1.1))
  bif x7 then (
  some ((), (((1 : Int), ()), ())))
  else (
  some ((), (((0 : Int), ()), ())))))))
def g_ref05_Check (d : Unit × ((Int × Unit) × ((Int × Unit) × ((Int × Unit) × Unit)))) : Option (Unit × ((Int × Unit) × Unit)) := f_ref05_Check_m () d
theorem ok_ref05_Check : FnOk Tryz.prog ET0 137 pi_ref05_Check po_ref05_Check g_ref05_Check :=
  fn0 (E := ((E0.add 139 (typedSem pi_ref05_Month po_ref05_Month g_ref05_Month)).add 194 (typedSem pi_ref05_Year po_ref05_Year g_ref05_Year))) (envOk_add (envOk_add e0_ok (typed_ok ok_ref05_Month)) (typed_ok ok_ref05_Year)) (fn := Tryz.f137) Tryz.func137 (by kernel_rfl) (by kernel_rfl) [.tmp 6] (by kernel_rfl) rfl rfl rfl [] fun d => by kernel_rfl

@[reducible] def pi_ref05_Last : PSh := ⟨[], []⟩
@[reducible] def po_ref05_Last : PSh := ⟨[], [.mk false [vI]]⟩
def f_ref05_Last_m (T : Unit) (d : Unit × Unit) : Option (Unit × ((Int × Unit) × Unit)) :=
  (g_ref05_Start ((), (((10000 : Int), ()), ()))).bind fun x1 =>
  let x2 : Int := (isub .i64 x1.2.1.1 (1 : Int))
  some ((), ((x2, ()), ()))
def g_ref05_Last (d : Unit × Unit) : Option (Unit × ((Int × Unit) × Unit)) := f_ref05_Last_m () d
theorem ok_ref05_Last : FnOk Tryz.prog ET0 63 pi_ref05_Last po_ref05_Last g_ref05_Last :=
  fn0 (E := (E0.add 62 (typedSem pi_ref05_Start po_ref05_Start g_ref05_Start))) (envOk_add e0_ok (typed_ok ok_ref05_Start)) (fn := Tryz.f63) Tryz.func63 (by kernel_rfl) (by kernel_rfl) [.tmp 0] (by kernel_rfl) rfl rfl rfl [] fun d => by kernel_rfl

@[reducible] def pi_ref05_First : PSh := ⟨[], []⟩
@[reducible] def po_ref05_First : PSh := ⟨[], [.mk false [vI]]⟩
def f_ref05_First_m (T : Unit) (d : Unit × Unit) : Option (Unit × ((Int × Unit) × Unit)) :=
  (g_ref05_Start ((), (((-9999 : Int), ()), ()))).bind fun x1 =>
  some ((), x1.2)
def g_ref05_First (d : Unit × Unit) : Option (Unit × ((Int × Unit) × Unit)) := f_ref05_First_m () d
theorem ok_ref05_First : FnOk Tryz.prog ET0 195 pi_ref05_First po_ref05_First g_ref05_First :=
  fn0 (E := (E0.add 62 (typedSem pi_ref05_Start po_ref05_Start g_ref05_Start))) (envOk_add e0_ok (typed_ok ok_ref05_Start)) (fn := Tryz.f195) Tryz.func195 (by kernel_rfl) (by kernel_rfl) [.tmp 0] (by kernel_rfl) rfl rfl rfl [] fun d => by kernel_rfl

@[reducible] def pi_ref08_There : PSh := ⟨[], [.mk false [vI]]⟩
@[reducible] def po_ref08_There : PSh := ⟨[], [.mk false [vB]]⟩
def f_ref08_There_m (T : Unit) (d : Unit × ((Int × Unit) × Unit)) : Option (Unit × ((Bool × Unit) × Unit)) :=
  (g_ref05_First ((), ())).bind fun x1 =>
  let x2 : Bool := (decide (d.2.1.1 ≥ x1.2.1.1))
  bif x2 then (
  (g_ref05_Last ((), ())).bind fun x3 =>
  let x4 : Bool := (decide (d.2.1.1 ≤ x3.2.1.1))
  some ((), ((x4, ()), ())))
  else (
  some ((), ((false, ()), ())))
def g_ref08_There (d : Unit × ((Int × Unit) × Unit)) : Option (Unit × ((Bool × Unit) × Unit)) := f_ref08_There_m () d
theorem ok_ref08_There : FnOk Tryz.prog ET0 138 pi_ref08_There po_ref08_There g_ref08_There :=
  fn0 (E := ((E0.add 63 (typedSem pi_ref05_Last po_ref05_Last g_ref05_Last)).add 195 (typedSem pi_ref05_First po_ref05_First g_ref05_First))) (envOk_add (envOk_add e0_ok (typed_ok ok_ref05_Last)) (typed_ok ok_ref05_First)) (fn := Tryz.f138) Tryz.func138 (by kernel_rfl) (by kernel_rfl) [.tmp 2] (by kernel_rfl) rfl rfl rfl [] fun d => by kernel_rfl

@[reducible] def pi_ref08_Check : PSh := ⟨[], [.mk true [vI, vI, vI, vI, vI, vI, vI, vI]]⟩
@[reducible] def po_ref08_Check : PSh := ⟨[], [.mk false [vI]]⟩
def f_ref08_Check_m (T : Unit) (d : Unit × ((Int × (Int × (Int × (Int × (Int × (Int × (Int × (Int × Unit)))))))) × Unit)) : Option (Unit × ((Int × Unit) × Unit)) :=
  (g_ref05_Check ((), ((d.2.1.1, ()), ((d.2.1.2.1, ()), ((d.2.1.2.2.1, ()), ()))))).bind fun x1 =>
  let x2 : Bool := (x1.2.1.1 != (0 : Int))
  bif x2 then (
  some ((), x1.2))
  else (
  let x3 : Bool := (decide (d.2.1.2.2.2.1 < (0 : Int)))
  bif x3 then (
  some ((), (((1 : Int), ()), ())))
  else (
  let x4 : Bool := (decide (d.2.1.2.2.2.1 > (23 : Int)))
  bif x4 then (
  some ((), (((1 : Int), ()), ())))
  else (
  let x5 : Bool := (decide (d.2.1.2.2.2.2.1 < (0 : Int)))
  bif x5 then (
  some ((), (((1 : Int), ()), ())))
  else (
  let x6 : Bool := (decide (d.2.1.2.2.2.2.1 > (59 : Int)))
  bif x6 then (
  some ((), (((1 : Int), ()), ())))
  else (
  let x7 : Bool := (decide (d.2.1.2.2.2.2.2.1 < (0 : Int)))
  bif x7 then (
  some ((), (((1 : Int), ()), ())))
  else (
  let x8 : Bool := (decide (d.2.1.2.2.2.2.2.1 > (60 : Int)))
  bif x8 then (
  some ((), (((1 : Int), ()), ())))
  else (
  let x9 : Bool := (decide (d.2.1.2.2.2.2.2.2.1 < (0 : Int)))
  bif x9 then (
  some ((), (((1 : Int), ()), ())))
  else (
  let x10 : Bool := (decide (d.2.1.2.2.2.2.2.2.1 > (999999999 : Int)))
  bif x10 then (
  some ((), (((1 : Int), ()), ())))
  else (
  let x11 : Bool := (decide (d.2.1.2.2.2.2.2.2.2.1 < (-1439 : Int)))
  bif x11 then (
  some ((), (((1 : Int), ()), ())))
  else (
  let x12 : Bool := (decide (d.2.1.2.2.2.2.2.2.2.1 > (1439 : Int)))
  bif x12 then (
  some ((), (((1 : Int), ()), ())))
  else (
  (g_ref08_Moment ((), d.2)).bind fun x13 =>
  (g_ref08_There ((), (x13.2.1, ()))).bind fun x14 =>
  let x15 : Bool := (!x14.2.1.1)
  bif x15 then (
  some ((), (((13 : Int), ()), ())))
  else (
  let x16 : Bool := (d.2.1.2.2.2.2.2.1 == (60 : Int))
  bif x16 then (
  let x17 : Bool := (x13.2.2.1.1 != (1439 : Int))
  bif x17 then (
  some ((), (((12 : Int), ()), ())))
  else (
  some ((), (((0 : Int), ()), ()))))
  else (
  some ((), (((0 : Int), ()), ())))))))))))))))
def g_ref08_Check (d : Unit × ((Int × (Int × (Int × (Int × (Int × (Int × (Int × (Int × Unit)))))))) × Unit)) : Option (Unit × ((Int × Unit) × Unit)) := f_ref08_Check_m () d
theorem ok_ref08_Check : FnOk Tryz.prog ET0 58 pi_ref08_Check po_ref08_Check g_ref08_Check :=
  fn0 (E := (((E0.add 65 (typedSem pi_ref08_Moment po_ref08_Moment g_ref08_Moment)).add 137 (typedSem pi_ref05_Check po_ref05_Check g_ref05_Check)).add 138 (typedSem pi_ref08_There po_ref08_There g_ref08_There))) (envOk_add (envOk_add (envOk_add e0_ok (typed_ok ok_ref08_Moment)) (typed_ok ok_ref05_Check)) (typed_ok ok_ref08_There)) (fn := Tryz.f58) Tryz.func58 (by kernel_rfl) (by kernel_rfl) [.tmp 2] (by kernel_rfl) rfl rfl rfl [] fun d => by kernel_rfl

@[reducible] def pi_ref05_Weekday : PSh := ⟨[], [.mk false [vI]]⟩
@[reducible] def po_ref05_Weekday : PSh := ⟨[], [.mk false [vI]]⟩
def f_ref05_Weekday_m (T : Unit) (d : Unit × ((Int × Unit) × Unit)) : Option (Unit × ((Int × Unit) × Unit)) :=
  let x1 : Int := (Int.tmod d.2.1.1 (7 : Int))
  let x2 : Bool := (decide (x1 < (0 : Int)))
  bif x2 then (
  let x3 : Int := (iadd .i64 x1 (7 : Int))
  let x4 : (List Int) := ([(4 : Int), (5 : Int), (6 : Int), (7 : Int), (1 : Int), (2 : Int), (3 : Int)] : List Int)
  bif decide ((0 : Int) ≤ x3) && decide (x3 < (x4.length : Int)) then (
  some ((), (((gd (.int .i64) x4 x3), ()), ())))
  else none)
  else (
  let x5 : (List Int) := ([(4 : Int), (5 : Int), (6 : Int), (7 : Int), (1 : Int), (2 : Int), (3 : Int)] : List Int)
  bif decide ((0 : Int) ≤ x1) && decide (x1 < (x5.length : Int)) then (
  some ((), (((gd (.int .i64) x5 x1), ()), ())))
  else none)
def g_ref05_Weekday (d : Unit × ((Int × Unit) × Unit)) : Option (Unit × ((Int × Unit) × Unit)) := f_ref05_Weekday_m () d
theorem ok_ref05_Weekday : FnOk Tryz.prog ET0 59 pi_ref05_Weekday po_ref05_Weekday g_ref05_Weekday :=
  fn0 (E := E0) e0_ok (fn := Tryz.f59) Tryz.func59 (by kernel_rfl) (by kernel_rfl) [.tmp 2] (by kernel_rfl) rfl rfl rfl [] fun d => by kernel_rfl
end
end Go.Proofs.YtddnfappkfiidaaGreat.Ev
