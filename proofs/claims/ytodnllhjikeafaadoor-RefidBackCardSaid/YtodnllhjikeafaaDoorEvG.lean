/- Printed by wip/tools/evgen.py. -/
import Derived.Test.YtodnllhjikeafaaDoorEv32
import Derived.Test.YtodnllhjikeafaaDoorShelf
import Derived.Test.YtodnllhjikeafaaDoorEv40
import Derived.Test.YtodnllhjikeafaaDoorEvE
import Derived.Test.YtodnllhjikeafaaDoorProg
import Derived.KernelRfl
set_option maxRecDepth 100000
set_option maxHeartbeats 2000000
set_option linter.unusedVariables false
namespace Go.Proofs.YtodnllhjikeafaaDoor.Ev
open Go
noncomputable section
@[reducible] def vI : LSh := .v (.int .i64)
@[reducible] def vB : LSh := .v .bool
@[reducible] def vS : LSh := .v .str
@[reducible] def vE : LSh := .v .err
@[reducible] def v8 : LSh := .v (.int .u8)
def rows0 : List (TypeId × Row) := [
  (2, ⟨.int .i64, 1, 8, (.int .i64), [AV.val (.int .i64) (0 : Int)], none⟩),
  (3, ⟨.int .i64, 1, 8, (.int .i64), [AV.val (.int .i64) (0 : Int)], none⟩),
  (4, ⟨.bool, 1, 1, .bool, [AV.val .bool false], none⟩),
  (5, ⟨.int .u8, 1, 1, (.int .u8), [AV.val (.int .u8) (0 : Int)], none⟩),
  (9, ⟨.str, 1, 16, .str, [AV.val .str ByteArray.empty], none⟩),
  (23, ⟨.arr 4 5, 4, 4, (.pair (.int .u8) (.pair (.int .u8) (.pair (.int .u8) (.int .u8)))), [AV.val (.int .u8) (0 : Int), AV.val (.int .u8) (0 : Int), AV.val (.int .u8) (0 : Int), AV.val (.int .u8) (0 : Int)], some [.int .u8, .int .u8, .int .u8, .int .u8]⟩),
  (25, ⟨.iface, 1, 16, .err, [AV.val .err (none : Option Int)], none⟩),
  (32, ⟨.int .u32, 1, 4, (.int .u32), [AV.val (.int .u32) (0 : Int)], none⟩),
  (41, ⟨.int .u64, 1, 8, (.int .u64), [AV.val (.int .u64) (0 : Int)], none⟩),
  (43, ⟨.slice 5, 1, 24, (.sl (.int .u8)), [AV.nilS], none⟩),
  (45, ⟨.int .i64, 1, 8, (.int .i64), [AV.val (.int .i64) (0 : Int)], none⟩),
  (47, ⟨.ptr, 1, 8, (.nptr (.pair .str (.pair (.int .i64) .err))), [AV.nilP], none⟩),
  (53, ⟨.slice 9, 1, 24, (.sl .str), [AV.nilS], none⟩),
  (67, ⟨.struct [(0, 1, false), (1, 1, false), (2, 1, false)], 3, 40, (.pair .str (.pair (.int .i64) .err)), [AV.val .str ByteArray.empty, AV.val (.int .i64) (0 : Int), AV.val .err (none : Option Int)], none⟩),
  (84, ⟨.slice 32, 1, 24, (.sl (.int .u32)), [AV.nilS], none⟩)]
def ET0 : TypeId := 45
def E0 : Env := ⟨rows0, [], ET0, 0, [], [], []⟩
theorem e0_ok : EnvOk Tryd.prog E0 := envOk_rows (by kernel_rfl) (by kernel_rfl) 0
/- internal/stringslite.Clone -/
@[reducible] def pi_internal_stringslite_Clone : PSh := pi_lib_clone
@[reducible] def po_internal_stringslite_Clone : PSh := po_lib_clone
def g_internal_stringslite_Clone := lib_clone
theorem ok_internal_stringslite_Clone : FnOk Tryd.prog ET0 75 pi_internal_stringslite_Clone po_internal_stringslite_Clone g_internal_stringslite_Clone := lib_clone_ok ⟨Tryd.f75, Tryd.func75, by kernel_rfl, by kernel_rfl⟩ Tryd.stringslite_Clone
/- strings.IndexByte -/
@[reducible] def pi_strings_IndexByte : PSh := pi_lib_indexByte
@[reducible] def po_strings_IndexByte : PSh := po_lib_indexByte
def g_strings_IndexByte := lib_indexByte
theorem ok_strings_IndexByte : FnOk Tryd.prog ET0 31 pi_strings_IndexByte po_strings_IndexByte g_strings_IndexByte := lib_indexByte_ok ⟨Tryd.f31, Tryd.func31, by kernel_rfl, by kernel_rfl⟩ Tryd.strings_IndexByte
/- strings.TrimRight -/
@[reducible] def pi_strings_TrimRight : PSh := pi_lib_trimRight
@[reducible] def po_strings_TrimRight : PSh := po_lib_trimRight
def g_strings_TrimRight := lib_trimRight
theorem ok_strings_TrimRight : FnOk Tryd.prog ET0 37 pi_strings_TrimRight po_strings_TrimRight g_strings_TrimRight := lib_trimRight_ok ⟨Tryd.f37, Tryd.func37, by kernel_rfl, by kernel_rfl⟩ Tryd.strings_TrimRight_one
/- strings.Index -/
@[reducible] def pi_strings_Index : PSh := pi_lib_index
@[reducible] def po_strings_Index : PSh := po_lib_index
def g_strings_Index := lib_index
theorem ok_strings_Index : FnOk Tryd.prog ET0 74 pi_strings_Index po_strings_Index g_strings_Index := lib_index_ok ⟨Tryd.f74, Tryd.func74, by kernel_rfl, by kernel_rfl⟩ Tryd.strings_Index_one
/- strconv.Itoa -/
@[reducible] def pi_strconv_Itoa : PSh := pi_lib_itoa
@[reducible] def po_strconv_Itoa : PSh := po_lib_itoa
def g_strconv_Itoa := lib_itoa
theorem ok_strconv_Itoa : FnOk Tryd.prog ET0 33 pi_strconv_Itoa po_strconv_Itoa g_strconv_Itoa := lib_itoa_ok ⟨Tryd.f33, Tryd.func33, by kernel_rfl, by kernel_rfl⟩ Tryd.strconv_Itoa tab_pow10
/- strings.Join -/
@[reducible] def pi_strings_Join : PSh := pi_lib_join
@[reducible] def po_strings_Join : PSh := po_lib_join
def g_strings_Join := lib_join
theorem ok_strings_Join : FnOk Tryd.prog ET0 34 pi_strings_Join po_strings_Join g_strings_Join := lib_join_ok ⟨Tryd.f34, Tryd.func34, by kernel_rfl, by kernel_rfl⟩ Tryd.strings_Join_none Tryd.strings_Join

@[reducible] def pi_refid_coded : PSh := ⟨[], [.mk false [v8]]⟩
@[reducible] def po_refid_coded : PSh := ⟨[], [.mk false [vB]]⟩
def f_refid_coded_m (T : Unit) (d : Unit × ((Int × Unit) × Unit)) : Option (Unit × ((Bool × Unit) × Unit)) :=
  let x1 : Bool := (decide (d.2.1.1 ≥ (33 : Int)))
  bif x1 then (
  let x2 : Bool := (decide (d.2.1.1 ≤ (126 : Int)))
  bif x2 then (
  let x3 : Bool := (d.2.1.1 != (46 : Int))
  some ((), ((x3, ()), ())))
  else (
  some ((), ((false, ()), ()))))
  else (
  some ((), ((false, ()), ())))
def g_refid_coded (d : Unit × ((Int × Unit) × Unit)) : Option (Unit × ((Bool × Unit) × Unit)) := f_refid_coded_m () d
theorem ok_refid_coded : FnOk Tryd.prog ET0 25 pi_refid_coded po_refid_coded g_refid_coded :=
  fn0 (E := E0) e0_ok (fn := Tryd.f25) Tryd.func25 (by kernel_rfl) (by kernel_rfl) [.tmp 2] (by kernel_rfl) rfl rfl rfl [] fun d => by kernel_rfl

@[reducible] def pi_refid_Code : PSh := ⟨[], [.mk false [vS]]⟩
@[reducible] def po_refid_Code : PSh := ⟨[], [.mk true [v8, v8, v8, v8], .mk false [vE]]⟩
@[reducible] def TT_refid_Code : Type := (((((Int × (Int × (Int × (Int × Unit)))) × ((Int × (Int × (Int × (Int × Unit)))) × Unit)) × ((ByteArray × Unit) × (Unit × (Unit × ((Int × Unit) × ((Int × Unit) × Unit)))))) → Option (Unit × ((Int × (Int × (Int × (Int × Unit)))) × (((Option Int) × Unit) × Unit)))) × Unit)
@[reducible] def sh_refid_Code_7 : PSh := ⟨[.var 23 [v8, v8, v8, v8], .var 23 [v8, v8, v8, v8]], [.mk false [vS], .any, .mk false [.ref 0 0], .any, .mk false [.ref 1 0], .any, .any, .any, .any, .any, .any, .any, .any, .any, .any, .any, .any, .mk false [vI], .mk false [vI], .any, .any, .any, .any, .any, .any, .any, .any, .any, .any, .any, .any, .any, .any, .any, .any]⟩
def f_refid_Code_p7 (T : TT_refid_Code) (d : ((Int × (Int × (Int × (Int × Unit)))) × ((Int × (Int × (Int × (Int × Unit)))) × Unit)) × ((ByteArray × Unit) × (Unit × (Unit × ((Int × Unit) × ((Int × Unit) × Unit)))))) : Option (Unit × ((Int × (Int × (Int × (Int × Unit)))) × (((Option Int) × Unit) × Unit))) :=
  let x8 : Bool := (decide (d.2.2.2.2.2.1.1 < d.2.2.2.2.1.1))
  bif x8 then (
  bif decide ((0 : Int) ≤ d.2.2.2.2.2.1.1) && decide (d.2.2.2.2.2.1.1 < ((d.2.1.1.size : Int) : Int)) then (
  let x9 : Int := (bt d.2.1.1 d.2.2.2.2.2.1.1)
  (g_refid_coded ((), ((x9, ()), ()))).bind fun x10 =>
  let x11 : Bool := (!x10.2.1.1)
  bif x11 then (
  let x12 : (Option Int) := (some (2 : Int))
  some ((), (((0 : Int), ((0 : Int), ((0 : Int), ((0 : Int), ())))), ((x12, ()), ()))))
  else (
  bif decide ((0 : Int) ≤ d.2.2.2.2.2.1.1) && decide (d.2.2.2.2.2.1.1 < ((d.2.1.1.size : Int) : Int)) then (
  let x13 : Int := (bt d.2.1.1 d.2.2.2.2.2.1.1)
  bif decide ((0 : Int) ≤ d.2.2.2.2.2.1.1) && decide (d.2.2.2.2.2.1.1 < (4 : Int)) then (
  bif decide (d.2.2.2.2.2.1.1 = (0 : Int)) then (
  let x17 : Int := (iadd .i64 d.2.2.2.2.2.1.1 (1 : Int))
  (T.1 ((d.1.1, ((x13, d.1.2.1.2), ())), (d.2.1, ((), ((), (d.2.2.2.2.1, ((x17, ()), ()))))))))
  else (
  bif decide (d.2.2.2.2.2.1.1 = (1 : Int)) then (
  let x16 : Int := (iadd .i64 d.2.2.2.2.2.1.1 (1 : Int))
  (T.1 ((d.1.1, ((d.1.2.1.1, (x13, d.1.2.1.2.2)), ())), (d.2.1, ((), ((), (d.2.2.2.2.1, ((x16, ()), ()))))))))
  else (
  bif decide (d.2.2.2.2.2.1.1 = (2 : Int)) then (
  let x15 : Int := (iadd .i64 d.2.2.2.2.2.1.1 (1 : Int))
  (T.1 ((d.1.1, ((d.1.2.1.1, (d.1.2.1.2.1, (x13, d.1.2.1.2.2.2))), ())), (d.2.1, ((), ((), (d.2.2.2.2.1, ((x15, ()), ()))))))))
  else (
  bif decide (d.2.2.2.2.2.1.1 = (3 : Int)) then (
  let x14 : Int := (iadd .i64 d.2.2.2.2.2.1.1 (1 : Int))
  (T.1 ((d.1.1, ((d.1.2.1.1, (d.1.2.1.2.1, (d.1.2.1.2.2.1, (x13, ())))), ())), (d.2.1, ((), ((), (d.2.2.2.2.1, ((x14, ()), ()))))))))
  else (
  none)))))
  else none)
  else none))
  else none)
  else (
  some ((), (d.1.2.1, (((none : Option Int), ()), ()))))
def f_refid_Code_t : Nat → TT_refid_Code
  | 0 => (fun _ => none, ())
  | k + 1 => (f_refid_Code_p7 (f_refid_Code_t k), ())
theorem t_refid_Code (k : Nat) : f_refid_Code_t (k + 1) = (f_refid_Code_p7 (f_refid_Code_t k), ()) := rfl
def f_refid_Code_m (T : TT_refid_Code) (d : Unit × ((ByteArray × Unit) × Unit)) : Option (Unit × ((Int × (Int × (Int × (Int × Unit)))) × (((Option Int) × Unit) × Unit))) :=
  let x1 : Int := (d.2.1.1.size : Int)
  let x2 : Bool := (decide (x1 < (1 : Int)))
  bif x2 then (
  let x3 : (Option Int) := (some (2 : Int))
  some ((), (((0 : Int), ((0 : Int), ((0 : Int), ((0 : Int), ())))), ((x3, ()), ()))))
  else (
  let x4 : Int := (d.2.1.1.size : Int)
  let x5 : Bool := (decide (x4 > (4 : Int)))
  bif x5 then (
  let x6 : (Option Int) := (some (2 : Int))
  some ((), (((0 : Int), ((0 : Int), ((0 : Int), ((0 : Int), ())))), ((x6, ()), ()))))
  else (
  let x7 : Int := (d.2.1.1.size : Int)
  (T.1 ((((0 : Int), ((0 : Int), ((0 : Int), ((0 : Int), ())))), (((0 : Int), ((0 : Int), ((0 : Int), ((0 : Int), ())))), ())), (d.2.1, ((), ((), ((x7, ()), (((0 : Int), ()), ())))))))))
def c_refid_Code : List Nat := []
def L_refid_Code (k : Nat) : Pts po_refid_Code.den := [(7, ⟨sh_refid_Code_7, (f_refid_Code_t k).1⟩)]
def R_refid_Code (_ : Nat) : PtsR po_refid_Code.den := []
def E_refid_Code : Env := (E0.add 25 (typedSem pi_refid_coded po_refid_coded g_refid_coded))
theorem q_refid_Code_7 (k : Nat) (d : sh_refid_Code_7.den) : evAt E_refid_Code (tb (L_refid_Code k) (R_refid_Code k)) c_refid_Code 7 (bodyOf Tryd.f7) 0 (finK E_refid_Code po_refid_Code [.cell 2 23, .tmp 3]) (ptSt sh_refid_Code_7 d) = f_refid_Code_p7 (f_refid_Code_t k) d := by kernel_rfl
theorem q_refid_Code_m (k : Nat) (d : pi_refid_Code.den) : evCode E_refid_Code (tb (L_refid_Code k) (R_refid_Code k)) c_refid_Code (bodyOf Tryd.f7) 0 (finK E_refid_Code po_refid_Code [.cell 2 23, .tmp 3]) (startSt pi_refid_Code 35 d) = f_refid_Code_m (f_refid_Code_t k) d := by kernel_rfl
def g_refid_Code (d : Unit × ((ByteArray × Unit) × Unit)) : Option (Unit × ((Int × (Int × (Int × (Int × Unit)))) × (((Option Int) × Unit) × Unit))) := lim fun k => f_refid_Code_m (f_refid_Code_t k) d
theorem ok_refid_Code : FnOk Tryd.prog ET0 7 pi_refid_Code po_refid_Code g_refid_Code :=
  fn_of_body (E := E_refid_Code) (envOk_add e0_ok (typed_ok ok_refid_coded)) (fn := Tryd.f7) Tryd.func7 (by kernel_rfl) (by kernel_rfl) [.cell 2 23, .tmp 3] (by kernel_rfl) (by kernel_rfl) (by decide) rfl c_refid_Code L_refid_Code R_refid_Code
    (by intro x hx d; simp only [L_refid_Code, List.mem_cons, List.not_mem_nil, or_false] at hx; subst hx; rfl)
    (by intro k x hx d out h; simp only [L_refid_Code, List.mem_cons, List.not_mem_nil, or_false] at hx; subst hx; exact (q_refid_Code_7 k d).trans h)
    (by intro x hx; cases hx)
    (by intro k x hx; cases hx)
    (by intro d out h; obtain ⟨k, hk⟩ := lim_some h; exact ⟨k, (q_refid_Code_m k d).trans hk⟩)

@[reducible] def pi_scan_New_string : PSh := ⟨[], [.mk false [vS]]⟩
@[reducible] def po_scan_New_string : PSh := ⟨[.var 67 [vS, vI, vE]], [.mk false [.ref 0 0]]⟩
def f_scan_New_string_m (T : Unit) (d : Unit × ((ByteArray × Unit) × Unit)) : Option (((ByteArray × (Int × ((Option Int) × Unit))) × Unit) × (Unit × Unit)) :=
  some (((d.2.1.1, ((0 : Int), ((none : Option Int), ()))), ()), ((), ()))
def g_scan_New_string (d : Unit × ((ByteArray × Unit) × Unit)) : Option (((ByteArray × (Int × ((Option Int) × Unit))) × Unit) × (Unit × Unit)) := f_scan_New_string_m () d
theorem ok_scan_New_string : FnOk Tryd.prog ET0 26 pi_scan_New_string po_scan_New_string g_scan_New_string :=
  fn0 (E := E0) e0_ok (fn := Tryd.f26) Tryd.func26 (by kernel_rfl) (by kernel_rfl) [.tmp 2] (by kernel_rfl) rfl rfl rfl [] fun d => by kernel_rfl

@[reducible] def pi_scan_Scanner_string_rest : PSh := ⟨[], [.mk false [.v (.nptr (.pair .str (.pair (.int .i64) .err)))]]⟩
@[reducible] def po_scan_Scanner_string_rest : PSh := ⟨[], [.mk false [vS]]⟩
def f_scan_Scanner_string_rest_m (T : Unit) (d : Unit × (((Option (ByteArray × (Int × (Option Int)))) × Unit) × Unit)) : Option (Unit × ((ByteArray × Unit) × Unit)) :=
  bif d.2.1.1.isNone then (
  some ((), (((⟨#[]⟩ : ByteArray), ()), ())))
  else (
  d.2.1.1.bind fun x1 =>
  let x2 : Bool := (!x1.2.2.isNone)
  bif x2 then (
  some ((), (((⟨#[]⟩ : ByteArray), ()), ())))
  else (
  d.2.1.1.bind fun x3 =>
  d.2.1.1.bind fun x4 =>
  bif decide ((0 : Int) ≤ x4.2.1) && decide (x4.2.1 ≤ (x3.1.size : Int)) && decide ((x3.1.size : Int) ≤ (x3.1.size : Int)) then (
  let x5 : ByteArray := (x3.1.extract (Int.toNat x4.2.1) (Int.toNat (x3.1.size : Int)))
  some ((), ((x5, ()), ())))
  else none))
def g_scan_Scanner_string_rest (d : Unit × (((Option (ByteArray × (Int × (Option Int)))) × Unit) × Unit)) : Option (Unit × ((ByteArray × Unit) × Unit)) := f_scan_Scanner_string_rest_m () d
theorem ok_scan_Scanner_string_rest : FnOk Tryd.prog ET0 62 pi_scan_Scanner_string_rest po_scan_Scanner_string_rest g_scan_Scanner_string_rest :=
  fn0 (E := E0) e0_ok (fn := Tryd.f62) Tryd.func62 (by kernel_rfl) (by kernel_rfl) [.tmp 2] (by kernel_rfl) rfl rfl rfl [] fun d => by kernel_rfl

@[reducible] def pi_scan_Scanner_string_Peek : PSh := ⟨[], [.mk false [.v (.nptr (.pair .str (.pair (.int .i64) .err)))]]⟩
@[reducible] def po_scan_Scanner_string_Peek : PSh := ⟨[], [.mk false [v8], .mk false [vB]]⟩
def f_scan_Scanner_string_Peek_m (T : Unit) (d : Unit × (((Option (ByteArray × (Int × (Option Int)))) × Unit) × Unit)) : Option (Unit × ((Int × Unit) × ((Bool × Unit) × Unit))) :=
  (g_scan_Scanner_string_rest ((), d.2)).bind fun x1 =>
  let x2 : Bool := (x1.2.1.1.toList == (⟨#[]⟩ : ByteArray).toList)
  bif x2 then (
  some ((), (((0 : Int), ()), ((false, ()), ()))))
  else (
  bif decide ((0 : Int) ≤ (0 : Int)) && decide ((0 : Int) < ((x1.2.1.1.size : Int) : Int)) then (
  let x3 : Int := (bt x1.2.1.1 (0 : Int))
  some ((), ((x3, ()), ((true, ()), ()))))
  else none)
def g_scan_Scanner_string_Peek (d : Unit × (((Option (ByteArray × (Int × (Option Int)))) × Unit) × Unit)) : Option (Unit × ((Int × Unit) × ((Bool × Unit) × Unit))) := f_scan_Scanner_string_Peek_m () d
theorem ok_scan_Scanner_string_Peek : FnOk Tryd.prog ET0 40 pi_scan_Scanner_string_Peek po_scan_Scanner_string_Peek g_scan_Scanner_string_Peek :=
  fn0 (E := (E0.add 62 (typedSem pi_scan_Scanner_string_rest po_scan_Scanner_string_rest g_scan_Scanner_string_rest))) (envOk_add e0_ok (typed_ok ok_scan_Scanner_string_rest)) (fn := Tryd.f40) Tryd.func40 (by kernel_rfl) (by kernel_rfl) [.tmp 2, .tmp 3] (by kernel_rfl) rfl rfl rfl [] fun d => by kernel_rfl

@[reducible] def pi_strings_Clone : PSh := ⟨[], [.mk false [vS]]⟩
@[reducible] def po_strings_Clone : PSh := ⟨[], [.mk false [vS]]⟩
def f_strings_Clone_m (T : Unit) (d : Unit × ((ByteArray × Unit) × Unit)) : Option (Unit × ((ByteArray × Unit) × Unit)) :=
  (g_internal_stringslite_Clone ((), d.2)).bind fun x1 =>
  some ((), x1.2)
def g_strings_Clone (d : Unit × ((ByteArray × Unit) × Unit)) : Option (Unit × ((ByteArray × Unit) × Unit)) := f_strings_Clone_m () d
theorem ok_strings_Clone : FnOk Tryd.prog ET0 63 pi_strings_Clone po_strings_Clone g_strings_Clone :=
  fn0 (E := (E0.add 75 (typedSem pi_internal_stringslite_Clone po_internal_stringslite_Clone g_internal_stringslite_Clone))) (envOk_add e0_ok (typed_ok ok_internal_stringslite_Clone)) (fn := Tryd.f63) Tryd.func63 (by kernel_rfl) (by kernel_rfl) [.tmp 2] (by kernel_rfl) rfl rfl rfl [] fun d => by kernel_rfl

@[reducible] def pi_scan_Scanner_string_going : PSh := ⟨[], [.mk false [.v (.nptr (.pair .str (.pair (.int .i64) .err)))]]⟩
@[reducible] def po_scan_Scanner_string_going : PSh := ⟨[], [.mk false [vB]]⟩
def f_scan_Scanner_string_going_m (T : Unit) (d : Unit × (((Option (ByteArray × (Int × (Option Int)))) × Unit) × Unit)) : Option (Unit × ((Bool × Unit) × Unit)) :=
  let x1 : Bool := (!d.2.1.1.isNone)
  bif x1 then (
  d.2.1.1.bind fun x2 =>
  some ((), ((x2.2.2.isNone, ()), ())))
  else (
  some ((), ((false, ()), ())))
def g_scan_Scanner_string_going (d : Unit × (((Option (ByteArray × (Int × (Option Int)))) × Unit) × Unit)) : Option (Unit × ((Bool × Unit) × Unit)) := f_scan_Scanner_string_going_m () d
theorem ok_scan_Scanner_string_going : FnOk Tryd.prog ET0 42 pi_scan_Scanner_string_going po_scan_Scanner_string_going g_scan_Scanner_string_going :=
  fn0 (E := E0) e0_ok (fn := Tryd.f42) Tryd.func42 (by kernel_rfl) (by kernel_rfl) [.tmp 2] (by kernel_rfl) rfl rfl rfl [] fun d => by kernel_rfl

@[reducible] def pi_figures_Is : PSh := ⟨[], [.mk false [v8]]⟩
@[reducible] def po_figures_Is : PSh := ⟨[], [.mk false [vB]]⟩
def f_figures_Is_m (T : Unit) (d : Unit × ((Int × Unit) × Unit)) : Option (Unit × ((Bool × Unit) × Unit)) :=
  let x1 : Bool := (decide (d.2.1.1 ≥ (48 : Int)))
  bif x1 then (
  let x2 : Bool := (decide (d.2.1.1 ≤ (57 : Int)))
  some ((), ((x2, ()), ())))
  else (
  some ((), ((false, ()), ())))
def g_figures_Is (d : Unit × ((Int × Unit) × Unit)) : Option (Unit × ((Bool × Unit) × Unit)) := f_figures_Is_m () d
theorem ok_figures_Is : FnOk Tryd.prog ET0 98 pi_figures_Is po_figures_Is g_figures_Is :=
  fn0 (E := E0) e0_ok (fn := Tryd.f98) Tryd.func98 (by kernel_rfl) (by kernel_rfl) [.tmp 2] (by kernel_rfl) rfl rfl rfl [] fun d => by kernel_rfl

@[reducible] def pi_figures_run : PSh := ⟨[], [.mk false [vS], .mk false [vI]]⟩
@[reducible] def po_figures_run : PSh := ⟨[], [.mk false [vI]]⟩
@[reducible] def TT_figures_run : Type := (((Unit × ((ByteArray × Unit) × ((Int × Unit) × ((Int × Unit) × Unit)))) → Option (Unit × ((Int × Unit) × Unit))) × Unit)
@[reducible] def sh_figures_run_3 : PSh := ⟨[], [.mk false [vS], .mk false [vI], .any, .any, .any, .mk false [vI], .any, .any, .any, .any, .any, .any, .any, .any, .any, .any, .any, .any, .any, .any, .any]⟩
def f_figures_run_p3 (T : TT_figures_run) (d : Unit × ((ByteArray × Unit) × ((Int × Unit) × ((Int × Unit) × Unit)))) : Option (Unit × ((Int × Unit) × Unit)) :=
  let x1 : Int := (d.2.1.1.size : Int)
  let x2 : Int := (if d.2.2.1.1 < x1 then d.2.2.1.1 else x1)
  let x3 : Bool := (decide (d.2.2.2.1.1 < x2))
  bif x3 then (
  bif decide ((0 : Int) ≤ d.2.2.2.1.1) && decide (d.2.2.2.1.1 < ((d.2.1.1.size : Int) : Int)) then (
  let x4 : Int := (bt d.2.1.1 d.2.2.2.1.1)
  (g_figures_Is ((), ((x4, ()), ()))).bind fun x5 =>
  bif x5.2.1.1 then (
  let x6 : Int := (iadd .i64 d.2.2.2.1.1 (1 : Int))
  (T.1 ((), (d.2.1, (d.2.2.1, ((x6, ()), ()))))))
  else (
  some ((), d.2.2.2)))
  else none)
  else (
  some ((), d.2.2.2))
def f_figures_run_t : Nat → TT_figures_run
  | 0 => (fun _ => none, ())
  | k + 1 => (f_figures_run_p3 (f_figures_run_t k), ())
theorem t_figures_run (k : Nat) : f_figures_run_t (k + 1) = (f_figures_run_p3 (f_figures_run_t k), ()) := rfl
def f_figures_run_m (T : TT_figures_run) (d : Unit × ((ByteArray × Unit) × ((Int × Unit) × Unit))) : Option (Unit × ((Int × Unit) × Unit)) :=
  (T.1 ((), (d.2.1, (d.2.2.1, (((0 : Int), ()), ())))))
def c_figures_run : List Nat := []
def L_figures_run (k : Nat) : Pts po_figures_run.den := [(3, ⟨sh_figures_run_3, (f_figures_run_t k).1⟩)]
def R_figures_run (_ : Nat) : PtsR po_figures_run.den := []
def E_figures_run : Env := (E0.add 98 (typedSem pi_figures_Is po_figures_Is g_figures_Is))
theorem q_figures_run_3 (k : Nat) (d : sh_figures_run_3.den) : evAt E_figures_run (tb (L_figures_run k) (R_figures_run k)) c_figures_run 3 (bodyOf Tryd.f87) 0 (finK E_figures_run po_figures_run [.tmp 4]) (ptSt sh_figures_run_3 d) = f_figures_run_p3 (f_figures_run_t k) d := by kernel_rfl
theorem q_figures_run_m (k : Nat) (d : pi_figures_run.den) : evCode E_figures_run (tb (L_figures_run k) (R_figures_run k)) c_figures_run (bodyOf Tryd.f87) 0 (finK E_figures_run po_figures_run [.tmp 4]) (startSt pi_figures_run 21 d) = f_figures_run_m (f_figures_run_t k) d := by kernel_rfl
def g_figures_run (d : Unit × ((ByteArray × Unit) × ((Int × Unit) × Unit))) : Option (Unit × ((Int × Unit) × Unit)) := lim fun k => f_figures_run_m (f_figures_run_t k) d
theorem ok_figures_run : FnOk Tryd.prog ET0 87 pi_figures_run po_figures_run g_figures_run :=
  fn_of_body (E := E_figures_run) (envOk_add e0_ok (typed_ok ok_figures_Is)) (fn := Tryd.f87) Tryd.func87 (by kernel_rfl) (by kernel_rfl) [.tmp 4] (by kernel_rfl) (by kernel_rfl) (by decide) rfl c_figures_run L_figures_run R_figures_run
    (by intro x hx d; simp only [L_figures_run, List.mem_cons, List.not_mem_nil, or_false] at hx; subst hx; rfl)
    (by intro k x hx d out h; simp only [L_figures_run, List.mem_cons, List.not_mem_nil, or_false] at hx; subst hx; exact (q_figures_run_3 k d).trans h)
    (by intro x hx; cases hx)
    (by intro k x hx; cases hx)
    (by intro d out h; obtain ⟨k, hk⟩ := lim_some h; exact ⟨k, (q_figures_run_m k d).trans hk⟩)

@[reducible] def pi_figures_value : PSh := ⟨[], [.mk false [vS], .mk false [.v (.int .u64)]]⟩
@[reducible] def po_figures_value : PSh := ⟨[], [.mk false [.v (.int .u64)], .mk false [vE]]⟩
@[reducible] def TT_figures_value : Type := (((Unit × ((ByteArray × Unit) × ((Int × Unit) × ((Int × Unit) × ((Int × Unit) × ((Int × Unit) × Unit)))))) → Option (Unit × ((Int × Unit) × (((Option Int) × Unit) × Unit)))) × Unit)
@[reducible] def sh_figures_value_4 : PSh := ⟨[], [.mk false [vS], .mk false [.v (.int .u64)], .any, .any, .any, .any, .mk false [.v (.int .u64)], .any, .any, .any, .mk false [vI], .mk false [vI], .any, .any, .any, .any, .any, .any, .any, .any, .any, .any, .any, .any, .any, .any, .any, .any, .any, .any, .any, .any]⟩
def f_figures_value_p4 (T : TT_figures_value) (d : Unit × ((ByteArray × Unit) × ((Int × Unit) × ((Int × Unit) × ((Int × Unit) × ((Int × Unit) × Unit)))))) : Option (Unit × ((Int × Unit) × (((Option Int) × Unit) × Unit))) :=
  let x2 : Bool := (decide (d.2.2.2.2.2.1.1 < d.2.2.2.2.1.1))
  bif x2 then (
  bif decide ((0 : Int) ≤ d.2.2.2.2.2.1.1) && decide (d.2.2.2.2.2.1.1 < ((d.2.1.1.size : Int) : Int)) then (
  let x3 : Int := (bt d.2.1.1 d.2.2.2.2.2.1.1)
  let x4 : Int := (isub .u8 x3 (48 : Int))
  let x5 : Int := (iconv .u64 x4)
  let x6 : Int := (isub .u64 d.2.2.1.1 x5)
  let x7 : Int := (iquo .u64 x6 (10 : Int))
  let x8 : Bool := (decide (d.2.2.2.1.1 > x7))
  bif x8 then (
  let x9 : (Option Int) := (some (5 : Int))
  some ((), (((0 : Int), ()), ((x9, ()), ()))))
  else (
  let x10 : Int := (imul .u64 d.2.2.2.1.1 (10 : Int))
  let x11 : Int := (iadd .u64 x10 x5)
  let x12 : Int := (iadd .i64 d.2.2.2.2.2.1.1 (1 : Int))
  (T.1 ((), (d.2.1, (d.2.2.1, ((x11, ()), (d.2.2.2.2.1, ((x12, ()), ())))))))))
  else none)
  else (
  some ((), (d.2.2.2.1, (((none : Option Int), ()), ()))))
def f_figures_value_t : Nat → TT_figures_value
  | 0 => (fun _ => none, ())
  | k + 1 => (f_figures_value_p4 (f_figures_value_t k), ())
theorem t_figures_value (k : Nat) : f_figures_value_t (k + 1) = (f_figures_value_p4 (f_figures_value_t k), ()) := rfl
def f_figures_value_m (T : TT_figures_value) (d : Unit × ((ByteArray × Unit) × ((Int × Unit) × Unit))) : Option (Unit × ((Int × Unit) × (((Option Int) × Unit) × Unit))) :=
  let x1 : Int := (d.2.1.1.size : Int)
  (T.1 ((), (d.2.1, (d.2.2.1, (((0 : Int), ()), ((x1, ()), (((0 : Int), ()), ())))))))
def c_figures_value : List Nat := []
def L_figures_value (k : Nat) : Pts po_figures_value.den := [(4, ⟨sh_figures_value_4, (f_figures_value_t k).1⟩)]
def R_figures_value (_ : Nat) : PtsR po_figures_value.den := []
def E_figures_value : Env := E0
theorem q_figures_value_4 (k : Nat) (d : sh_figures_value_4.den) : evAt E_figures_value (tb (L_figures_value k) (R_figures_value k)) c_figures_value 4 (bodyOf Tryd.f88) 0 (finK E_figures_value po_figures_value [.tmp 4, .tmp 5]) (ptSt sh_figures_value_4 d) = f_figures_value_p4 (f_figures_value_t k) d := by kernel_rfl
theorem q_figures_value_m (k : Nat) (d : pi_figures_value.den) : evCode E_figures_value (tb (L_figures_value k) (R_figures_value k)) c_figures_value (bodyOf Tryd.f88) 0 (finK E_figures_value po_figures_value [.tmp 4, .tmp 5]) (startSt pi_figures_value 32 d) = f_figures_value_m (f_figures_value_t k) d := by kernel_rfl
def g_figures_value (d : Unit × ((ByteArray × Unit) × ((Int × Unit) × Unit))) : Option (Unit × ((Int × Unit) × (((Option Int) × Unit) × Unit))) := lim fun k => f_figures_value_m (f_figures_value_t k) d
theorem ok_figures_value : FnOk Tryd.prog ET0 88 pi_figures_value po_figures_value g_figures_value :=
  fn_of_body (E := E_figures_value) e0_ok (fn := Tryd.f88) Tryd.func88 (by kernel_rfl) (by kernel_rfl) [.tmp 4, .tmp 5] (by kernel_rfl) (by kernel_rfl) (by decide) rfl c_figures_value L_figures_value R_figures_value
    (by intro x hx d; simp only [L_figures_value, List.mem_cons, List.not_mem_nil, or_false] at hx; subst hx; rfl)
    (by intro k x hx d out h; simp only [L_figures_value, List.mem_cons, List.not_mem_nil, or_false] at hx; subst hx; exact (q_figures_value_4 k d).trans h)
    (by intro x hx; cases hx)
    (by intro k x hx; cases hx)
    (by intro d out h; obtain ⟨k, hk⟩ := lim_some h; exact ⟨k, (q_figures_value_m k d).trans hk⟩)

@[reducible] def pi_figures_take : PSh := ⟨[], [.mk false [vS], .mk false [vI], .mk false [vI], .mk false [.v (.int .u64)]]⟩
@[reducible] def po_figures_take : PSh := ⟨[], [.mk false [.v (.int .u64)], .mk false [vI], .mk false [vE]]⟩
def f_figures_take_m (T : Unit) (d : Unit × ((ByteArray × Unit) × ((Int × Unit) × ((Int × Unit) × ((Int × Unit) × Unit))))) : Option (Unit × ((Int × Unit) × ((Int × Unit) × (((Option Int) × Unit) × Unit)))) :=
  let x1 : Bool := (decide (d.2.2.1.1 < (1 : Int)))
  bif x1 then (
  let x2 : (Option Int) := (some (1 : Int))
  some ((), (((0 : Int), ()), (((0 : Int), ()), ((x2, ()), ())))))
  else (
  let x3 : Bool := (decide (d.2.2.1.1 > d.2.2.2.1.1))
  bif x3 then (
  let x4 : (Option Int) := (some (1 : Int))
  some ((), (((0 : Int), ()), (((0 : Int), ()), ((x4, ()), ())))))
  else (
  let x5 : Bool := (decide (d.2.2.2.1.1 > (20 : Int)))
  bif x5 then (
  let x6 : (Option Int) := (some (1 : Int))
  some ((), (((0 : Int), ()), (((0 : Int), ()), ((x6, ()), ())))))
  else (
  (g_figures_run ((), (d.2.1, (d.2.2.2.1, ())))).bind fun x7 =>
  let x8 : Bool := (decide (x7.2.1.1 < d.2.2.1.1))
  bif x8 then (
  let x9 : (Option Int) := (some (2 : Int))
  some ((), (((0 : Int), ()), (((0 : Int), ()), ((x9, ()), ())))))
  else (
  bif decide ((0 : Int) ≤ (0 : Int)) && decide ((0 : Int) ≤ x7.2.1.1) && decide (x7.2.1.1 ≤ (d.2.1.1.size : Int)) then (
  let x10 : ByteArray := (d.2.1.1.extract (Int.toNat (0 : Int)) (Int.toNat x7.2.1.1))
  (g_figures_value ((), ((x10, ()), d.2.2.2.2))).bind fun x11 =>
  let x12 : Bool := (!x11.2.2.1.1.isNone)
  bif x12 then (
  some ((), (((0 : Int), ()), (((0 : Int), ()), x11.2.2))))
  else (
  some ((), (x11.2.1, (x7.2.1, (((none : Option Int), ()), ()))))))
  else none))))
def g_figures_take (d : Unit × ((ByteArray × Unit) × ((Int × Unit) × ((Int × Unit) × ((Int × Unit) × Unit))))) : Option (Unit × ((Int × Unit) × ((Int × Unit) × (((Option Int) × Unit) × Unit)))) := f_figures_take_m () d
theorem ok_figures_take : FnOk Tryd.prog ET0 76 pi_figures_take po_figures_take g_figures_take :=
  fn0 (E := ((E0.add 87 (typedSem pi_figures_run po_figures_run g_figures_run)).add 88 (typedSem pi_figures_value po_figures_value g_figures_value))) (envOk_add (envOk_add e0_ok (typed_ok ok_figures_run)) (typed_ok ok_figures_value)) (fn := Tryd.f76) Tryd.func76 (by kernel_rfl) (by kernel_rfl) [.tmp 8, .tmp 9, .tmp 10] (by kernel_rfl) rfl rfl rfl [] fun d => by kernel_rfl

@[reducible] def pi_figures_whole : PSh := ⟨[], [.mk false [vS], .mk false [vI], .mk false [vI], .mk false [.v (.int .u64)]]⟩
@[reducible] def po_figures_whole : PSh := ⟨[], [.mk false [.v (.int .u64)], .mk false [vE]]⟩
def f_figures_whole_m (T : Unit) (d : Unit × ((ByteArray × Unit) × ((Int × Unit) × ((Int × Unit) × ((Int × Unit) × Unit))))) : Option (Unit × ((Int × Unit) × (((Option Int) × Unit) × Unit))) :=
  (g_figures_take ((), d.2)).bind fun x1 =>
  let x2 : Bool := (!x1.2.2.2.1.1.isNone)
  bif x2 then (
  some ((), (((0 : Int), ()), x1.2.2.2)))
  else (
  let x3 : Int := (d.2.1.1.size : Int)
  let x4 : Bool := (decide (x1.2.2.1.1 < x3))
  bif x4 then (
  let x5 : (Option Int) := (some (2 : Int))
  some ((), (((0 : Int), ()), ((x5, ()), ()))))
  else (
  some ((), (x1.2.1, (((none : Option Int), ()), ())))))
def g_figures_whole (d : Unit × ((ByteArray × Unit) × ((Int × Unit) × ((Int × Unit) × ((Int × Unit) × Unit))))) : Option (Unit × ((Int × Unit) × (((Option Int) × Unit) × Unit))) := f_figures_whole_m () d
theorem ok_figures_whole : FnOk Tryd.prog ET0 64 pi_figures_whole po_figures_whole g_figures_whole :=
  fn0 (E := (E0.add 76 (typedSem pi_figures_take po_figures_take g_figures_take))) (envOk_add e0_ok (typed_ok ok_figures_take)) (fn := Tryd.f64) Tryd.func64 (by kernel_rfl) (by kernel_rfl) [.tmp 8, .tmp 9] (by kernel_rfl) rfl rfl rfl [] fun d => by kernel_rfl

@[reducible] def pi_figures_Whole : PSh := ⟨[], [.mk false [vS], .mk false [vI], .mk false [vI]]⟩
@[reducible] def po_figures_Whole : PSh := ⟨[], [.mk false [vI], .mk false [vE]]⟩
def f_figures_Whole_m (T : Unit) (d : Unit × ((ByteArray × Unit) × ((Int × Unit) × ((Int × Unit) × Unit)))) : Option (Unit × ((Int × Unit) × (((Option Int) × Unit) × Unit))) :=
  (g_figures_whole ((), (d.2.1, (d.2.2.1, (d.2.2.2.1, (((9223372036854775807 : Int), ()), ())))))).bind fun x1 =>
  let x2 : Int := (iconv .i64 x1.2.1.1)
  some ((), ((x2, ()), x1.2.2))
def g_figures_Whole (d : Unit × ((ByteArray × Unit) × ((Int × Unit) × ((Int × Unit) × Unit)))) : Option (Unit × ((Int × Unit) × (((Option Int) × Unit) × Unit))) := f_figures_Whole_m () d
theorem ok_figures_Whole : FnOk Tryd.prog ET0 44 pi_figures_Whole po_figures_Whole g_figures_Whole :=
  fn0 (E := (E0.add 64 (typedSem pi_figures_whole po_figures_whole g_figures_whole))) (envOk_add e0_ok (typed_ok ok_figures_whole)) (fn := Tryd.f44) Tryd.func44 (by kernel_rfl) (by kernel_rfl) [.tmp 6, .tmp 7] (by kernel_rfl) rfl rfl rfl [] fun d => by kernel_rfl

@[reducible] def pi_scan_Scanner_string_Err : PSh := ⟨[], [.mk false [.v (.nptr (.pair .str (.pair (.int .i64) .err)))]]⟩
@[reducible] def po_scan_Scanner_string_Err : PSh := ⟨[], [.mk false [vE]]⟩
def f_scan_Scanner_string_Err_m (T : Unit) (d : Unit × (((Option (ByteArray × (Int × (Option Int)))) × Unit) × Unit)) : Option (Unit × (((Option Int) × Unit) × Unit)) :=
  bif d.2.1.1.isNone then (
  let x1 : (Option Int) := (some (8 : Int))
  some ((), ((x1, ()), ())))
  else (
  d.2.1.1.bind fun x2 =>
  some ((), ((x2.2.2, ()), ())))
def g_scan_Scanner_string_Err (d : Unit × (((Option (ByteArray × (Int × (Option Int)))) × Unit) × Unit)) : Option (Unit × (((Option Int) × Unit) × Unit)) := f_scan_Scanner_string_Err_m () d
theorem ok_scan_Scanner_string_Err : FnOk Tryd.prog ET0 45 pi_scan_Scanner_string_Err po_scan_Scanner_string_Err g_scan_Scanner_string_Err :=
  fn0 (E := E0) e0_ok (fn := Tryd.f45) Tryd.func45 (by kernel_rfl) (by kernel_rfl) [.tmp 2] (by kernel_rfl) rfl rfl rfl [] fun d => by kernel_rfl

@[reducible] def pi_scan_Scanner_string_Left : PSh := ⟨[], [.mk false [.v (.nptr (.pair .str (.pair (.int .i64) .err)))]]⟩
@[reducible] def po_scan_Scanner_string_Left : PSh := ⟨[], [.mk false [vI]]⟩
def f_scan_Scanner_string_Left_m (T : Unit) (d : Unit × (((Option (ByteArray × (Int × (Option Int)))) × Unit) × Unit)) : Option (Unit × ((Int × Unit) × Unit)) :=
  (g_scan_Scanner_string_rest ((), d.2)).bind fun x1 =>
  let x2 : Int := (x1.2.1.1.size : Int)
  some ((), ((x2, ()), ()))
def g_scan_Scanner_string_Left (d : Unit × (((Option (ByteArray × (Int × (Option Int)))) × Unit) × Unit)) : Option (Unit × ((Int × Unit) × Unit)) := f_scan_Scanner_string_Left_m () d
theorem ok_scan_Scanner_string_Left : FnOk Tryd.prog ET0 46 pi_scan_Scanner_string_Left po_scan_Scanner_string_Left g_scan_Scanner_string_Left :=
  fn0 (E := (E0.add 62 (typedSem pi_scan_Scanner_string_rest po_scan_Scanner_string_rest g_scan_Scanner_string_rest))) (envOk_add e0_ok (typed_ok ok_scan_Scanner_string_rest)) (fn := Tryd.f46) Tryd.func46 (by kernel_rfl) (by kernel_rfl) [.tmp 2] (by kernel_rfl) rfl rfl rfl [] fun d => by kernel_rfl

@[reducible] def pi_scan_Scanner_string_End : PSh := ⟨[], [.mk false [.v (.nptr (.pair .str (.pair (.int .i64) .err)))]]⟩
@[reducible] def po_scan_Scanner_string_End : PSh := ⟨[], [.mk false [vE]]⟩
def f_scan_Scanner_string_End_m (T : Unit) (d : Unit × (((Option (ByteArray × (Int × (Option Int)))) × Unit) × Unit)) : Option (Unit × (((Option Int) × Unit) × Unit)) :=
  (g_scan_Scanner_string_Err ((), d.2)).bind fun x1 =>
  let x2 : Bool := (!x1.2.1.1.isNone)
  bif x2 then (
  some ((), x1.2))
  else (
  (g_scan_Scanner_string_Left ((), d.2)).bind fun x3 =>
  let x4 : Bool := (decide (x3.2.1.1 > (0 : Int)))
  bif x4 then (
  let x5 : (Option Int) := (some (2 : Int))
  some ((), ((x5, ()), ())))
  else (
  some ((), (((none : Option Int), ()), ()))))
def g_scan_Scanner_string_End (d : Unit × (((Option (ByteArray × (Int × (Option Int)))) × Unit) × Unit)) : Option (Unit × (((Option Int) × Unit) × Unit)) := f_scan_Scanner_string_End_m () d
theorem ok_scan_Scanner_string_End : FnOk Tryd.prog ET0 30 pi_scan_Scanner_string_End po_scan_Scanner_string_End g_scan_Scanner_string_End :=
  fn0 (E := ((E0.add 45 (typedSem pi_scan_Scanner_string_Err po_scan_Scanner_string_Err g_scan_Scanner_string_Err)).add 46 (typedSem pi_scan_Scanner_string_Left po_scan_Scanner_string_Left g_scan_Scanner_string_Left))) (envOk_add (envOk_add e0_ok (typed_ok ok_scan_Scanner_string_Err)) (typed_ok ok_scan_Scanner_string_Left)) (fn := Tryd.f30) Tryd.func30 (by kernel_rfl) (by kernel_rfl) [.tmp 2] (by kernel_rfl) rfl rfl rfl [] fun d => by kernel_rfl

@[reducible] def pi_scan_Scanner_string_take_io : PSh := ⟨[.var 67 [vS, vI, vE]], [.mk false [.ref 0 0], .mk false [vI]]⟩
@[reducible] def po_scan_Scanner_string_take_io : PSh := ⟨[.var 67 [vS, vI, vE]], [.mk false [vS], .mk false [.ref 0 0]]⟩
def f_scan_Scanner_string_take_io_m (T : Unit) (d : ((ByteArray × (Int × ((Option Int) × Unit))) × Unit) × (Unit × ((Int × Unit) × Unit))) : Option (((ByteArray × (Int × ((Option Int) × Unit))) × Unit) × ((ByteArray × Unit) × (Unit × Unit))) :=
  (g_scan_Scanner_string_rest ((), (((some (d.1.1.1, (d.1.1.2.1, d.1.1.2.2.1))), ()), ()))).bind fun x1 =>
  bif decide ((0 : Int) ≤ (0 : Int)) && decide ((0 : Int) ≤ d.2.2.1.1) && decide (d.2.2.1.1 ≤ (x1.2.1.1.size : Int)) then (
  let x2 : ByteArray := (x1.2.1.1.extract (Int.toNat (0 : Int)) (Int.toNat d.2.2.1.1))
  let x3 : Bool := (decide (d.2.2.1.1 > (0 : Int)))
  bif x3 then (
  let x4 : Int := (iadd .i64 d.1.1.2.1 d.2.2.1.1)
  (g_strings_Clone ((), ((x2, ()), ()))).bind fun x5 =>
  some (((d.1.1.1, (x4, d.1.1.2.2)), ()), (x5.2.1, ((), ()))))
  else (
  (g_strings_Clone ((), ((x2, ()), ()))).bind fun x6 =>
  some (d.1, (x6.2.1, ((), ())))))
  else none
def c_scan_Scanner_string_take_io : List Nat := []
def L_scan_Scanner_string_take_io (_ : Nat) : Pts po_scan_Scanner_string_take_io.den := []
def R_scan_Scanner_string_take_io (_ : Nat) : PtsR po_scan_Scanner_string_take_io.den := []
def E_scan_Scanner_string_take_io : Env := (((E0.add 62 (typedSem pi_scan_Scanner_string_rest po_scan_Scanner_string_rest g_scan_Scanner_string_rest)).add 63 (typedSem pi_strings_Clone po_strings_Clone g_strings_Clone)).kp [0])
theorem q_scan_Scanner_string_take_io_m (k : Nat) (d : pi_scan_Scanner_string_take_io.den) : evCode E_scan_Scanner_string_take_io (tb (L_scan_Scanner_string_take_io k) (R_scan_Scanner_string_take_io k)) c_scan_Scanner_string_take_io (bodyOf Tryd.f41) 0 (finKio E_scan_Scanner_string_take_io po_scan_Scanner_string_take_io [.tmp 4] [(0, none)]) (startSt pi_scan_Scanner_string_take_io 22 d) = f_scan_Scanner_string_take_io_m () d := by kernel_rfl
def g_scan_Scanner_string_take_io (d : ((ByteArray × (Int × ((Option Int) × Unit))) × Unit) × (Unit × ((Int × Unit) × Unit))) : Option (((ByteArray × (Int × ((Option Int) × Unit))) × Unit) × ((ByteArray × Unit) × (Unit × Unit))) := f_scan_Scanner_string_take_io_m () d
theorem ok_scan_Scanner_string_take_io : FnIo Tryd.prog ET0 41 pi_scan_Scanner_string_take_io po_scan_Scanner_string_take_io 1 [(0, 0, none)] g_scan_Scanner_string_take_io :=
  fn_of_bodyIo (E := E_scan_Scanner_string_take_io) (envOk_kp (envOk_add (envOk_add e0_ok (typed_ok ok_scan_Scanner_string_rest)) (typed_ok ok_strings_Clone))) (fn := Tryd.f41) Tryd.func41 (by kernel_rfl) (by kernel_rfl) [.tmp 4] [(0, none)] [(0, 0, none)] (by kernel_rfl) (by kernel_rfl) (by kernel_rfl) (by kernel_rfl) (by decide) (by decide) c_scan_Scanner_string_take_io L_scan_Scanner_string_take_io R_scan_Scanner_string_take_io
    (by intro x hx; cases hx) (by intro k x hx; cases hx) (by intro x hx; cases hx) (by intro k x hx; cases hx) (fun d out h => ⟨0, (q_scan_Scanner_string_take_io_m 0 d).trans h⟩)

@[reducible] def pi_scan_Scanner_string_Take_io : PSh := ⟨[.var 67 [vS, vI, vE]], [.mk false [.ref 0 0], .mk false [v8]]⟩
@[reducible] def po_scan_Scanner_string_Take_io : PSh := ⟨[.var 67 [vS, vI, vE]], [.mk false [vB], .mk false [.ref 0 0]]⟩
def f_scan_Scanner_string_Take_io_m (T : Unit) (d : ((ByteArray × (Int × ((Option Int) × Unit))) × Unit) × (Unit × ((Int × Unit) × Unit))) : Option (((ByteArray × (Int × ((Option Int) × Unit))) × Unit) × ((Bool × Unit) × (Unit × Unit))) :=
  (g_scan_Scanner_string_Peek ((), (((some (d.1.1.1, (d.1.1.2.1, d.1.1.2.2.1))), ()), ()))).bind fun x1 =>
  let x2 : Bool := (!x1.2.2.1.1)
  bif x2 then (
  some (d.1, ((false, ()), ((), ()))))
  else (
  let x3 : Bool := (x1.2.1.1 != d.2.2.1.1)
  bif x3 then (
  some (d.1, ((false, ()), ((), ()))))
  else (
  (g_scan_Scanner_string_take_io (d.1, ((), (((1 : Int), ()), ())))).bind fun x4 =>
  some (x4.1, ((true, ()), ((), ())))))
def c_scan_Scanner_string_Take_io : List Nat := []
def L_scan_Scanner_string_Take_io (_ : Nat) : Pts po_scan_Scanner_string_Take_io.den := []
def R_scan_Scanner_string_Take_io (_ : Nat) : PtsR po_scan_Scanner_string_Take_io.den := []
def E_scan_Scanner_string_Take_io : Env := (((E0.add 40 (typedSem pi_scan_Scanner_string_Peek po_scan_Scanner_string_Peek g_scan_Scanner_string_Peek)).add 41 (ioSem pi_scan_Scanner_string_take_io po_scan_Scanner_string_take_io 1 [(0, 0, none)] g_scan_Scanner_string_take_io)).kp [0])
theorem q_scan_Scanner_string_Take_io_m (k : Nat) (d : pi_scan_Scanner_string_Take_io.den) : evCode E_scan_Scanner_string_Take_io (tb (L_scan_Scanner_string_Take_io k) (R_scan_Scanner_string_Take_io k)) c_scan_Scanner_string_Take_io (bodyOf Tryd.f27) 0 (finKio E_scan_Scanner_string_Take_io po_scan_Scanner_string_Take_io [.tmp 4] [(0, none)]) (startSt pi_scan_Scanner_string_Take_io 21 d) = f_scan_Scanner_string_Take_io_m () d := by kernel_rfl
def g_scan_Scanner_string_Take_io (d : ((ByteArray × (Int × ((Option Int) × Unit))) × Unit) × (Unit × ((Int × Unit) × Unit))) : Option (((ByteArray × (Int × ((Option Int) × Unit))) × Unit) × ((Bool × Unit) × (Unit × Unit))) := f_scan_Scanner_string_Take_io_m () d
theorem ok_scan_Scanner_string_Take_io : FnIo Tryd.prog ET0 27 pi_scan_Scanner_string_Take_io po_scan_Scanner_string_Take_io 1 [(0, 0, none)] g_scan_Scanner_string_Take_io :=
  fn_of_bodyIo (E := E_scan_Scanner_string_Take_io) (envOk_kp (envOk_add (envOk_add e0_ok (typed_ok ok_scan_Scanner_string_Peek)) (io_ok ok_scan_Scanner_string_take_io))) (fn := Tryd.f27) Tryd.func27 (by kernel_rfl) (by kernel_rfl) [.tmp 4] [(0, none)] [(0, 0, none)] (by kernel_rfl) (by kernel_rfl) (by kernel_rfl) (by kernel_rfl) (by decide) (by decide) c_scan_Scanner_string_Take_io L_scan_Scanner_string_Take_io R_scan_Scanner_string_Take_io
    (by intro x hx; cases hx) (by intro k x hx; cases hx) (by intro x hx; cases hx) (by intro k x hx; cases hx) (fun d out h => ⟨0, (q_scan_Scanner_string_Take_io_m 0 d).trans h⟩)

@[reducible] def pi_scan_Scanner_string_Fail_io : PSh := ⟨[.var 67 [vS, vI, vE]], [.mk false [.ref 0 0], .mk false [vE]]⟩
@[reducible] def po_scan_Scanner_string_Fail_io : PSh := ⟨[.var 67 [vS, vI, vE]], [.mk false [.ref 0 0]]⟩
def f_scan_Scanner_string_Fail_io_m (T : Unit) (d : ((ByteArray × (Int × ((Option Int) × Unit))) × Unit) × (Unit × (((Option Int) × Unit) × Unit))) : Option (((ByteArray × (Int × ((Option Int) × Unit))) × Unit) × (Unit × Unit)) :=
  (g_scan_Scanner_string_going ((), (((some (d.1.1.1, (d.1.1.2.1, d.1.1.2.2.1))), ()), ()))).bind fun x1 =>
  bif x1.2.1.1 then (
  some (((d.1.1.1, (d.1.1.2.1, d.2.2.1)), ()), ((), ())))
  else (
  some (d.1, ((), ())))
def c_scan_Scanner_string_Fail_io : List Nat := []
def L_scan_Scanner_string_Fail_io (_ : Nat) : Pts po_scan_Scanner_string_Fail_io.den := []
def R_scan_Scanner_string_Fail_io (_ : Nat) : PtsR po_scan_Scanner_string_Fail_io.den := []
def E_scan_Scanner_string_Fail_io : Env := ((E0.add 42 (typedSem pi_scan_Scanner_string_going po_scan_Scanner_string_going g_scan_Scanner_string_going)).kp [0])
theorem q_scan_Scanner_string_Fail_io_m (k : Nat) (d : pi_scan_Scanner_string_Fail_io.den) : evCode E_scan_Scanner_string_Fail_io (tb (L_scan_Scanner_string_Fail_io k) (R_scan_Scanner_string_Fail_io k)) c_scan_Scanner_string_Fail_io (bodyOf Tryd.f28) 0 (finKio E_scan_Scanner_string_Fail_io po_scan_Scanner_string_Fail_io [] [(0, none)]) (startSt pi_scan_Scanner_string_Fail_io 10 d) = f_scan_Scanner_string_Fail_io_m () d := by kernel_rfl
def g_scan_Scanner_string_Fail_io (d : ((ByteArray × (Int × ((Option Int) × Unit))) × Unit) × (Unit × (((Option Int) × Unit) × Unit))) : Option (((ByteArray × (Int × ((Option Int) × Unit))) × Unit) × (Unit × Unit)) := f_scan_Scanner_string_Fail_io_m () d
theorem ok_scan_Scanner_string_Fail_io : FnIo Tryd.prog ET0 28 pi_scan_Scanner_string_Fail_io po_scan_Scanner_string_Fail_io 0 [(0, 0, none)] g_scan_Scanner_string_Fail_io :=
  fn_of_bodyIo (E := E_scan_Scanner_string_Fail_io) (envOk_kp (envOk_add e0_ok (typed_ok ok_scan_Scanner_string_going))) (fn := Tryd.f28) Tryd.func28 (by kernel_rfl) (by kernel_rfl) [] [(0, none)] [(0, 0, none)] (by kernel_rfl) (by kernel_rfl) (by kernel_rfl) (by kernel_rfl) (by decide) (by decide) c_scan_Scanner_string_Fail_io L_scan_Scanner_string_Fail_io R_scan_Scanner_string_Fail_io
    (by intro x hx; cases hx) (by intro k x hx; cases hx) (by intro x hx; cases hx) (by intro k x hx; cases hx) (fun d out h => ⟨0, (q_scan_Scanner_string_Fail_io_m 0 d).trans h⟩)

@[reducible] def pi_scan_Scanner_string_Run_io : PSh := ⟨[.var 67 [vS, vI, vE]], [.mk false [.ref 0 0], .mk false [vS]]⟩
@[reducible] def po_scan_Scanner_string_Run_io : PSh := ⟨[.var 67 [vS, vI, vE]], [.mk false [vS], .mk false [.ref 0 0]]⟩
@[reducible] def TT_scan_Scanner_string_Run_io : Type := (((((ByteArray × (Int × ((Option Int) × Unit))) × Unit) × (Unit × ((ByteArray × Unit) × ((ByteArray × Unit) × ((Int × Unit) × Unit))))) → Option (((ByteArray × (Int × ((Option Int) × Unit))) × Unit) × ((ByteArray × Unit) × (Unit × Unit)))) × Unit)
@[reducible] def sh_scan_Scanner_string_Run_io_4 : PSh := ⟨[.var 67 [vS, vI, vE]], [.mk false [.ref 0 0], .mk false [vS], .any, .any, .any, .mk false [vS], .mk false [vI], .any, .any, .any, .any, .any, .any, .any, .any, .any, .any, .any, .any, .any, .any, .any, .any, .any, .any, .any]⟩
def f_scan_Scanner_string_Run_io_p4 (T : TT_scan_Scanner_string_Run_io) (d : ((ByteArray × (Int × ((Option Int) × Unit))) × Unit) × (Unit × ((ByteArray × Unit) × ((ByteArray × Unit) × ((Int × Unit) × Unit))))) : Option (((ByteArray × (Int × ((Option Int) × Unit))) × Unit) × ((ByteArray × Unit) × (Unit × Unit))) :=
  let x2 : Int := (d.2.2.2.1.1.size : Int)
  let x3 : Bool := (decide (d.2.2.2.2.1.1 < x2))
  bif x3 then (
  bif decide ((0 : Int) ≤ d.2.2.2.2.1.1) && decide (d.2.2.2.2.1.1 < ((d.2.2.2.1.1.size : Int) : Int)) then (
  let x4 : Int := (bt d.2.2.2.1.1 d.2.2.2.2.1.1)
  (g_strings_IndexByte ((), (d.2.2.1, ((x4, ()), ())))).bind fun x5 =>
  let x6 : Bool := (decide (x5.2.1.1 ≥ (0 : Int)))
  bif x6 then (
  let x7 : Int := (iadd .i64 d.2.2.2.2.1.1 (1 : Int))
  (T.1 (d.1, ((), (d.2.2.1, (d.2.2.2.1, ((x7, ()), ())))))))
  else (
  (g_scan_Scanner_string_take_io (d.1, ((), d.2.2.2.2))).bind fun x8 =>
  some (x8.1, (x8.2.1, ((), ())))))
  else none)
  else (
  (g_scan_Scanner_string_take_io (d.1, ((), d.2.2.2.2))).bind fun x9 =>
  some (x9.1, (x9.2.1, ((), ()))))
def f_scan_Scanner_string_Run_io_t : Nat → TT_scan_Scanner_string_Run_io
  | 0 => (fun _ => none, ())
  | k + 1 => (f_scan_Scanner_string_Run_io_p4 (f_scan_Scanner_string_Run_io_t k), ())
theorem t_scan_Scanner_string_Run_io (k : Nat) : f_scan_Scanner_string_Run_io_t (k + 1) = (f_scan_Scanner_string_Run_io_p4 (f_scan_Scanner_string_Run_io_t k), ()) := rfl
def f_scan_Scanner_string_Run_io_m (T : TT_scan_Scanner_string_Run_io) (d : ((ByteArray × (Int × ((Option Int) × Unit))) × Unit) × (Unit × ((ByteArray × Unit) × Unit))) : Option (((ByteArray × (Int × ((Option Int) × Unit))) × Unit) × ((ByteArray × Unit) × (Unit × Unit))) :=
  (g_scan_Scanner_string_rest ((), (((some (d.1.1.1, (d.1.1.2.1, d.1.1.2.2.1))), ()), ()))).bind fun x1 =>
  (T.1 (d.1, ((), (d.2.2.1, (x1.2.1, (((0 : Int), ()), ()))))))
def c_scan_Scanner_string_Run_io : List Nat := []
def L_scan_Scanner_string_Run_io (k : Nat) : Pts po_scan_Scanner_string_Run_io.den := [(4, ⟨sh_scan_Scanner_string_Run_io_4, (f_scan_Scanner_string_Run_io_t k).1⟩)]
def R_scan_Scanner_string_Run_io (_ : Nat) : PtsR po_scan_Scanner_string_Run_io.den := []
def E_scan_Scanner_string_Run_io : Env := ((((E0.add 31 (typedSem pi_strings_IndexByte po_strings_IndexByte g_strings_IndexByte)).add 41 (ioSem pi_scan_Scanner_string_take_io po_scan_Scanner_string_take_io 1 [(0, 0, none)] g_scan_Scanner_string_take_io)).add 62 (typedSem pi_scan_Scanner_string_rest po_scan_Scanner_string_rest g_scan_Scanner_string_rest)).kp [0])
theorem q_scan_Scanner_string_Run_io_4 (k : Nat) (d : sh_scan_Scanner_string_Run_io_4.den) : evAt E_scan_Scanner_string_Run_io (tb (L_scan_Scanner_string_Run_io k) (R_scan_Scanner_string_Run_io k)) c_scan_Scanner_string_Run_io 4 (bodyOf Tryd.f43) 0 (finKio E_scan_Scanner_string_Run_io po_scan_Scanner_string_Run_io [.tmp 4] [(0, none)]) (ptSt sh_scan_Scanner_string_Run_io_4 d) = f_scan_Scanner_string_Run_io_p4 (f_scan_Scanner_string_Run_io_t k) d := by kernel_rfl
theorem q_scan_Scanner_string_Run_io_m (k : Nat) (d : pi_scan_Scanner_string_Run_io.den) : evCode E_scan_Scanner_string_Run_io (tb (L_scan_Scanner_string_Run_io k) (R_scan_Scanner_string_Run_io k)) c_scan_Scanner_string_Run_io (bodyOf Tryd.f43) 0 (finKio E_scan_Scanner_string_Run_io po_scan_Scanner_string_Run_io [.tmp 4] [(0, none)]) (startSt pi_scan_Scanner_string_Run_io 26 d) = f_scan_Scanner_string_Run_io_m (f_scan_Scanner_string_Run_io_t k) d := by kernel_rfl
def g_scan_Scanner_string_Run_io (d : ((ByteArray × (Int × ((Option Int) × Unit))) × Unit) × (Unit × ((ByteArray × Unit) × Unit))) : Option (((ByteArray × (Int × ((Option Int) × Unit))) × Unit) × ((ByteArray × Unit) × (Unit × Unit))) := lim fun k => f_scan_Scanner_string_Run_io_m (f_scan_Scanner_string_Run_io_t k) d
theorem ok_scan_Scanner_string_Run_io : FnIo Tryd.prog ET0 43 pi_scan_Scanner_string_Run_io po_scan_Scanner_string_Run_io 1 [(0, 0, none)] g_scan_Scanner_string_Run_io :=
  fn_of_bodyIo (E := E_scan_Scanner_string_Run_io) (envOk_kp (envOk_add (envOk_add (envOk_add e0_ok (typed_ok ok_strings_IndexByte)) (io_ok ok_scan_Scanner_string_take_io)) (typed_ok ok_scan_Scanner_string_rest))) (fn := Tryd.f43) Tryd.func43 (by kernel_rfl) (by kernel_rfl) [.tmp 4] [(0, none)] [(0, 0, none)] (by kernel_rfl) (by kernel_rfl) (by kernel_rfl) (by kernel_rfl) (by decide) (by decide) c_scan_Scanner_string_Run_io L_scan_Scanner_string_Run_io R_scan_Scanner_string_Run_io
    (by intro x hx d; simp only [L_scan_Scanner_string_Run_io, List.mem_cons, List.not_mem_nil, or_false] at hx; subst hx; rfl)
    (by intro k x hx d out h; simp only [L_scan_Scanner_string_Run_io, List.mem_cons, List.not_mem_nil, or_false] at hx; subst hx; exact (q_scan_Scanner_string_Run_io_4 k d).trans h)
    (by intro x hx; cases hx)
    (by intro k x hx; cases hx)
    (by intro d out h; obtain ⟨k, hk⟩ := lim_some h; exact ⟨k, (q_scan_Scanner_string_Run_io_m k d).trans hk⟩)

@[reducible] def pi_refid_row_io : PSh := ⟨[.var 67 [vS, vI, vE]], [.mk false [.ref 0 0]]⟩
@[reducible] def po_refid_row_io : PSh := ⟨[.var 67 [vS, vI, vE]], [.mk false [vI], .mk false [.ref 0 0]]⟩
def f_refid_row_io_m (T : Unit) (d : ((ByteArray × (Int × ((Option Int) × Unit))) × Unit) × (Unit × Unit)) : Option (((ByteArray × (Int × ((Option Int) × Unit))) × Unit) × ((Int × Unit) × (Unit × Unit))) :=
  (g_scan_Scanner_string_Run_io (d.1, ((), (((⟨#[48, 49, 50, 51, 52, 53, 54, 55, 56, 57]⟩ : ByteArray), ()), ())))).bind fun x1 =>
  (g_figures_Whole ((), (x1.2.1, (((1 : Int), ()), (((3 : Int), ()), ()))))).bind fun x2 =>
  let x3 : Bool := (!x2.2.2.1.1.isNone)
  bif x3 then (
  let x4 : (Option Int) := (some (2 : Int))
  (g_scan_Scanner_string_Fail_io (x1.1, ((), ((x4, ()), ())))).bind fun x5 =>
  some (x5.1, (x2.2.1, ((), ()))))
  else (
  let x6 : Int := (x1.2.1.1.size : Int)
  let x7 : Bool := (decide (x6 > (1 : Int)))
  bif x7 then (
  bif decide ((0 : Int) ≤ (0 : Int)) && decide ((0 : Int) < ((x1.2.1.1.size : Int) : Int)) then (
  let x8 : Int := (bt x1.2.1.1 (0 : Int))
  let x9 : Bool := (x8 == (48 : Int))
  bif x9 then (
  let x10 : (Option Int) := (some (2 : Int))
  (g_scan_Scanner_string_Fail_io (x1.1, ((), ((x10, ()), ())))).bind fun x11 =>
  some (x11.1, (x2.2.1, ((), ()))))
  else (
  some (x1.1, (x2.2.1, ((), ())))))
  else none)
  else (
  some (x1.1, (x2.2.1, ((), ())))))
def c_refid_row_io : List Nat := []
def L_refid_row_io (_ : Nat) : Pts po_refid_row_io.den := []
def R_refid_row_io (_ : Nat) : PtsR po_refid_row_io.den := []
def E_refid_row_io : Env := ((((E0.add 28 (ioSem pi_scan_Scanner_string_Fail_io po_scan_Scanner_string_Fail_io 0 [(0, 0, none)] g_scan_Scanner_string_Fail_io)).add 43 (ioSem pi_scan_Scanner_string_Run_io po_scan_Scanner_string_Run_io 1 [(0, 0, none)] g_scan_Scanner_string_Run_io)).add 44 (typedSem pi_figures_Whole po_figures_Whole g_figures_Whole)).kp [0])
theorem q_refid_row_io_m (k : Nat) (d : pi_refid_row_io.den) : evCode E_refid_row_io (tb (L_refid_row_io k) (R_refid_row_io k)) c_refid_row_io (bodyOf Tryd.f29) 0 (finKio E_refid_row_io po_refid_row_io [.tmp 2] [(0, none)]) (startSt pi_refid_row_io 29 d) = f_refid_row_io_m () d := by kernel_rfl
def g_refid_row_io (d : ((ByteArray × (Int × ((Option Int) × Unit))) × Unit) × (Unit × Unit)) : Option (((ByteArray × (Int × ((Option Int) × Unit))) × Unit) × ((Int × Unit) × (Unit × Unit))) := f_refid_row_io_m () d
theorem ok_refid_row_io : FnIo Tryd.prog ET0 29 pi_refid_row_io po_refid_row_io 1 [(0, 0, none)] g_refid_row_io :=
  fn_of_bodyIo (E := E_refid_row_io) (envOk_kp (envOk_add (envOk_add (envOk_add e0_ok (io_ok ok_scan_Scanner_string_Fail_io)) (io_ok ok_scan_Scanner_string_Run_io)) (typed_ok ok_figures_Whole))) (fn := Tryd.f29) Tryd.func29 (by kernel_rfl) (by kernel_rfl) [.tmp 2] [(0, none)] [(0, 0, none)] (by kernel_rfl) (by kernel_rfl) (by kernel_rfl) (by kernel_rfl) (by decide) (by decide) c_refid_row_io L_refid_row_io R_refid_row_io
    (by intro x hx; cases hx) (by intro k x hx; cases hx) (by intro x hx; cases hx) (by intro k x hx; cases hx) (fun d out h => ⟨0, (q_refid_row_io_m 0 d).trans h⟩)

@[reducible] def pi_refid_ParseAddress : PSh := ⟨[], [.mk false [vS]]⟩
@[reducible] def po_refid_ParseAddress : PSh := ⟨[], [.mk true [v8, v8, v8, v8], .mk false [vE]]⟩
@[reducible] def TT_refid_ParseAddress : Type := (((((Int × (Int × (Int × (Int × Unit)))) × ((ByteArray × (Int × ((Option Int) × Unit))) × ((Int × (Int × (Int × (Int × Unit)))) × Unit))) × (Unit × (Unit × (Unit × ((Bool × Unit) × ((Int × Unit) × Unit)))))) → Option (Unit × ((Int × (Int × (Int × (Int × Unit)))) × (((Option Int) × Unit) × Unit)))) × (((((Int × (Int × (Int × (Int × Unit)))) × ((ByteArray × (Int × ((Option Int) × Unit))) × ((Int × (Int × (Int × (Int × Unit)))) × Unit))) × (Unit × (Unit × (Unit × ((Bool × Unit) × ((Int × Unit) × ((Int × Unit) × ((Int × Unit) × Unit)))))))) → Option (Unit × ((Int × (Int × (Int × (Int × Unit)))) × (((Option Int) × Unit) × Unit)))) × Unit))
@[reducible] def sh_refid_ParseAddress_6 : PSh := ⟨[.var 23 [v8, v8, v8, v8], .var 67 [vS, vI, vE], .var 23 [v8, v8, v8, v8]], [.any, .any, .mk false [.ref 0 0], .any, .mk false [.ref 1 0], .mk false [.ref 2 0], .mk false [vB], .any, .any, .any, .any, .mk false [vI], .any, .any, .any, .any, .any, .any, .any, .any, .any, .any, .any, .any, .any, .any, .any, .any, .any, .any, .any, .any, .any, .any, .any, .any, .any, .any, .any, .any, .any, .any, .any, .any, .any, .any, .any, .any]⟩
@[reducible] def sh_refid_ParseAddress_14 : PSh := ⟨[.var 23 [v8, v8, v8, v8], .var 67 [vS, vI, vE], .var 23 [v8, v8, v8, v8]], [.any, .any, .mk false [.ref 0 0], .any, .mk false [.ref 1 0], .mk false [.ref 2 0], .mk false [vB], .mk false [vI], .mk false [vI], .any, .any, .mk false [vI], .any, .any, .any, .any, .any, .any, .any, .any, .any, .any, .any, .any, .any, .any, .any, .any, .any, .any, .any, .any, .any, .any, .any, .any, .any, .any, .any, .any, .any, .any, .any, .any, .any, .any, .any, .any]⟩
def f_refid_ParseAddress_p6 (T : TT_refid_ParseAddress) (d : ((Int × (Int × (Int × (Int × Unit)))) × ((ByteArray × (Int × ((Option Int) × Unit))) × ((Int × (Int × (Int × (Int × Unit)))) × Unit))) × (Unit × (Unit × (Unit × ((Bool × Unit) × ((Int × Unit) × Unit)))))) : Option (Unit × ((Int × (Int × (Int × (Int × Unit)))) × (((Option Int) × Unit) × Unit))) :=
  let x2 : Bool := (decide (d.2.2.2.2.2.1.1 < (4 : Int)))
  bif x2 then (
  let x3 : Bool := (decide (d.2.2.2.2.2.1.1 > (0 : Int)))
  bif x3 then (
  (g_scan_Scanner_string_Take_io ((d.1.2.1, ()), ((), (((46 : Int), ()), ())))).bind fun x4 =>
  let x5 : Bool := (!x4.2.1.1)
  bif x5 then (
  let x6 : (Option Int) := (some (2 : Int))
  (g_scan_Scanner_string_Fail_io (x4.1, ((), ((x6, ()), ())))).bind fun x7 =>
  (g_refid_row_io (x7.1, ((), ()))).bind fun x8 =>
  bif d.2.2.2.2.1.1 then (
  let x9 : Bool := (decide (x8.2.1.1 ≤ (255 : Int)))
  (T.2.1 ((d.1.1, (x8.1.1, d.1.2.2)), ((), ((), ((), ((x9, ()), (d.2.2.2.2.2.1, (x8.2.1, d.2.2.2.2.2)))))))))
  else (
  (T.2.1 ((d.1.1, (x8.1.1, d.1.2.2)), ((), ((), ((), ((false, ()), (d.2.2.2.2.2.1, (x8.2.1, d.2.2.2.2.2))))))))))
  else (
  (g_refid_row_io (x4.1, ((), ()))).bind fun x10 =>
  bif d.2.2.2.2.1.1 then (
  let x11 : Bool := (decide (x10.2.1.1 ≤ (255 : Int)))
  (T.2.1 ((d.1.1, (x10.1.1, d.1.2.2)), ((), ((), ((), ((x11, ()), (d.2.2.2.2.2.1, (x10.2.1, d.2.2.2.2.2)))))))))
  else (
  (T.2.1 ((d.1.1, (x10.1.1, d.1.2.2)), ((), ((), ((), ((false, ()), (d.2.2.2.2.2.1, (x10.2.1, d.2.2.2.2.2)))))))))))
  else (
  (g_refid_row_io ((d.1.2.1, ()), ((), ()))).bind fun x12 =>
  bif d.2.2.2.2.1.1 then (
  let x13 : Bool := (decide (x12.2.1.1 ≤ (255 : Int)))
  (T.2.1 ((d.1.1, (x12.1.1, d.1.2.2)), ((), ((), ((), ((x13, ()), (d.2.2.2.2.2.1, (x12.2.1, d.2.2.2.2.2)))))))))
  else (
  (T.2.1 ((d.1.1, (x12.1.1, d.1.2.2)), ((), ((), ((), ((false, ()), (d.2.2.2.2.2.1, (x12.2.1, d.2.2.2.2.2)))))))))))
  else (
  (g_scan_Scanner_string_End ((), (((some (d.1.2.1.1, (d.1.2.1.2.1, d.1.2.1.2.2.1))), ()), ()))).bind fun x14 =>
  let x15 : Bool := (!x14.2.1.1.isNone)
  bif x15 then (
  let x16 : (Option Int) := (some (2 : Int))
  some ((), (((0 : Int), ((0 : Int), ((0 : Int), ((0 : Int), ())))), ((x16, ()), ()))))
  else (
  let x17 : Bool := (!d.2.2.2.2.1.1)
  bif x17 then (
  let x18 : (Option Int) := (some (1 : Int))
  some ((), (((0 : Int), ((0 : Int), ((0 : Int), ((0 : Int), ())))), ((x18, ()), ()))))
  else (
  some ((), (d.1.2.2.1, (((none : Option Int), ()), ()))))))
def f_refid_ParseAddress_p14 (T : TT_refid_ParseAddress) (d : ((Int × (Int × (Int × (Int × Unit)))) × ((ByteArray × (Int × ((Option Int) × Unit))) × ((Int × (Int × (Int × (Int × Unit)))) × Unit))) × (Unit × (Unit × (Unit × ((Bool × Unit) × ((Int × Unit) × ((Int × Unit) × ((Int × Unit) × Unit)))))))) : Option (Unit × ((Int × (Int × (Int × (Int × Unit)))) × (((Option Int) × Unit) × Unit))) :=
  let x19 : Int := (iconv .u8 d.2.2.2.2.2.2.1.1)
  bif decide ((0 : Int) ≤ d.2.2.2.2.2.1.1) && decide (d.2.2.2.2.2.1.1 < (4 : Int)) then (
  bif decide (d.2.2.2.2.2.1.1 = (0 : Int)) then (
  let x23 : Int := (iadd .i64 d.2.2.2.2.2.2.2.1.1 (1 : Int))
  (T.1 ((d.1.1, (d.1.2.1, ((x19, d.1.2.2.1.2), ()))), ((), ((), ((), (d.2.2.2.2.1, ((x23, ()), ()))))))))
  else (
  bif decide (d.2.2.2.2.2.1.1 = (1 : Int)) then (
  let x22 : Int := (iadd .i64 d.2.2.2.2.2.2.2.1.1 (1 : Int))
  (T.1 ((d.1.1, (d.1.2.1, ((d.1.2.2.1.1, (x19, d.1.2.2.1.2.2)), ()))), ((), ((), ((), (d.2.2.2.2.1, ((x22, ()), ()))))))))
  else (
  bif decide (d.2.2.2.2.2.1.1 = (2 : Int)) then (
  let x21 : Int := (iadd .i64 d.2.2.2.2.2.2.2.1.1 (1 : Int))
  (T.1 ((d.1.1, (d.1.2.1, ((d.1.2.2.1.1, (d.1.2.2.1.2.1, (x19, d.1.2.2.1.2.2.2))), ()))), ((), ((), ((), (d.2.2.2.2.1, ((x21, ()), ()))))))))
  else (
  bif decide (d.2.2.2.2.2.1.1 = (3 : Int)) then (
  let x20 : Int := (iadd .i64 d.2.2.2.2.2.2.2.1.1 (1 : Int))
  (T.1 ((d.1.1, (d.1.2.1, ((d.1.2.2.1.1, (d.1.2.2.1.2.1, (d.1.2.2.1.2.2.1, (x19, ())))), ()))), ((), ((), ((), (d.2.2.2.2.1, ((x20, ()), ()))))))))
  else (
  none)))))
  else none
def f_refid_ParseAddress_t : Nat → TT_refid_ParseAddress
  | 0 => (fun _ => none, (fun _ => none, ()))
  | k + 1 => (f_refid_ParseAddress_p6 (f_refid_ParseAddress_t k), (f_refid_ParseAddress_p14 (f_refid_ParseAddress_t k), ()))
theorem t_refid_ParseAddress (k : Nat) : f_refid_ParseAddress_t (k + 1) = (f_refid_ParseAddress_p6 (f_refid_ParseAddress_t k), (f_refid_ParseAddress_p14 (f_refid_ParseAddress_t k), ())) := rfl
def f_refid_ParseAddress_m (T : TT_refid_ParseAddress) (d : Unit × ((ByteArray × Unit) × Unit)) : Option (Unit × ((Int × (Int × (Int × (Int × Unit)))) × (((Option Int) × Unit) × Unit))) :=
  (g_scan_New_string ((), d.2)).bind fun x1 =>
  (T.1 ((((0 : Int), ((0 : Int), ((0 : Int), ((0 : Int), ())))), (x1.1.1, (((0 : Int), ((0 : Int), ((0 : Int), ((0 : Int), ())))), ()))), ((), ((), ((), ((true, ()), (((0 : Int), ()), ())))))))
def c_refid_ParseAddress : List Nat := [14]
def L_refid_ParseAddress (k : Nat) : Pts po_refid_ParseAddress.den := [(6, ⟨sh_refid_ParseAddress_6, (f_refid_ParseAddress_t k).1⟩), (14, ⟨sh_refid_ParseAddress_14, (f_refid_ParseAddress_t k).2.1⟩)]
def R_refid_ParseAddress (_ : Nat) : PtsR po_refid_ParseAddress.den := []
def E_refid_ParseAddress : Env := (((((E0.add 26 (typedSem pi_scan_New_string po_scan_New_string g_scan_New_string)).add 27 (ioSem pi_scan_Scanner_string_Take_io po_scan_Scanner_string_Take_io 1 [(0, 0, none)] g_scan_Scanner_string_Take_io)).add 28 (ioSem pi_scan_Scanner_string_Fail_io po_scan_Scanner_string_Fail_io 0 [(0, 0, none)] g_scan_Scanner_string_Fail_io)).add 29 (ioSem pi_refid_row_io po_refid_row_io 1 [(0, 0, none)] g_refid_row_io)).add 30 (typedSem pi_scan_Scanner_string_End po_scan_Scanner_string_End g_scan_Scanner_string_End))
theorem q_refid_ParseAddress_6 (k : Nat) (d : sh_refid_ParseAddress_6.den) : evAt E_refid_ParseAddress (tb (L_refid_ParseAddress k) (R_refid_ParseAddress k)) c_refid_ParseAddress 6 (bodyOf Tryd.f8) 0 (finK E_refid_ParseAddress po_refid_ParseAddress [.cell 2 23, .tmp 3]) (ptSt sh_refid_ParseAddress_6 d) = f_refid_ParseAddress_p6 (f_refid_ParseAddress_t k) d := by kernel_rfl
theorem q_refid_ParseAddress_14 (k : Nat) (d : sh_refid_ParseAddress_14.den) : evAt E_refid_ParseAddress (tb (L_refid_ParseAddress k) (R_refid_ParseAddress k)) c_refid_ParseAddress 14 (bodyOf Tryd.f8) 0 (finK E_refid_ParseAddress po_refid_ParseAddress [.cell 2 23, .tmp 3]) (ptSt sh_refid_ParseAddress_14 d) = f_refid_ParseAddress_p14 (f_refid_ParseAddress_t k) d := by kernel_rfl
theorem q_refid_ParseAddress_m (k : Nat) (d : pi_refid_ParseAddress.den) : evCode E_refid_ParseAddress (tb (L_refid_ParseAddress k) (R_refid_ParseAddress k)) c_refid_ParseAddress (bodyOf Tryd.f8) 0 (finK E_refid_ParseAddress po_refid_ParseAddress [.cell 2 23, .tmp 3]) (startSt pi_refid_ParseAddress 48 d) = f_refid_ParseAddress_m (f_refid_ParseAddress_t k) d := by kernel_rfl
def g_refid_ParseAddress (d : Unit × ((ByteArray × Unit) × Unit)) : Option (Unit × ((Int × (Int × (Int × (Int × Unit)))) × (((Option Int) × Unit) × Unit))) := lim fun k => f_refid_ParseAddress_m (f_refid_ParseAddress_t k) d
theorem ok_refid_ParseAddress : FnOk Tryd.prog ET0 8 pi_refid_ParseAddress po_refid_ParseAddress g_refid_ParseAddress :=
  fn_of_body (E := E_refid_ParseAddress) (envOk_add (envOk_add (envOk_add (envOk_add (envOk_add e0_ok (typed_ok ok_scan_New_string)) (io_ok ok_scan_Scanner_string_Take_io)) (io_ok ok_scan_Scanner_string_Fail_io)) (io_ok ok_refid_row_io)) (typed_ok ok_scan_Scanner_string_End)) (fn := Tryd.f8) Tryd.func8 (by kernel_rfl) (by kernel_rfl) [.cell 2 23, .tmp 3] (by kernel_rfl) (by kernel_rfl) (by decide) rfl c_refid_ParseAddress L_refid_ParseAddress R_refid_ParseAddress
    (by intro x hx d; simp only [L_refid_ParseAddress, List.mem_cons, List.not_mem_nil, or_false] at hx; rcases hx with rfl | rfl; rfl; rfl)
    (by intro k x hx d out h; simp only [L_refid_ParseAddress, List.mem_cons, List.not_mem_nil, or_false] at hx; rcases hx with rfl | rfl; exact (q_refid_ParseAddress_6 k d).trans h; exact (q_refid_ParseAddress_14 k d).trans h)
    (by intro x hx; cases hx)
    (by intro k x hx; cases hx)
    (by intro d out h; obtain ⟨k, hk⟩ := lim_some h; exact ⟨k, (q_refid_ParseAddress_m k d).trans hk⟩)

@[reducible] def pi_refid_Parse : PSh := ⟨[], [.mk false [vS]]⟩
@[reducible] def po_refid_Parse : PSh := ⟨[], [.mk true [v8, v8, v8, v8], .mk false [vE]]⟩
def f_refid_Parse_m (T : Unit) (d : Unit × ((ByteArray × Unit) × Unit)) : Option (Unit × ((Int × (Int × (Int × (Int × Unit)))) × (((Option Int) × Unit) × Unit))) :=
  (g_strings_IndexByte ((), (d.2.1, (((46 : Int), ()), ())))).bind fun x1 =>
  let x2 : Bool := (decide (x1.2.1.1 ≥ (0 : Int)))
  bif x2 then (
  (g_refid_ParseAddress ((), d.2)).bind fun x3 =>
  some ((), x3.2))
  else (
  (g_refid_Code ((), d.2)).bind fun x4 =>
  some ((), x4.2))
def g_refid_Parse (d : Unit × ((ByteArray × Unit) × Unit)) : Option (Unit × ((Int × (Int × (Int × (Int × Unit)))) × (((Option Int) × Unit) × Unit))) := f_refid_Parse_m () d
theorem ok_refid_Parse : FnOk Tryd.prog ET0 9 pi_refid_Parse po_refid_Parse g_refid_Parse :=
  fn0 (E := (((E0.add 7 (typedSem pi_refid_Code po_refid_Code g_refid_Code)).add 8 (typedSem pi_refid_ParseAddress po_refid_ParseAddress g_refid_ParseAddress)).add 31 (typedSem pi_strings_IndexByte po_strings_IndexByte g_strings_IndexByte))) (envOk_add (envOk_add (envOk_add e0_ok (typed_ok ok_refid_Code)) (typed_ok ok_refid_ParseAddress)) (typed_ok ok_strings_IndexByte)) (fn := Tryd.f9) Tryd.func9 (by kernel_rfl) (by kernel_rfl) [.cell 2 23, .tmp 3] (by kernel_rfl) rfl rfl rfl [] fun d => by kernel_rfl

@[reducible] def pi_refid_Name : PSh := ⟨[], [.mk true [v8, v8, v8, v8]]⟩
@[reducible] def po_refid_Name : PSh := ⟨[], [.mk false [vS], .mk false [vB]]⟩
def f_refid_Name_m (T : Unit) (d : Unit × ((Int × (Int × (Int × (Int × Unit)))) × Unit)) : Option (Unit × ((ByteArray × Unit) × ((Bool × Unit) × Unit))) :=
  let x1 : (Int × (Int × (Int × Int))) := (d.2.1.1, (d.2.1.2.1, (d.2.1.2.2.1, d.2.1.2.2.2.1)))
  let x2 : (List Int) := ([x1.1, x1.2.1, x1.2.2.1, x1.2.2.2] : List Int)
  let x3 : ByteArray := (strOf x2)
  (g_strings_TrimRight ((), ((x3, ()), (((⟨#[0]⟩ : ByteArray), ()), ())))).bind fun x4 =>
  (g_refid_Code ((), x4.2)).bind fun x5 =>
  let x6 : Bool := (!x5.2.2.1.1.isNone)
  bif x6 then (
  some ((), (((⟨#[]⟩ : ByteArray), ()), ((false, ()), ()))))
  else (
  some ((), (x4.2.1, ((true, ()), ()))))
def g_refid_Name (d : Unit × ((Int × (Int × (Int × (Int × Unit)))) × Unit)) : Option (Unit × ((ByteArray × Unit) × ((Bool × Unit) × Unit))) := f_refid_Name_m () d
theorem ok_refid_Name : FnOk Tryd.prog ET0 17 pi_refid_Name po_refid_Name g_refid_Name :=
  fn0 (E := (((E0.add 7 (typedSem pi_refid_Code po_refid_Code g_refid_Code)).add 37 (typedSem pi_strings_TrimRight po_strings_TrimRight g_strings_TrimRight)).fr [(7, [1])])) (envOk_fr (envOk_add (envOk_add e0_ok (typed_ok ok_refid_Code)) (typed_ok ok_strings_TrimRight))) (fn := Tryd.f17) Tryd.func17 (by kernel_rfl) (by kernel_rfl) [.tmp 2, .tmp 3] (by kernel_rfl) rfl rfl rfl [] fun d => by kernel_rfl

@[reducible] def pi_strings_splitSeq : PSh := ⟨[], [.mk false [vS], .mk false [vS], .mk false [vI]]⟩
@[reducible] def po_strings_splitSeq : PSh := ⟨[.var 9 [vS], .var 9 [vS], .var 3 [vI]], [.mk false [.fn 72 [0, 1, 2]]]⟩
def f_strings_splitSeq_m (T : Unit) (d : Unit × ((ByteArray × Unit) × ((ByteArray × Unit) × ((Int × Unit) × Unit)))) : Option (((ByteArray × Unit) × ((ByteArray × Unit) × ((Int × Unit) × Unit))) × (Unit × Unit)) :=
  some ((d.2.2.1, (d.2.1, d.2.2.2)), ((), ()))
def g_strings_splitSeq (d : Unit × ((ByteArray × Unit) × ((ByteArray × Unit) × ((Int × Unit) × Unit)))) : Option (((ByteArray × Unit) × ((ByteArray × Unit) × ((Int × Unit) × Unit))) × (Unit × Unit)) := f_strings_splitSeq_m () d
theorem ok_strings_splitSeq : FnOk Tryd.prog ET0 61 pi_strings_splitSeq po_strings_splitSeq g_strings_splitSeq :=
  fn0 (E := E0) e0_ok (fn := Tryd.f61) Tryd.func61 (by kernel_rfl) (by kernel_rfl) [.tmp 6] (by kernel_rfl) rfl rfl rfl [] fun d => by kernel_rfl

@[reducible] def pi_strings_SplitSeq : PSh := ⟨[], [.mk false [vS], .mk false [vS]]⟩
@[reducible] def po_strings_SplitSeq : PSh := ⟨[.var 9 [vS], .var 9 [vS], .var 3 [vI]], [.mk false [.fn 72 [0, 1, 2]]]⟩
def f_strings_SplitSeq_m (T : Unit) (d : Unit × ((ByteArray × Unit) × ((ByteArray × Unit) × Unit))) : Option (((ByteArray × Unit) × ((ByteArray × Unit) × ((Int × Unit) × Unit))) × (Unit × Unit)) :=
  (g_strings_splitSeq ((), (d.2.1, (d.2.2.1, (((0 : Int), ()), ()))))).bind fun x1 =>
  some (x1.1, ((), ()))
def g_strings_SplitSeq (d : Unit × ((ByteArray × Unit) × ((ByteArray × Unit) × Unit))) : Option (((ByteArray × Unit) × ((ByteArray × Unit) × ((Int × Unit) × Unit))) × (Unit × Unit)) := f_strings_SplitSeq_m () d
theorem ok_strings_SplitSeq : FnOk Tryd.prog ET0 39 pi_strings_SplitSeq po_strings_SplitSeq g_strings_SplitSeq :=
  fn0 (E := (E0.add 61 (typedSem pi_strings_splitSeq po_strings_splitSeq g_strings_splitSeq))) (envOk_add e0_ok (typed_ok ok_strings_splitSeq)) (fn := Tryd.f39) Tryd.func39 (by kernel_rfl) (by kernel_rfl) [.tmp 4] (by kernel_rfl) rfl rfl rfl [] fun d => by kernel_rfl

/- strings.splitSeq$1 -/
@[reducible] def TY_strings_splitSeq_1 : Type := (((((ByteArray × Unit) × Unit) × (Unit × Unit)) → Option (List ByteArray)) × (((((ByteArray × Unit) × Unit) × (((Option ByteArray) × Unit) × (Unit × (((Option Int) × Unit) × Unit)))) → Option (List ByteArray)) × Unit))
@[reducible] def sh_strings_splitSeq_1_3 : PSh := ⟨[.var 9 [vS]], [.any, .any, .mk false [.ref 0 0], .any, .any, .any, .any, .any, .any, .any, .any, .any, .any, .any, .any, .any, .any, .any, .any, .any, .any, .any, .any, .any, .any, .any, .any, .any, .any, .any, .any, .any, .any, .any, .any, .any, .any, .any, .any, .any, .any, .any, .any, .any, .any, .any, .any, .any, .any, .any, .any, .any]⟩
@[reducible] def sh_strings_splitSeq_1_10 : PSh := ⟨[.var 9 [vS]], [.any, .mk false [.v (.nptr .str)], .mk false [.ref 0 0], .mk false [.v (.nptr (.int .i64))], .any, .any, .any, .any, .any, .any, .any, .any, .any, .any, .any, .any, .any, .any, .any, .any, .any, .any, .any, .any, .any, .any, .any, .any, .any, .any, .any, .any, .any, .any, .any, .any, .any, .any, .any, .any, .any, .any, .any, .any, .any, .any, .any, .any, .any, .any, .any, .any]⟩
def f_strings_splitSeq_1_p3 (T : TY_strings_splitSeq_1) (d : ((ByteArray × Unit) × Unit) × (Unit × Unit)) : Option (List ByteArray) :=
  let x4 : Int := (d.1.1.1.size : Int)
  let x5 : Bool := (decide (x4 > (0 : Int)))
  bif x5 then (
  none)
  else (
  some ([] : List ByteArray))
def f_strings_splitSeq_1_p10 (T : TY_strings_splitSeq_1) (d : ((ByteArray × Unit) × Unit) × (((Option ByteArray) × Unit) × (Unit × (((Option Int) × Unit) × Unit)))) : Option (List ByteArray) :=
  d.2.1.1.bind fun x6 =>
  (g_strings_Index ((), ((d.1.1.1, ()), ((x6, ()), ())))).bind fun x7 =>
  let x8 : Bool := (decide (x7.2.1.1 < (0 : Int)))
  bif x8 then (
  (some ([] : List ByteArray)).bind fun (x9 : List ByteArray) =>
  bif x9.isEmpty then (
  (some ([] : List ByteArray)).bind fun (x10 : List ByteArray) =>
  some (d.1.1.1 :: x10))
  else none)
  else (
  d.2.2.2.1.1.bind fun x11 =>
  let x12 : Int := (iadd .i64 x7.2.1.1 x11)
  bif decide ((0 : Int) ≤ (0 : Int)) && decide ((0 : Int) ≤ x12) && decide (x12 ≤ (d.1.1.1.size : Int)) then (
  let x13 : ByteArray := (d.1.1.1.extract (Int.toNat (0 : Int)) (Int.toNat x12))
  (some ([] : List ByteArray)).bind fun (x14 : List ByteArray) =>
  bif x14.isEmpty then (
  (d.2.1.1.bind fun x16 =>
  let x17 : Int := (x16.size : Int)
  let x18 : Int := (iadd .i64 x7.2.1.1 x17)
  bif decide ((0 : Int) ≤ x18) && decide (x18 ≤ (d.1.1.1.size : Int)) && decide ((d.1.1.1.size : Int) ≤ (d.1.1.1.size : Int)) then (
  let x19 : ByteArray := (d.1.1.1.extract (Int.toNat x18) (Int.toNat (d.1.1.1.size : Int)))
  (T.2.1 (((x19, ()), ()), ((d.2.1.1, ()), ((), ((d.2.2.2.1.1, ()), ()))))))
  else none).bind fun (x15 : List ByteArray) =>
  some (x13 :: x15))
  else none)
  else none)
def f_strings_splitSeq_1_t : Nat → TY_strings_splitSeq_1
  | 0 => (fun _ => none, (fun _ => none, ()))
  | k + 1 => (f_strings_splitSeq_1_p3 (f_strings_splitSeq_1_t k), (f_strings_splitSeq_1_p10 (f_strings_splitSeq_1_t k), ()))
theorem t_strings_splitSeq_1 (k : Nat) : f_strings_splitSeq_1_t (k + 1) = (f_strings_splitSeq_1_p3 (f_strings_splitSeq_1_t k), (f_strings_splitSeq_1_p10 (f_strings_splitSeq_1_t k), ())) := rfl
def f_strings_splitSeq_1_m (T : TY_strings_splitSeq_1) (d : (ByteArray × (ByteArray × (Int × Unit)))) : Option (List ByteArray) :=
  (some d.1).bind fun x1 =>
  let x2 : Int := (x1.size : Int)
  let x3 : Bool := (x2 == (0 : Int))
  bif x3 then (
  (T.1 (((d.2.1, ()), ()), ((), ()))))
  else (
  (T.2.1 (((d.2.1, ()), ()), (((some d.1), ()), ((), (((some d.2.2.1), ()), ()))))))
def L_strings_splitSeq_1 (k : Nat) : Pts (List ByteArray) := [(3, ⟨sh_strings_splitSeq_1_3, (f_strings_splitSeq_1_t k).1⟩), (10, ⟨sh_strings_splitSeq_1_10, (f_strings_splitSeq_1_t k).2.1⟩)]
def F_strings_splitSeq_1 (d : (ByteArray × (ByteArray × (Int × Unit)))) : Option (List ByteArray) := lim fun k => f_strings_splitSeq_1_m (f_strings_splitSeq_1_t k) d
def sq_strings_splitSeq_1 : SeqSem := ⟨[(9, .str), (9, .str), (3, (.int .i64))], [false, true, false], .str, F_strings_splitSeq_1⟩
def E_strings_splitSeq_1 : Env := (E0.add 74 (typedSem pi_strings_Index po_strings_Index g_strings_Index))
theorem q_strings_splitSeq_1_3 (k : Nat) (d : ((ByteArray × Unit) × Unit) × (Unit × Unit)) : evAtY E_strings_splitSeq_1 .str (tabY (L_strings_splitSeq_1 k)) 3 (bodyOf Tryd.f72) 0 finY (ptSt sh_strings_splitSeq_1_3 d) = f_strings_splitSeq_1_p3 (f_strings_splitSeq_1_t k) d := by kernel_rfl
theorem q_strings_splitSeq_1_10 (k : Nat) (d : ((ByteArray × Unit) × Unit) × (((Option ByteArray) × Unit) × (Unit × (((Option Int) × Unit) × Unit)))) : evAtY E_strings_splitSeq_1 .str (tabY (L_strings_splitSeq_1 k)) 10 (bodyOf Tryd.f72) 0 finY (ptSt sh_strings_splitSeq_1_10 d) = f_strings_splitSeq_1_p10 (f_strings_splitSeq_1_t k) d := by kernel_rfl
theorem q_strings_splitSeq_1_m (k : Nat) (d : (ByteArray × (ByteArray × (Int × Unit)))) : evCodeY E_strings_splitSeq_1 .str (tabY (L_strings_splitSeq_1 k)) (bodyOf Tryd.f72) 0 finY (startY sq_strings_splitSeq_1.ts sq_strings_splitSeq_1.wr 52 d) = f_strings_splitSeq_1_m (f_strings_splitSeq_1_t k) d := by kernel_rfl
theorem okq_strings_splitSeq_1 : SeqOk Tryd.prog ET0 72 sq_strings_splitSeq_1 := by
  refine seq_of_body (E := E_strings_splitSeq_1) (envOk_add e0_ok (typed_ok ok_strings_Index)) rfl rfl (fn := Tryd.f72) Tryd.func72 (by kernel_rfl) (by kernel_rfl) (by kernel_rfl) (by kernel_rfl) L_strings_splitSeq_1 ?_ ?_ ?_ (by intro d l h; obtain ⟨k, hk⟩ := lim_some h; exact ⟨k, (q_strings_splitSeq_1_m k d).trans hk⟩)
  · intro x hx d
    rcases List.mem_cons.1 hx with rfl | hx
    · rfl
    ·
      rcases List.mem_cons.1 hx with rfl | hx
      · rfl
      ·
        cases hx
  · intro k x hx
    rcases List.mem_cons.1 hx with rfl | hx
    · rfl
    ·
      rcases List.mem_cons.1 hx with rfl | hx
      · rfl
      ·
        cases hx
  · intro k x hx d out h
    rcases List.mem_cons.1 hx with rfl | hx
    · exact (q_strings_splitSeq_1_3 k d).trans h
    ·
      rcases List.mem_cons.1 hx with rfl | hx
      · exact (q_strings_splitSeq_1_10 k d).trans h
      ·
        cases hx

@[reducible] def pi_refid_Refuses : PSh := ⟨[], [.mk true [v8, v8, v8, v8]]⟩
@[reducible] def po_refid_Refuses : PSh := ⟨[], [.mk false [vB]]⟩
@[reducible] def TT_refid_Refuses : Type := ((List ByteArray → (((Bool × Unit) × ((ByteArray × Unit) × Unit)) × (Unit × (Unit × Unit))) → Option (Unit × ((Bool × Unit) × Unit))) × Unit)
@[reducible] def sh_refid_Refuses_4 : PSh := ⟨[.var 4 [vB], .var 9 [vS]], [.any, .any, .mk false [.ref 0 0], .mk false [.ref 1 0], .any, .any, .any, .any, .any, .any, .any, .any, .any, .any, .any, .any]⟩
def f_refid_Refuses_p4 (T : TT_refid_Refuses) (l : List ByteArray) (d : ((Bool × Unit) × ((ByteArray × Unit) × Unit)) × (Unit × (Unit × Unit))) : Option (Unit × ((Bool × Unit) × Unit)) :=
  bif l.isEmpty then (
  some ((), ((false, ()), ())))
  else (
  let x4 : ByteArray := (gd .str l (0 : Int))
  let x5 : Bool := (x4.toList == d.1.2.1.1.toList)
  bif x5 then (
  some ((), ((true, ()), ())))
  else (
  (T.1 (List.drop 1 l) (d.1, ((), ((), ()))))))
def f_refid_Refuses_t : Nat → TT_refid_Refuses
  | 0 => (fun _ _ => none, ())
  | k + 1 => (f_refid_Refuses_p4 (f_refid_Refuses_t k), ())
theorem t_refid_Refuses (k : Nat) : f_refid_Refuses_t (k + 1) = (f_refid_Refuses_p4 (f_refid_Refuses_t k), ()) := rfl
def f_refid_Refuses_m (T : TT_refid_Refuses) (d : Unit × ((Int × (Int × (Int × (Int × Unit)))) × Unit)) : Option (Unit × ((Bool × Unit) × Unit)) :=
  (g_refid_Name ((), d.2)).bind fun x1 =>
  (g_strings_SplitSeq ((), (((⟨#[65, 67, 83, 84, 32, 65, 85, 84, 72, 32, 65, 85, 84, 79, 32, 66, 67, 83, 84, 32, 67, 82, 89, 80, 32, 68, 69, 78, 89, 32, 68, 82, 79, 80, 32, 82, 83, 84, 82, 32, 73, 78, 73, 84, 32, 77, 67, 83, 84, 32, 78, 75, 69, 89, 32, 82, 65, 84, 69, 32, 82, 77, 79, 84, 32, 83, 84, 69, 80]⟩ : ByteArray), ()), (((⟨#[32]⟩ : ByteArray), ()), ())))).bind fun x2 =>
  (F_strings_splitSeq_1 (x2.1.1.1, (x2.1.2.1.1, (x2.1.2.2.1.1, ())))).bind fun x3 =>
  (T.1 x3 (((false, ()), (x1.2.1, ())), ((), ((), ()))))
def c_refid_Refuses : List Nat := []
def L_refid_Refuses (_ : Nat) : Pts po_refid_Refuses.den := []
def R_refid_Refuses (k : Nat) : PtsR po_refid_Refuses.den := [(4, ⟨(sh_refid_Refuses_4, .str), (f_refid_Refuses_t k).1⟩)]
def E_refid_Refuses : Env := (((E0.add 17 (typedSem pi_refid_Name po_refid_Name g_refid_Name)).add 39 (typedSem pi_strings_SplitSeq po_strings_SplitSeq g_strings_SplitSeq)).sq 72 sq_strings_splitSeq_1)
theorem q_refid_Refuses_4 (k : Nat) (l : List ByteArray) (d : sh_refid_Refuses_4.den) : evAtR E_refid_Refuses (tb (L_refid_Refuses k) (R_refid_Refuses k)) c_refid_Refuses 4 (bodyOf Tryd.f22) 0 (finK E_refid_Refuses po_refid_Refuses [.cell 2 4]) .str l (ptSt sh_refid_Refuses_4 d) = f_refid_Refuses_p4 (f_refid_Refuses_t k) l d := by kernel_rfl
theorem q_refid_Refuses_m (k : Nat) (d : pi_refid_Refuses.den) : evCode E_refid_Refuses (tb (L_refid_Refuses k) (R_refid_Refuses k)) c_refid_Refuses (bodyOf Tryd.f22) 0 (finK E_refid_Refuses po_refid_Refuses [.cell 2 4]) (startSt pi_refid_Refuses 16 d) = f_refid_Refuses_m (f_refid_Refuses_t k) d := by kernel_rfl
def g_refid_Refuses (d : Unit × ((Int × (Int × (Int × (Int × Unit)))) × Unit)) : Option (Unit × ((Bool × Unit) × Unit)) := lim fun k => f_refid_Refuses_m (f_refid_Refuses_t k) d
theorem ok_refid_Refuses : FnOk Tryd.prog ET0 22 pi_refid_Refuses po_refid_Refuses g_refid_Refuses :=
  fn_of_body (E := E_refid_Refuses) (envOk_sq (envOk_add (envOk_add e0_ok (typed_ok ok_refid_Name)) (typed_ok ok_strings_SplitSeq)) okq_strings_splitSeq_1) (fn := Tryd.f22) Tryd.func22 (by kernel_rfl) (by kernel_rfl) [.cell 2 4] (by kernel_rfl) (by kernel_rfl) (by decide) rfl c_refid_Refuses L_refid_Refuses R_refid_Refuses
    (by intro x hx; cases hx)
    (by intro k x hx; cases hx)
    (by intro x hx l d; simp only [R_refid_Refuses, List.mem_cons, List.not_mem_nil, or_false] at hx; subst hx; rfl)
    (by intro k x hx l d out h; simp only [R_refid_Refuses, List.mem_cons, List.not_mem_nil, or_false] at hx; subst hx; exact (q_refid_Refuses_4 k l d).trans h)
    (by intro d out h; obtain ⟨k, hk⟩ := lim_some h; exact ⟨k, (q_refid_Refuses_m k d).trans hk⟩)

@[reducible] def pi_law30_alive : PSh := ⟨[], []⟩
@[reducible] def po_law30_alive : PSh := ⟨[], [.mk false [vB]]⟩
def f_law30_alive_m (T : Unit) (d : Unit × Unit) : Option (Unit × ((Bool × Unit) × Unit)) :=
  (g_refid_Code ((), (((⟨#[71, 80, 83]⟩ : ByteArray), ()), ()))).bind fun x1 =>
  (g_refid_Parse ((), (((⟨#[49, 57, 50, 46, 48, 46, 50, 46, 49]⟩ : ByteArray), ()), ()))).bind fun x2 =>
  bif x1.2.2.1.1.isNone then (
  bif x2.2.2.1.1.isNone then (
  let x3 : Bool := ((x1.2.1.1 == (71 : Int)) && ((x1.2.1.2.1 == (80 : Int)) && ((x1.2.1.2.2.1 == (83 : Int)) && ((x1.2.1.2.2.2.1 == (0 : Int)) && true))))
  bif x3 then (
  let x4 : Bool := ((x2.2.1.1 == (192 : Int)) && ((x2.2.1.2.1 == (0 : Int)) && ((x2.2.1.2.2.1 == (2 : Int)) && ((x2.2.1.2.2.2.1 == (1 : Int)) && true))))
  bif x4 then (
  (g_refid_Refuses ((), (((82 : Int), ((65 : Int), ((84 : Int), ((69 : Int), ())))), ()))).bind fun x5 =>
  some ((), x5.2))
  else (
  some ((), ((false, ()), ()))))
  else (
  some ((), ((false, ()), ()))))
  else (
  some ((), ((false, ()), ()))))
  else (
  some ((), ((false, ()), ())))
def g_law30_alive (d : Unit × Unit) : Option (Unit × ((Bool × Unit) × Unit)) := f_law30_alive_m () d
theorem ok_law30_alive : FnOk Tryd.prog ET0 6 pi_law30_alive po_law30_alive g_law30_alive :=
  fn0 (E := (((E0.add 7 (typedSem pi_refid_Code po_refid_Code g_refid_Code)).add 9 (typedSem pi_refid_Parse po_refid_Parse g_refid_Parse)).add 22 (typedSem pi_refid_Refuses po_refid_Refuses g_refid_Refuses))) (envOk_add (envOk_add (envOk_add e0_ok (typed_ok ok_refid_Code)) (typed_ok ok_refid_Parse)) (typed_ok ok_refid_Refuses)) (fn := Tryd.f6) Tryd.func6 (by kernel_rfl) (by kernel_rfl) [.tmp 0] (by kernel_rfl) rfl rfl rfl [] fun d => by kernel_rfl

@[reducible] def pi_refid_Address : PSh := ⟨[], [.mk true [v8, v8, v8, v8]]⟩
@[reducible] def po_refid_Address : PSh := ⟨[], [.mk false [vS]]⟩
@[reducible] def TT_refid_Address : Type := (((((List ByteArray) × Unit) × (Unit × ((Int × (Int × (Int × (Int × Unit)))) × ((Int × Unit) × Unit)))) → Option (Unit × ((ByteArray × Unit) × Unit))) × Unit)
@[reducible] def sh_refid_Address_4 : PSh := ⟨[.row 9 .str], [.any, .any, .any, .mk false [.osl 0], .any, .any, .mk true [v8, v8, v8, v8], .mk false [vI], .any, .any, .any, .any, .any, .any, .any, .any, .any, .any, .any]⟩
def f_refid_Address_p4 (T : TT_refid_Address) (d : ((List ByteArray) × Unit) × (Unit × ((Int × (Int × (Int × (Int × Unit)))) × ((Int × Unit) × Unit)))) : Option (Unit × ((ByteArray × Unit) × Unit)) :=
  let x1 : Bool := (decide (d.2.2.2.1.1 < (4 : Int)))
  bif x1 then (
  bif decide ((0 : Int) ≤ d.2.2.2.1.1) && decide (d.2.2.2.1.1 < (4 : Int)) then (
  bif decide (d.2.2.2.1.1 = (0 : Int)) then (
  let x17 : Int := (iconv .i64 d.2.2.1.1)
  (g_strconv_Itoa ((), ((x17, ()), ()))).bind fun x18 =>
  let x19 : (List ByteArray) := ([x18.2.1.1] : List ByteArray)
  bif decide (((d.1.1.length + x19.length) * 16 : Nat) ≤ 140737488355328) && decide (d.1.1.length + x19.length ≤ 9223372036854775807) then (
  let x20 : (List ByteArray) := (d.1.1 ++ x19)
  let x21 : Int := (iadd .i64 d.2.2.2.1.1 (1 : Int))
  (T.1 ((x20, ()), ((), (d.2.2.1, ((x21, ()), ()))))))
  else none)
  else (
  bif decide (d.2.2.2.1.1 = (1 : Int)) then (
  let x12 : Int := (iconv .i64 d.2.2.1.2.1)
  (g_strconv_Itoa ((), ((x12, ()), ()))).bind fun x13 =>
  let x14 : (List ByteArray) := ([x13.2.1.1] : List ByteArray)
  bif decide (((d.1.1.length + x14.length) * 16 : Nat) ≤ 140737488355328) && decide (d.1.1.length + x14.length ≤ 9223372036854775807) then (
  let x15 : (List ByteArray) := (d.1.1 ++ x14)
  let x16 : Int := (iadd .i64 d.2.2.2.1.1 (1 : Int))
  (T.1 ((x15, ()), ((), (d.2.2.1, ((x16, ()), ()))))))
  else none)
  else (
  bif decide (d.2.2.2.1.1 = (2 : Int)) then (
  let x7 : Int := (iconv .i64 d.2.2.1.2.2.1)
  (g_strconv_Itoa ((), ((x7, ()), ()))).bind fun x8 =>
  let x9 : (List ByteArray) := ([x8.2.1.1] : List ByteArray)
  bif decide (((d.1.1.length + x9.length) * 16 : Nat) ≤ 140737488355328) && decide (d.1.1.length + x9.length ≤ 9223372036854775807) then (
  let x10 : (List ByteArray) := (d.1.1 ++ x9)
  let x11 : Int := (iadd .i64 d.2.2.2.1.1 (1 : Int))
  (T.1 ((x10, ()), ((), (d.2.2.1, ((x11, ()), ()))))))
  else none)
  else (
  bif decide (d.2.2.2.1.1 = (3 : Int)) then (
  let x2 : Int := (iconv .i64 d.2.2.1.2.2.2.1)
  (g_strconv_Itoa ((), ((x2, ()), ()))).bind fun x3 =>
  let x4 : (List ByteArray) := ([x3.2.1.1] : List ByteArray)
  bif decide (((d.1.1.length + x4.length) * 16 : Nat) ≤ 140737488355328) && decide (d.1.1.length + x4.length ≤ 9223372036854775807) then (
  let x5 : (List ByteArray) := (d.1.1 ++ x4)
  let x6 : Int := (iadd .i64 d.2.2.2.1.1 (1 : Int))
  (T.1 ((x5, ()), ((), (d.2.2.1, ((x6, ()), ()))))))
  else none)
  else (
  none)))))
  else none)
  else (
  (g_strings_Join ((), (d.1, (((⟨#[46]⟩ : ByteArray), ()), ())))).bind fun x22 =>
  some ((), x22.2))
def f_refid_Address_t : Nat → TT_refid_Address
  | 0 => (fun _ => none, ())
  | k + 1 => (f_refid_Address_p4 (f_refid_Address_t k), ())
theorem t_refid_Address (k : Nat) : f_refid_Address_t (k + 1) = (f_refid_Address_p4 (f_refid_Address_t k), ()) := rfl
def f_refid_Address_m (T : TT_refid_Address) (d : Unit × ((Int × (Int × (Int × (Int × Unit)))) × Unit)) : Option (Unit × ((ByteArray × Unit) × Unit)) :=
  (T.1 ((([] : List ByteArray), ()), ((), (d.2.1, (((0 : Int), ()), ())))))
def c_refid_Address : List Nat := []
def L_refid_Address (k : Nat) : Pts po_refid_Address.den := [(4, ⟨sh_refid_Address_4, (f_refid_Address_t k).1⟩)]
def R_refid_Address (_ : Nat) : PtsR po_refid_Address.den := []
def E_refid_Address : Env := ((E0.add 33 (typedSem pi_strconv_Itoa po_strconv_Itoa g_strconv_Itoa)).add 34 (typedSem pi_strings_Join po_strings_Join g_strings_Join))
theorem q_refid_Address_4 (k : Nat) (d : sh_refid_Address_4.den) : evAt E_refid_Address (tb (L_refid_Address k) (R_refid_Address k)) c_refid_Address 4 (bodyOf Tryd.f14) 0 (finK E_refid_Address po_refid_Address [.tmp 2]) (ptSt sh_refid_Address_4 d) = f_refid_Address_p4 (f_refid_Address_t k) d := by kernel_rfl
theorem q_refid_Address_m (k : Nat) (d : pi_refid_Address.den) : evCode E_refid_Address (tb (L_refid_Address k) (R_refid_Address k)) c_refid_Address (bodyOf Tryd.f14) 0 (finK E_refid_Address po_refid_Address [.tmp 2]) (startSt pi_refid_Address 19 d) = f_refid_Address_m (f_refid_Address_t k) d := by kernel_rfl
def g_refid_Address (d : Unit × ((Int × (Int × (Int × (Int × Unit)))) × Unit)) : Option (Unit × ((ByteArray × Unit) × Unit)) := lim fun k => f_refid_Address_m (f_refid_Address_t k) d
theorem ok_refid_Address : FnOk Tryd.prog ET0 14 pi_refid_Address po_refid_Address g_refid_Address :=
  fn_of_body (E := E_refid_Address) (envOk_add (envOk_add e0_ok (typed_ok ok_strconv_Itoa)) (typed_ok ok_strings_Join)) (fn := Tryd.f14) Tryd.func14 (by kernel_rfl) (by kernel_rfl) [.tmp 2] (by kernel_rfl) (by kernel_rfl) (by decide) rfl c_refid_Address L_refid_Address R_refid_Address
    (by intro x hx d; simp only [L_refid_Address, List.mem_cons, List.not_mem_nil, or_false] at hx; subst hx; rfl)
    (by intro k x hx d out h; simp only [L_refid_Address, List.mem_cons, List.not_mem_nil, or_false] at hx; subst hx; exact (q_refid_Address_4 k d).trans h)
    (by intro x hx; cases hx)
    (by intro k x hx; cases hx)
    (by intro d out h; obtain ⟨k, hk⟩ := lim_some h; exact ⟨k, (q_refid_Address_m k d).trans hk⟩)

@[reducible] def pi_octets_from : PSh := ⟨[], [.mk false [.v (.sl (.int .u8))], .mk false [vI], .mk false [vI]]⟩
@[reducible] def po_octets_from : PSh := ⟨[], [.mk false [.v (.sl (.int .u8))], .mk false [vE]]⟩
def f_octets_from_m (T : Unit) (d : Unit × (((List Int) × Unit) × ((Int × Unit) × ((Int × Unit) × Unit)))) : Option (Unit × (((List Int) × Unit) × (((Option Int) × Unit) × Unit))) :=
  let x1 : Bool := (decide (d.2.2.1.1 < (0 : Int)))
  bif x1 then (
  let x2 : (Option Int) := (some (1 : Int))
  some ((), ((([] : List Int), ()), ((x2, ()), ()))))
  else (
  let x3 : Int := (d.2.1.1.length : Int)
  let x4 : Bool := (decide (d.2.2.1.1 > x3))
  bif x4 then (
  let x5 : (Option Int) := (some (1 : Int))
  some ((), ((([] : List Int), ()), ((x5, ()), ()))))
  else (
  let x6 : Bool := (decide (d.2.2.2.1.1 < (0 : Int)))
  bif x6 then (
  let x7 : (Option Int) := (some (1 : Int))
  some ((), ((([] : List Int), ()), ((x7, ()), ()))))
  else (
  let x8 : Int := (d.2.1.1.length : Int)
  let x9 : Int := (isub .i64 x8 d.2.2.1.1)
  let x10 : Bool := (decide (d.2.2.2.1.1 > x9))
  bif x10 then (
  let x11 : (Option Int) := (some (4 : Int))
  some ((), ((([] : List Int), ()), ((x11, ()), ()))))
  else (
  let x12 : Int := (iadd .i64 d.2.2.1.1 d.2.2.2.1.1)
  bif decide ((0 : Int) ≤ d.2.2.1.1) && decide (d.2.2.1.1 ≤ x12) && decide (x12 ≤ (d.2.1.1.length : Int)) then (
  let x13 : (List Int) := (List.drop (Int.toNat d.2.2.1.1) (List.take (Int.toNat x12) d.2.1.1))
  some ((), ((x13, ()), (((none : Option Int), ()), ()))))
  else none))))
def g_octets_from (d : Unit × (((List Int) × Unit) × ((Int × Unit) × ((Int × Unit) × Unit)))) : Option (Unit × (((List Int) × Unit) × (((Option Int) × Unit) × Unit))) := f_octets_from_m () d
theorem ok_octets_from : FnOk Tryd.prog ET0 53 pi_octets_from po_octets_from g_octets_from :=
  fn0 (E := E0) e0_ok (fn := Tryd.f53) Tryd.func53 (by kernel_rfl) (by kernel_rfl) [.tmp 6, .tmp 7] (by kernel_rfl) rfl rfl rfl [] fun d => by kernel_rfl

@[reducible] def pi_octets_Size_u32 : PSh := ⟨[], []⟩
@[reducible] def po_octets_Size_u32 : PSh := ⟨[], [.mk false [vI]]⟩
@[reducible] def TT_octets_Size_u32 : Type := (((Unit × ((Int × Unit) × ((Int × Unit) × Unit))) → Option (Unit × ((Int × Unit) × Unit))) × Unit)
@[reducible] def sh_octets_Size_u32_4 : PSh := ⟨[], [.any, .mk false [vI], .mk false [.v (.int .u32)], .any, .any, .any, .any, .any, .any, .any, .any, .any, .any, .any]⟩
def f_octets_Size_u32_p4 (T : TT_octets_Size_u32) (d : Unit × ((Int × Unit) × ((Int × Unit) × Unit))) : Option (Unit × ((Int × Unit) × Unit)) :=
  let x3 : Bool := (decide (d.2.2.1.1 > (0 : Int)))
  bif x3 then (
  let x4 : Int := (iadd .i64 d.2.1.1 (1 : Int))
  let x5 : Int := (iconv .u64 d.2.2.1.1)
  let x6 : Int := (ishr .u64 x5 (8 : Int))
  let x7 : Int := (iconv .u32 x6)
  (T.1 ((), ((x4, ()), ((x7, ()), ())))))
  else (
  some ((), (d.2.1, ())))
def f_octets_Size_u32_t : Nat → TT_octets_Size_u32
  | 0 => (fun _ => none, ())
  | k + 1 => (f_octets_Size_u32_p4 (f_octets_Size_u32_t k), ())
theorem t_octets_Size_u32 (k : Nat) : f_octets_Size_u32_t (k + 1) = (f_octets_Size_u32_p4 (f_octets_Size_u32_t k), ()) := rfl
def f_octets_Size_u32_m (T : TT_octets_Size_u32) (d : Unit × Unit) : Option (Unit × ((Int × Unit) × Unit)) :=
  let x1 : Int := (iconv .u32 (0 : Int))
  let x2 : Int := (inot .u32 x1)
  (T.1 ((), (((0 : Int), ()), ((x2, ()), ()))))
def c_octets_Size_u32 : List Nat := []
def L_octets_Size_u32 (k : Nat) : Pts po_octets_Size_u32.den := [(4, ⟨sh_octets_Size_u32_4, (f_octets_Size_u32_t k).1⟩)]
def R_octets_Size_u32 (_ : Nat) : PtsR po_octets_Size_u32.den := []
def E_octets_Size_u32 : Env := E0
theorem q_octets_Size_u32_4 (k : Nat) (d : sh_octets_Size_u32_4.den) : evAt E_octets_Size_u32 (tb (L_octets_Size_u32 k) (R_octets_Size_u32 k)) c_octets_Size_u32 4 (bodyOf Tryd.f54) 0 (finK E_octets_Size_u32 po_octets_Size_u32 [.tmp 0]) (ptSt sh_octets_Size_u32_4 d) = f_octets_Size_u32_p4 (f_octets_Size_u32_t k) d := by kernel_rfl
theorem q_octets_Size_u32_m (k : Nat) (d : pi_octets_Size_u32.den) : evCode E_octets_Size_u32 (tb (L_octets_Size_u32 k) (R_octets_Size_u32 k)) c_octets_Size_u32 (bodyOf Tryd.f54) 0 (finK E_octets_Size_u32 po_octets_Size_u32 [.tmp 0]) (startSt pi_octets_Size_u32 14 d) = f_octets_Size_u32_m (f_octets_Size_u32_t k) d := by kernel_rfl
def g_octets_Size_u32 (d : Unit × Unit) : Option (Unit × ((Int × Unit) × Unit)) := lim fun k => f_octets_Size_u32_m (f_octets_Size_u32_t k) d
theorem ok_octets_Size_u32 : FnOk Tryd.prog ET0 54 pi_octets_Size_u32 po_octets_Size_u32 g_octets_Size_u32 :=
  fn_of_body (E := E_octets_Size_u32) e0_ok (fn := Tryd.f54) Tryd.func54 (by kernel_rfl) (by kernel_rfl) [.tmp 0] (by kernel_rfl) (by kernel_rfl) (by decide) rfl c_octets_Size_u32 L_octets_Size_u32 R_octets_Size_u32
    (by intro x hx d; simp only [L_octets_Size_u32, List.mem_cons, List.not_mem_nil, or_false] at hx; subst hx; rfl)
    (by intro k x hx d out h; simp only [L_octets_Size_u32, List.mem_cons, List.not_mem_nil, or_false] at hx; subst hx; exact (q_octets_Size_u32_4 k d).trans h)
    (by intro x hx; cases hx)
    (by intro k x hx; cases hx)
    (by intro d out h; obtain ⟨k, hk⟩ := lim_some h; exact ⟨k, (q_octets_Size_u32_m k d).trans hk⟩)

@[reducible] def pi_octets_word_u32 : PSh := ⟨[], [.mk false [.v (.sl (.int .u8))]]⟩
@[reducible] def po_octets_word_u32 : PSh := ⟨[], [.mk false [.v (.int .u32)]]⟩
@[reducible] def TT_octets_word_u32 : Type := (((Unit × ((Int × Unit) × (((List Int) × Unit) × ((Int × Unit) × ((Int × Unit) × Unit))))) → Option (Unit × ((Int × Unit) × Unit))) × Unit)
@[reducible] def sh_octets_word_u32_4 : PSh := ⟨[], [.any, .any, .any, .mk false [.v (.int .u64)], .any, .any, .mk false [.v (.sl (.int .u8))], .mk false [vI], .mk false [vI], .any, .any, .any, .any, .any, .any, .any, .any, .any, .any, .any]⟩
def f_octets_word_u32_p4 (T : TT_octets_word_u32) (d : Unit × ((Int × Unit) × (((List Int) × Unit) × ((Int × Unit) × ((Int × Unit) × Unit))))) : Option (Unit × ((Int × Unit) × Unit)) :=
  let x2 : Bool := (decide (d.2.2.2.2.1.1 < d.2.2.2.1.1))
  bif x2 then (
  bif decide ((0 : Int) ≤ d.2.2.2.2.1.1) && decide (d.2.2.2.2.1.1 < (d.2.2.1.1.length : Int)) then (
  let x3 : Int := (ishl .u64 d.2.1.1 (8 : Int))
  let x4 : Int := (iconv .u64 (gd (.int .u8) d.2.2.1.1 d.2.2.2.2.1.1))
  let x5 : Int := (ior .u64 x3 x4)
  let x6 : Int := (iadd .i64 d.2.2.2.2.1.1 (1 : Int))
  (T.1 ((), ((x5, ()), (d.2.2.1, (d.2.2.2.1, ((x6, ()), ())))))))
  else none)
  else (
  let x7 : Int := (iconv .u32 d.2.1.1)
  some ((), ((x7, ()), ())))
def f_octets_word_u32_t : Nat → TT_octets_word_u32
  | 0 => (fun _ => none, ())
  | k + 1 => (f_octets_word_u32_p4 (f_octets_word_u32_t k), ())
theorem t_octets_word_u32 (k : Nat) : f_octets_word_u32_t (k + 1) = (f_octets_word_u32_p4 (f_octets_word_u32_t k), ()) := rfl
def f_octets_word_u32_m (T : TT_octets_word_u32) (d : Unit × (((List Int) × Unit) × Unit)) : Option (Unit × ((Int × Unit) × Unit)) :=
  let x1 : Int := (d.2.1.1.length : Int)
  (T.1 ((), (((0 : Int), ()), (d.2.1, ((x1, ()), (((0 : Int), ()), ()))))))
def c_octets_word_u32 : List Nat := []
def L_octets_word_u32 (k : Nat) : Pts po_octets_word_u32.den := [(4, ⟨sh_octets_word_u32_4, (f_octets_word_u32_t k).1⟩)]
def R_octets_word_u32 (_ : Nat) : PtsR po_octets_word_u32.den := []
def E_octets_word_u32 : Env := E0
theorem q_octets_word_u32_4 (k : Nat) (d : sh_octets_word_u32_4.den) : evAt E_octets_word_u32 (tb (L_octets_word_u32 k) (R_octets_word_u32 k)) c_octets_word_u32 4 (bodyOf Tryd.f55) 0 (finK E_octets_word_u32 po_octets_word_u32 [.tmp 2]) (ptSt sh_octets_word_u32_4 d) = f_octets_word_u32_p4 (f_octets_word_u32_t k) d := by kernel_rfl
theorem q_octets_word_u32_m (k : Nat) (d : pi_octets_word_u32.den) : evCode E_octets_word_u32 (tb (L_octets_word_u32 k) (R_octets_word_u32 k)) c_octets_word_u32 (bodyOf Tryd.f55) 0 (finK E_octets_word_u32 po_octets_word_u32 [.tmp 2]) (startSt pi_octets_word_u32 20 d) = f_octets_word_u32_m (f_octets_word_u32_t k) d := by kernel_rfl
def g_octets_word_u32 (d : Unit × (((List Int) × Unit) × Unit)) : Option (Unit × ((Int × Unit) × Unit)) := lim fun k => f_octets_word_u32_m (f_octets_word_u32_t k) d
theorem ok_octets_word_u32 : FnOk Tryd.prog ET0 55 pi_octets_word_u32 po_octets_word_u32 g_octets_word_u32 :=
  fn_of_body (E := E_octets_word_u32) e0_ok (fn := Tryd.f55) Tryd.func55 (by kernel_rfl) (by kernel_rfl) [.tmp 2] (by kernel_rfl) (by kernel_rfl) (by decide) rfl c_octets_word_u32 L_octets_word_u32 R_octets_word_u32
    (by intro x hx d; simp only [L_octets_word_u32, List.mem_cons, List.not_mem_nil, or_false] at hx; subst hx; rfl)
    (by intro k x hx d out h; simp only [L_octets_word_u32, List.mem_cons, List.not_mem_nil, or_false] at hx; subst hx; exact (q_octets_word_u32_4 k d).trans h)
    (by intro x hx; cases hx)
    (by intro k x hx; cases hx)
    (by intro d out h; obtain ⟨k, hk⟩ := lim_some h; exact ⟨k, (q_octets_word_u32_m k d).trans hk⟩)

@[reducible] def pi_octets_Get_u32 : PSh := ⟨[], [.mk false [.v (.sl (.int .u8))], .mk false [vI]]⟩
@[reducible] def po_octets_Get_u32 : PSh := ⟨[], [.mk false [.v (.int .u32)], .mk false [vE]]⟩
def f_octets_Get_u32_m (T : Unit) (d : Unit × (((List Int) × Unit) × ((Int × Unit) × Unit))) : Option (Unit × ((Int × Unit) × (((Option Int) × Unit) × Unit))) :=
  (g_octets_Size_u32 ((), ())).bind fun x1 =>
  (g_octets_from ((), (d.2.1, (d.2.2.1, x1.2)))).bind fun x2 =>
  let x3 : Bool := (!x2.2.2.1.1.isNone)
  bif x3 then (
  some ((), (((0 : Int), ()), x2.2.2)))
  else (
  (g_octets_word_u32 ((), (x2.2.1, ()))).bind fun x4 =>
  some ((), (x4.2.1, (((none : Option Int), ()), ()))))
def g_octets_Get_u32 (d : Unit × (((List Int) × Unit) × ((Int × Unit) × Unit))) : Option (Unit × ((Int × Unit) × (((Option Int) × Unit) × Unit))) := f_octets_Get_u32_m () d
theorem ok_octets_Get_u32 : FnOk Tryd.prog ET0 35 pi_octets_Get_u32 po_octets_Get_u32 g_octets_Get_u32 :=
  fn0 (E := (((E0.add 53 (typedSem pi_octets_from po_octets_from g_octets_from)).add 54 (typedSem pi_octets_Size_u32 po_octets_Size_u32 g_octets_Size_u32)).add 55 (typedSem pi_octets_word_u32 po_octets_word_u32 g_octets_word_u32))) (envOk_add (envOk_add (envOk_add e0_ok (typed_ok ok_octets_from)) (typed_ok ok_octets_Size_u32)) (typed_ok ok_octets_word_u32)) (fn := Tryd.f35) Tryd.func35 (by kernel_rfl) (by kernel_rfl) [.tmp 4, .tmp 5] (by kernel_rfl) rfl rfl rfl [] fun d => by kernel_rfl

@[reducible] def pi_refid_Number : PSh := ⟨[], [.mk true [v8, v8, v8, v8]]⟩
@[reducible] def po_refid_Number : PSh := ⟨[], [.mk false [.v (.int .u32)]]⟩
def f_refid_Number_m (T : Unit) (d : Unit × ((Int × (Int × (Int × (Int × Unit)))) × Unit)) : Option (Unit × ((Int × Unit) × Unit)) :=
  let x1 : (Int × (Int × (Int × Int))) := (d.2.1.1, (d.2.1.2.1, (d.2.1.2.2.1, d.2.1.2.2.2.1)))
  let x2 : (List Int) := ([x1.1, x1.2.1, x1.2.2.1, x1.2.2.2] : List Int)
  (g_octets_Get_u32 ((), ((x2, ()), (((0 : Int), ()), ())))).bind fun x3 =>
  let x4 : Bool := (!x3.2.2.1.1.isNone)
  bif x4 then (
  some ((), (((0 : Int), ()), ())))
  else (
  some ((), (x3.2.1, ())))
def g_refid_Number (d : Unit × ((Int × (Int × (Int × (Int × Unit)))) × Unit)) : Option (Unit × ((Int × Unit) × Unit)) := f_refid_Number_m () d
theorem ok_refid_Number : FnOk Tryd.prog ET0 15 pi_refid_Number po_refid_Number g_refid_Number :=
  fn0 (E := ((E0.add 35 (typedSem pi_octets_Get_u32 po_octets_Get_u32 g_octets_Get_u32)).fr [(6, [1])])) (envOk_fr (envOk_add e0_ok (typed_ok ok_octets_Get_u32))) (fn := Tryd.f15) Tryd.func15 (by kernel_rfl) (by kernel_rfl) [.tmp 2] (by kernel_rfl) rfl rfl rfl [] fun d => by kernel_rfl

@[reducible] def pi_slices_Clone_byte_byte : PSh := ⟨[], [.mk false [.v (.sl (.int .u8))]]⟩
@[reducible] def po_slices_Clone_byte_byte : PSh := ⟨[.row 5 (.int .u8)], [.mk false [.osl 0]]⟩
def f_slices_Clone_byte_byte_m (T : Unit) (d : Unit × (((List Int) × Unit) × Unit)) : Option (((List Int) × Unit) × (Unit × Unit)) :=
  bif d.2.1.1.isEmpty then (
  agree (
  some ((([] : List Int), ()), ((), ()))) (
  let x1 : (List Int) := ([] : List Int)
  bif decide (((x1.length + d.2.1.1.length) * 1 : Nat) ≤ 140737488355328) && decide (x1.length + d.2.1.1.length ≤ 9223372036854775807) then (
  let x2 : (List Int) := (x1 ++ d.2.1.1)
  some ((x2, ()), ((), ())))
  else none))
  else (
  let x3 : (List Int) := ([] : List Int)
  bif decide (((x3.length + d.2.1.1.length) * 1 : Nat) ≤ 140737488355328) && decide (x3.length + d.2.1.1.length ≤ 9223372036854775807) then (
  let x4 : (List Int) := (x3 ++ d.2.1.1)
  some ((x4, ()), ((), ())))
  else none)
def g_slices_Clone_byte_byte (d : Unit × (((List Int) × Unit) × Unit)) : Option (((List Int) × Unit) × (Unit × Unit)) := f_slices_Clone_byte_byte_m () d
theorem ok_slices_Clone_byte_byte : FnOk Tryd.prog ET0 56 pi_slices_Clone_byte_byte po_slices_Clone_byte_byte g_slices_Clone_byte_byte :=
  fn0 (E := E0) e0_ok (fn := Tryd.f56) Tryd.func56 (by kernel_rfl) (by kernel_rfl) [.tmp 2] (by kernel_rfl) rfl rfl rfl [] fun d => by kernel_rfl

@[reducible] def pi_octets_Put_u32 : PSh := ⟨[], [.mk false [.v (.sl (.int .u8))], .mk false [.v (.sl (.int .u32))]]⟩
@[reducible] def po_octets_Put_u32 : PSh := ⟨[.row 5 (.int .u8)], [.mk false [.osl 0]]⟩
@[reducible] def TT_octets_Put_u32 : Type := (((((List Int) × Unit) × ((Int × Unit) × (Unit × (((List Int) × Unit) × ((Int × Unit) × ((Int × Unit) × Unit)))))) → Option (((List Int) × Unit) × (Unit × Unit))) × (((((List Int) × Unit) × ((Int × Unit) × (Unit × ((Int × Unit) × ((Int × Unit) × (((List Int) × Unit) × ((Int × Unit) × ((Int × Unit) × Unit)))))))) → Option (((List Int) × Unit) × (Unit × Unit))) × Unit))
@[reducible] def sh_octets_Put_u32_5 : PSh := ⟨[.row 5 (.int .u8)], [.any, .any, .any, .any, .any, .mk false [vI], .mk false [.osl 0], .any, .any, .any, .any, .any, .any, .mk false [.v (.sl (.int .u32))], .mk false [vI], .mk false [vI], .any, .any, .any, .any, .any, .any, .any, .any, .any, .any, .any, .any, .any, .any, .any, .any, .any, .any, .any, .any]⟩
@[reducible] def sh_octets_Put_u32_11 : PSh := ⟨[.row 5 (.int .u8)], [.any, .any, .any, .any, .any, .mk false [vI], .mk false [.osl 0], .any, .mk false [.v (.int .u32)], .mk false [vI], .any, .any, .any, .mk false [.v (.sl (.int .u32))], .mk false [vI], .mk false [vI], .any, .any, .any, .any, .any, .any, .any, .any, .any, .any, .any, .any, .any, .any, .any, .any, .any, .any, .any, .any]⟩
def f_octets_Put_u32_p5 (T : TT_octets_Put_u32) (d : ((List Int) × Unit) × ((Int × Unit) × (Unit × (((List Int) × Unit) × ((Int × Unit) × ((Int × Unit) × Unit)))))) : Option (((List Int) × Unit) × (Unit × Unit)) :=
  let x4 : Bool := (decide (d.2.2.2.2.2.1.1 < d.2.2.2.2.1.1))
  bif x4 then (
  bif decide ((0 : Int) ≤ d.2.2.2.2.2.1.1) && decide (d.2.2.2.2.2.1.1 < (d.2.2.2.1.1.length : Int)) then (
  let x5 : Int := (isub .i64 d.2.1.1 (1 : Int))
  (T.2.1 (d.1, (d.2.1, ((), (((gd (.int .u32) d.2.2.2.1.1 d.2.2.2.2.2.1.1), ()), ((x5, ()), d.2.2.2)))))))
  else none)
  else (
  some (d.1, ((), ())))
def f_octets_Put_u32_p11 (T : TT_octets_Put_u32) (d : ((List Int) × Unit) × ((Int × Unit) × (Unit × ((Int × Unit) × ((Int × Unit) × (((List Int) × Unit) × ((Int × Unit) × ((Int × Unit) × Unit)))))))) : Option (((List Int) × Unit) × (Unit × Unit)) :=
  let x6 : Bool := (decide (d.2.2.2.2.1.1 ≥ (0 : Int)))
  bif x6 then (
  let x7 : Int := (iconv .u64 d.2.2.2.1.1)
  let x8 : Int := (imul .i64 (8 : Int) d.2.2.2.2.1.1)
  bif decide (x8 < 0) then (
  none)
  else (
  let x9 : Int := (ishr .u64 x7 x8)
  let x10 : Int := (iconv .u8 x9)
  let x11 : (List Int) := ([x10] : List Int)
  bif decide (((d.1.1.length + x11.length) * 1 : Nat) ≤ 140737488355328) && decide (d.1.1.length + x11.length ≤ 9223372036854775807) then (
  let x12 : (List Int) := (d.1.1 ++ x11)
  let x13 : Int := (isub .i64 d.2.2.2.2.1.1 (1 : Int))
  (T.2.1 ((x12, ()), (d.2.1, ((), (d.2.2.2.1, ((x13, ()), d.2.2.2.2.2)))))))
  else none))
  else (
  let x14 : Int := (iadd .i64 d.2.2.2.2.2.2.2.1.1 (1 : Int))
  (T.1 (d.1, (d.2.1, ((), (d.2.2.2.2.2.1, (d.2.2.2.2.2.2.1, ((x14, ()), ()))))))))
def f_octets_Put_u32_t : Nat → TT_octets_Put_u32
  | 0 => (fun _ => none, (fun _ => none, ()))
  | k + 1 => (f_octets_Put_u32_p5 (f_octets_Put_u32_t k), (f_octets_Put_u32_p11 (f_octets_Put_u32_t k), ()))
theorem t_octets_Put_u32 (k : Nat) : f_octets_Put_u32_t (k + 1) = (f_octets_Put_u32_p5 (f_octets_Put_u32_t k), (f_octets_Put_u32_p11 (f_octets_Put_u32_t k), ())) := rfl
def f_octets_Put_u32_m (T : TT_octets_Put_u32) (d : Unit × (((List Int) × Unit) × (((List Int) × Unit) × Unit))) : Option (((List Int) × Unit) × (Unit × Unit)) :=
  (g_octets_Size_u32 ((), ())).bind fun x1 =>
  (g_slices_Clone_byte_byte ((), (d.2.1, ()))).bind fun x2 =>
  let x3 : Int := (d.2.2.1.1.length : Int)
  (T.1 (x2.1, (x1.2.1, ((), (d.2.2.1, ((x3, ()), (((0 : Int), ()), ())))))))
def c_octets_Put_u32 : List Nat := []
def L_octets_Put_u32 (k : Nat) : Pts po_octets_Put_u32.den := [(5, ⟨sh_octets_Put_u32_5, (f_octets_Put_u32_t k).1⟩), (11, ⟨sh_octets_Put_u32_11, (f_octets_Put_u32_t k).2.1⟩)]
def R_octets_Put_u32 (_ : Nat) : PtsR po_octets_Put_u32.den := []
def E_octets_Put_u32 : Env := ((E0.add 54 (typedSem pi_octets_Size_u32 po_octets_Size_u32 g_octets_Size_u32)).add 56 (typedSem pi_slices_Clone_byte_byte po_slices_Clone_byte_byte g_slices_Clone_byte_byte))
theorem q_octets_Put_u32_5 (k : Nat) (d : sh_octets_Put_u32_5.den) : evAt E_octets_Put_u32 (tb (L_octets_Put_u32 k) (R_octets_Put_u32 k)) c_octets_Put_u32 5 (bodyOf Tryd.f36) 0 (finK E_octets_Put_u32 po_octets_Put_u32 [.tmp 4]) (ptSt sh_octets_Put_u32_5 d) = f_octets_Put_u32_p5 (f_octets_Put_u32_t k) d := by kernel_rfl
theorem q_octets_Put_u32_11 (k : Nat) (d : sh_octets_Put_u32_11.den) : evAt E_octets_Put_u32 (tb (L_octets_Put_u32 k) (R_octets_Put_u32 k)) c_octets_Put_u32 11 (bodyOf Tryd.f36) 0 (finK E_octets_Put_u32 po_octets_Put_u32 [.tmp 4]) (ptSt sh_octets_Put_u32_11 d) = f_octets_Put_u32_p11 (f_octets_Put_u32_t k) d := by kernel_rfl
theorem q_octets_Put_u32_m (k : Nat) (d : pi_octets_Put_u32.den) : evCode E_octets_Put_u32 (tb (L_octets_Put_u32 k) (R_octets_Put_u32 k)) c_octets_Put_u32 (bodyOf Tryd.f36) 0 (finK E_octets_Put_u32 po_octets_Put_u32 [.tmp 4]) (startSt pi_octets_Put_u32 36 d) = f_octets_Put_u32_m (f_octets_Put_u32_t k) d := by kernel_rfl
def g_octets_Put_u32 (d : Unit × (((List Int) × Unit) × (((List Int) × Unit) × Unit))) : Option (((List Int) × Unit) × (Unit × Unit)) := lim fun k => f_octets_Put_u32_m (f_octets_Put_u32_t k) d
theorem ok_octets_Put_u32 : FnOk Tryd.prog ET0 36 pi_octets_Put_u32 po_octets_Put_u32 g_octets_Put_u32 :=
  fn_of_body (E := E_octets_Put_u32) (envOk_add (envOk_add e0_ok (typed_ok ok_octets_Size_u32)) (typed_ok ok_slices_Clone_byte_byte)) (fn := Tryd.f36) Tryd.func36 (by kernel_rfl) (by kernel_rfl) [.tmp 4] (by kernel_rfl) (by kernel_rfl) (by decide) rfl c_octets_Put_u32 L_octets_Put_u32 R_octets_Put_u32
    (by intro x hx d; simp only [L_octets_Put_u32, List.mem_cons, List.not_mem_nil, or_false] at hx; rcases hx with rfl | rfl; rfl; rfl)
    (by intro k x hx d out h; simp only [L_octets_Put_u32, List.mem_cons, List.not_mem_nil, or_false] at hx; rcases hx with rfl | rfl; exact (q_octets_Put_u32_5 k d).trans h; exact (q_octets_Put_u32_11 k d).trans h)
    (by intro x hx; cases hx)
    (by intro k x hx; cases hx)
    (by intro d out h; obtain ⟨k, hk⟩ := lim_some h; exact ⟨k, (q_octets_Put_u32_m k d).trans hk⟩)

@[reducible] def pi_refid_Of : PSh := ⟨[], [.mk false [.v (.int .u32)]]⟩
@[reducible] def po_refid_Of : PSh := ⟨[], [.mk true [v8, v8, v8, v8]]⟩
def f_refid_Of_m (T : Unit) (d : Unit × ((Int × Unit) × Unit)) : Option (Unit × ((Int × (Int × (Int × (Int × Unit)))) × Unit)) :=
  let x1 : (List Int) := ([d.2.1.1] : List Int)
  (g_octets_Put_u32 ((), ((([] : List Int), ()), ((x1, ()), ())))).bind fun x2 =>
  bif decide ((4 : Int) ≤ x2.1.1.length) then (
  let x3 : (Int × (Int × (Int × Int))) := ((gd (.int .u8) x2.1.1 (0 : Int)), ((gd (.int .u8) x2.1.1 (1 : Int)), ((gd (.int .u8) x2.1.1 (2 : Int)), (gd (.int .u8) x2.1.1 (3 : Int)))))
  some ((), ((x3.1, (x3.2.1, (x3.2.2.1, (x3.2.2.2, ())))), ())))
  else none
def g_refid_Of (d : Unit × ((Int × Unit) × Unit)) : Option (Unit × ((Int × (Int × (Int × (Int × Unit)))) × Unit)) := f_refid_Of_m () d
theorem ok_refid_Of : FnOk Tryd.prog ET0 16 pi_refid_Of po_refid_Of g_refid_Of :=
  fn0 (E := ((E0.add 36 (typedSem pi_octets_Put_u32 po_octets_Put_u32 g_octets_Put_u32)).fr [(6, [5])])) (envOk_fr (envOk_add e0_ok (typed_ok ok_octets_Put_u32))) (fn := Tryd.f16) Tryd.func16 (by kernel_rfl) (by kernel_rfl) [.cell 2 23] (by kernel_rfl) rfl rfl rfl [] fun d => by kernel_rfl

@[reducible] def pi_ref30_Code : PSh := ⟨[], [.mk false [vS]]⟩
@[reducible] def po_ref30_Code : PSh := ⟨[], [.mk true [v8, v8, v8, v8], .mk false [vI]]⟩
@[reducible] def TT_ref30_Code : Type := (((((Int × (Int × (Int × (Int × Unit)))) × ((Int × (Int × (Int × (Int × Unit)))) × Unit)) × ((ByteArray × Unit) × (Unit × (Unit × ((Int × Unit) × Unit))))) → Option (Unit × ((Int × (Int × (Int × (Int × Unit)))) × ((Int × Unit) × Unit)))) × Unit)
@[reducible] def sh_ref30_Code_7 : PSh := ⟨[.var 23 [v8, v8, v8, v8], .var 23 [v8, v8, v8, v8]], [.mk false [vS], .any, .mk false [.ref 0 0], .any, .mk false [.ref 1 0], .mk false [vI], .any, .any, .any, .any, .any, .any, .any, .any, .any, .any, .any, .any, .any, .any, .any, .any, .any, .any, .any, .any, .any, .any, .any, .any, .any, .any, .any, .any, .any, .any, .any, .any, .any, .any, .any, .any, .any, .any, .any]⟩
def f_ref30_Code_p7 (T : TT_ref30_Code) (d : ((Int × (Int × (Int × (Int × Unit)))) × ((Int × (Int × (Int × (Int × Unit)))) × Unit)) × ((ByteArray × Unit) × (Unit × (Unit × ((Int × Unit) × Unit))))) : Option (Unit × ((Int × (Int × (Int × (Int × Unit)))) × ((Int × Unit) × Unit))) :=
  let x5 : Int := (d.2.1.1.size : Int)
  let x6 : Bool := (decide (d.2.2.2.2.1.1 < x5))
  bif x6 then (
  bif decide ((0 : Int) ≤ d.2.2.2.2.1.1) && decide (d.2.2.2.2.1.1 < ((d.2.1.1.size : Int) : Int)) then (
  let x7 : Int := (bt d.2.1.1 d.2.2.2.2.1.1)
  let x8 : Bool := (decide (x7 < (33 : Int)))
  bif x8 then (
  some ((), (((0 : Int), ((0 : Int), ((0 : Int), ((0 : Int), ())))), (((2 : Int), ()), ()))))
  else (
  bif decide ((0 : Int) ≤ d.2.2.2.2.1.1) && decide (d.2.2.2.2.1.1 < ((d.2.1.1.size : Int) : Int)) then (
  let x9 : Int := (bt d.2.1.1 d.2.2.2.2.1.1)
  let x10 : Bool := (decide (x9 > (126 : Int)))
  bif x10 then (
  some ((), (((0 : Int), ((0 : Int), ((0 : Int), ((0 : Int), ())))), (((2 : Int), ()), ()))))
  else (
  bif decide ((0 : Int) ≤ d.2.2.2.2.1.1) && decide (d.2.2.2.2.1.1 < ((d.2.1.1.size : Int) : Int)) then (
  let x11 : Int := (bt d.2.1.1 d.2.2.2.2.1.1)
  let x12 : Bool := (x11 == (46 : Int))
  bif x12 then (
  some ((), (((0 : Int), ((0 : Int), ((0 : Int), ((0 : Int), ())))), (((2 : Int), ()), ()))))
  else (
  bif decide ((0 : Int) ≤ d.2.2.2.2.1.1) && decide (d.2.2.2.2.1.1 < ((d.2.1.1.size : Int) : Int)) then (
  let x13 : Int := (bt d.2.1.1 d.2.2.2.2.1.1)
  bif decide ((0 : Int) ≤ d.2.2.2.2.1.1) && decide (d.2.2.2.2.1.1 < (4 : Int)) then (
  bif decide (d.2.2.2.2.1.1 = (0 : Int)) then (
  let x17 : Int := (iadd .i64 d.2.2.2.2.1.1 (1 : Int))
  (T.1 ((d.1.1, ((x13, d.1.2.1.2), ())), (d.2.1, ((), ((), ((x17, ()), ())))))))
  else (
  bif decide (d.2.2.2.2.1.1 = (1 : Int)) then (
  let x16 : Int := (iadd .i64 d.2.2.2.2.1.1 (1 : Int))
  (T.1 ((d.1.1, ((d.1.2.1.1, (x13, d.1.2.1.2.2)), ())), (d.2.1, ((), ((), ((x16, ()), ())))))))
  else (
  bif decide (d.2.2.2.2.1.1 = (2 : Int)) then (
  let x15 : Int := (iadd .i64 d.2.2.2.2.1.1 (1 : Int))
  (T.1 ((d.1.1, ((d.1.2.1.1, (d.1.2.1.2.1, (x13, d.1.2.1.2.2.2))), ())), (d.2.1, ((), ((), ((x15, ()), ())))))))
  else (
  bif decide (d.2.2.2.2.1.1 = (3 : Int)) then (
  let x14 : Int := (iadd .i64 d.2.2.2.2.1.1 (1 : Int))
  (T.1 ((d.1.1, ((d.1.2.1.1, (d.1.2.1.2.1, (d.1.2.1.2.2.1, (x13, ())))), ())), (d.2.1, ((), ((), ((x14, ()), ())))))))
  else (
  none)))))
  else none)
  else none))
  else none))
  else none))
  else none)
  else (
  some ((), (d.1.2.1, (((0 : Int), ()), ()))))
def f_ref30_Code_t : Nat → TT_ref30_Code
  | 0 => (fun _ => none, ())
  | k + 1 => (f_ref30_Code_p7 (f_ref30_Code_t k), ())
theorem t_ref30_Code (k : Nat) : f_ref30_Code_t (k + 1) = (f_ref30_Code_p7 (f_ref30_Code_t k), ()) := rfl
def f_ref30_Code_m (T : TT_ref30_Code) (d : Unit × ((ByteArray × Unit) × Unit)) : Option (Unit × ((Int × (Int × (Int × (Int × Unit)))) × ((Int × Unit) × Unit))) :=
  let x1 : Int := (d.2.1.1.size : Int)
  let x2 : Bool := (x1 == (0 : Int))
  bif x2 then (
  some ((), (((0 : Int), ((0 : Int), ((0 : Int), ((0 : Int), ())))), (((2 : Int), ()), ()))))
  else (
  let x3 : Int := (d.2.1.1.size : Int)
  let x4 : Bool := (decide (x3 > (4 : Int)))
  bif x4 then (
  some ((), (((0 : Int), ((0 : Int), ((0 : Int), ((0 : Int), ())))), (((2 : Int), ()), ()))))
  else (
  (T.1 ((((0 : Int), ((0 : Int), ((0 : Int), ((0 : Int), ())))), (((0 : Int), ((0 : Int), ((0 : Int), ((0 : Int), ())))), ())), (d.2.1, ((), ((), (((0 : Int), ()), ()))))))))
def c_ref30_Code : List Nat := []
def L_ref30_Code (k : Nat) : Pts po_ref30_Code.den := [(7, ⟨sh_ref30_Code_7, (f_ref30_Code_t k).1⟩)]
def R_ref30_Code (_ : Nat) : PtsR po_ref30_Code.den := []
def E_ref30_Code : Env := E0
theorem q_ref30_Code_7 (k : Nat) (d : sh_ref30_Code_7.den) : evAt E_ref30_Code (tb (L_ref30_Code k) (R_ref30_Code k)) c_ref30_Code 7 (bodyOf Tryd.f10) 0 (finK E_ref30_Code po_ref30_Code [.cell 2 23, .tmp 3]) (ptSt sh_ref30_Code_7 d) = f_ref30_Code_p7 (f_ref30_Code_t k) d := by kernel_rfl
theorem q_ref30_Code_m (k : Nat) (d : pi_ref30_Code.den) : evCode E_ref30_Code (tb (L_ref30_Code k) (R_ref30_Code k)) c_ref30_Code (bodyOf Tryd.f10) 0 (finK E_ref30_Code po_ref30_Code [.cell 2 23, .tmp 3]) (startSt pi_ref30_Code 45 d) = f_ref30_Code_m (f_ref30_Code_t k) d := by kernel_rfl
def g_ref30_Code (d : Unit × ((ByteArray × Unit) × Unit)) : Option (Unit × ((Int × (Int × (Int × (Int × Unit)))) × ((Int × Unit) × Unit))) := lim fun k => f_ref30_Code_m (f_ref30_Code_t k) d
theorem ok_ref30_Code : FnOk Tryd.prog ET0 10 pi_ref30_Code po_ref30_Code g_ref30_Code :=
  fn_of_body (E := E_ref30_Code) e0_ok (fn := Tryd.f10) Tryd.func10 (by kernel_rfl) (by kernel_rfl) [.cell 2 23, .tmp 3] (by kernel_rfl) (by kernel_rfl) (by decide) rfl c_ref30_Code L_ref30_Code R_ref30_Code
    (by intro x hx d; simp only [L_ref30_Code, List.mem_cons, List.not_mem_nil, or_false] at hx; subst hx; rfl)
    (by intro k x hx d out h; simp only [L_ref30_Code, List.mem_cons, List.not_mem_nil, or_false] at hx; subst hx; exact (q_ref30_Code_7 k d).trans h)
    (by intro x hx; cases hx)
    (by intro k x hx; cases hx)
    (by intro d out h; obtain ⟨k, hk⟩ := lim_some h; exact ⟨k, (q_ref30_Code_m k d).trans hk⟩)

@[reducible] def pi_ref30_Name : PSh := ⟨[], [.mk true [v8, v8, v8, v8]]⟩
@[reducible] def po_ref30_Name : PSh := ⟨[], [.mk false [vS], .mk false [vB]]⟩
@[reducible] def TT_ref30_Name : Type := (((Unit × (((Option (Int × (Int × (Int × Int)))) × Unit) × ((Int × Unit) × Unit))) → Option (Unit × ((ByteArray × Unit) × ((Bool × Unit) × Unit)))) × Unit)
@[reducible] def sh_ref30_Name_3 : PSh := ⟨[], [.any, .mk false [.v (.nptr (.pair (.int .u8) (.pair (.int .u8) (.pair (.int .u8) (.int .u8)))))], .any, .any, .mk false [vI], .any, .any, .any, .any, .any, .any, .any, .any, .any, .any, .any, .any, .any, .any, .any, .any, .any, .any, .any, .any, .any, .any, .any]⟩
def f_ref30_Name_p3 (T : TT_ref30_Name) (d : Unit × (((Option (Int × (Int × (Int × Int)))) × Unit) × ((Int × Unit) × Unit))) : Option (Unit × ((ByteArray × Unit) × ((Bool × Unit) × Unit))) :=
  let x1 : Bool := (decide (d.2.2.1.1 ≤ (4 : Int)))
  bif x1 then (
  d.2.1.1.bind fun x2 =>
  bif decide ((0 : Int) ≤ (0 : Int)) && decide ((0 : Int) ≤ d.2.2.1.1) && decide (d.2.2.1.1 ≤ (4 : Int)) then (
  let x3 : (List Int) := (List.drop (Int.toNat (0 : Int)) (List.take (Int.toNat d.2.2.1.1) ([x2.1, x2.2.1, x2.2.2.1, x2.2.2.2] : List Int)))
  let x4 : ByteArray := (strOf x3)
  (g_ref30_Code ((), ((x4, ()), ()))).bind fun x5 =>
  let x6 : Bool := (x5.2.2.1.1 == (0 : Int))
  bif x6 then (
  d.2.1.1.bind fun x7 =>
  let x8 : Bool := ((x5.2.1.1 == x7.1) && ((x5.2.1.2.1 == x7.2.1) && ((x5.2.1.2.2.1 == x7.2.2.1) && ((x5.2.1.2.2.2.1 == x7.2.2.2) && true))))
  bif x8 then (
  some ((), ((x4, ()), ((true, ()), ()))))
  else (
  let x9 : Int := (iadd .i64 d.2.2.1.1 (1 : Int))
  (T.1 ((), (d.2.1, ((x9, ()), ()))))))
  else (
  let x10 : Int := (iadd .i64 d.2.2.1.1 (1 : Int))
  (T.1 ((), (d.2.1, ((x10, ()), ()))))))
  else none)
  else (
  some ((), (((⟨#[]⟩ : ByteArray), ()), ((false, ()), ()))))
def f_ref30_Name_t : Nat → TT_ref30_Name
  | 0 => (fun _ => none, ())
  | k + 1 => (f_ref30_Name_p3 (f_ref30_Name_t k), ())
theorem t_ref30_Name (k : Nat) : f_ref30_Name_t (k + 1) = (f_ref30_Name_p3 (f_ref30_Name_t k), ()) := rfl
def f_ref30_Name_m (T : TT_ref30_Name) (d : Unit × ((Int × (Int × (Int × (Int × Unit)))) × Unit)) : Option (Unit × ((ByteArray × Unit) × ((Bool × Unit) × Unit))) :=
  (T.1 ((), (((some (d.2.1.1, (d.2.1.2.1, (d.2.1.2.2.1, d.2.1.2.2.2.1)))), ()), (((1 : Int), ()), ()))))
def c_ref30_Name : List Nat := []
def L_ref30_Name (k : Nat) : Pts po_ref30_Name.den := [(3, ⟨sh_ref30_Name_3, (f_ref30_Name_t k).1⟩)]
def R_ref30_Name (_ : Nat) : PtsR po_ref30_Name.den := []
def E_ref30_Name : Env := ((E0.add 10 (typedSem pi_ref30_Code po_ref30_Code g_ref30_Code)).fr [(13, [1])])
theorem q_ref30_Name_3 (k : Nat) (d : sh_ref30_Name_3.den) : evAt E_ref30_Name (tb (L_ref30_Name k) (R_ref30_Name k)) c_ref30_Name 3 (bodyOf Tryd.f18) 0 (finK E_ref30_Name po_ref30_Name [.tmp 2, .tmp 3]) (ptSt sh_ref30_Name_3 d) = f_ref30_Name_p3 (f_ref30_Name_t k) d := by kernel_rfl
theorem q_ref30_Name_m (k : Nat) (d : pi_ref30_Name.den) : evCode E_ref30_Name (tb (L_ref30_Name k) (R_ref30_Name k)) c_ref30_Name (bodyOf Tryd.f18) 0 (finK E_ref30_Name po_ref30_Name [.tmp 2, .tmp 3]) (startSt pi_ref30_Name 28 d) = f_ref30_Name_m (f_ref30_Name_t k) d := by kernel_rfl
def g_ref30_Name (d : Unit × ((Int × (Int × (Int × (Int × Unit)))) × Unit)) : Option (Unit × ((ByteArray × Unit) × ((Bool × Unit) × Unit))) := lim fun k => f_ref30_Name_m (f_ref30_Name_t k) d
theorem ok_ref30_Name : FnOk Tryd.prog ET0 18 pi_ref30_Name po_ref30_Name g_ref30_Name :=
  fn_of_body (E := E_ref30_Name) (envOk_fr (envOk_add e0_ok (typed_ok ok_ref30_Code))) (fn := Tryd.f18) Tryd.func18 (by kernel_rfl) (by kernel_rfl) [.tmp 2, .tmp 3] (by kernel_rfl) (by kernel_rfl) (by decide) rfl c_ref30_Name L_ref30_Name R_ref30_Name
    (by intro x hx d; simp only [L_ref30_Name, List.mem_cons, List.not_mem_nil, or_false] at hx; subst hx; rfl)
    (by intro k x hx d out h; simp only [L_ref30_Name, List.mem_cons, List.not_mem_nil, or_false] at hx; subst hx; exact (q_ref30_Name_3 k d).trans h)
    (by intro x hx; cases hx)
    (by intro k x hx; cases hx)
    (by intro d out h; obtain ⟨k, hk⟩ := lim_some h; exact ⟨k, (q_ref30_Name_m k d).trans hk⟩)

@[reducible] def pi_ref02_Raw : PSh := ⟨[], [.mk false [vI], .mk false [vI]]⟩
@[reducible] def po_ref02_Raw : PSh := ⟨[], [.mk false [vS]]⟩
@[reducible] def TT_ref02_Raw : Type := (((Unit × ((Int × Unit) × ((Int × Unit) × ((ByteArray × Unit) × Unit)))) → Option (Unit × ((ByteArray × Unit) × Unit))) × (((Unit × ((Int × Unit) × ((ByteArray × Unit) × Unit))) → Option (Unit × ((ByteArray × Unit) × Unit))) × Unit))
@[reducible] def sh_ref02_Raw_3 : PSh := ⟨[], [.mk false [vI], .mk false [vI], .any, .any, .any, .mk false [vS], .any, .any, .any, .any, .any, .any, .any, .any, .any, .any, .any, .any, .any, .any, .any, .any, .any, .any, .any, .any, .any, .any, .any, .any]⟩
@[reducible] def sh_ref02_Raw_8 : PSh := ⟨[], [.any, .mk false [vI], .any, .any, .any, .mk false [vS], .any, .any, .any, .any, .any, .any, .any, .any, .any, .any, .any, .any, .any, .any, .any, .any, .any, .any, .any, .any, .any, .any, .any, .any]⟩
def f_ref02_Raw_p3 (T : TT_ref02_Raw) (d : Unit × ((Int × Unit) × ((Int × Unit) × ((ByteArray × Unit) × Unit)))) : Option (Unit × ((ByteArray × Unit) × Unit)) :=
  let x1 : Bool := (decide (d.2.1.1 > (0 : Int)))
  bif x1 then (
  let x2 : Int := (Int.tmod d.2.1.1 (10 : Int))
  let x3 : Int := (iadd .i64 (48 : Int) x2)
  let x4 : Int := (iconv .u8 x3)
  let x5 : (List Int) := ([x4] : List Int)
  let x6 : ByteArray := (strOf x5)
  bif fitsS x6 d.2.2.2.1.1 then (
  let x7 : ByteArray := (x6 ++ d.2.2.2.1.1)
  let x8 : Int := (iquo .i64 d.2.1.1 (10 : Int))
  (T.1 ((), ((x8, ()), (d.2.2.1, ((x7, ()), ()))))))
  else none)
  else (
  (T.2.1 ((), d.2.2)))
def f_ref02_Raw_p8 (T : TT_ref02_Raw) (d : Unit × ((Int × Unit) × ((ByteArray × Unit) × Unit))) : Option (Unit × ((ByteArray × Unit) × Unit)) :=
  let x9 : Int := (d.2.2.1.1.size : Int)
  let x10 : Bool := (decide (x9 < d.2.1.1))
  bif x10 then (
  bif fitsS (⟨#[48]⟩ : ByteArray) d.2.2.1.1 then (
  let x11 : ByteArray := ((⟨#[48]⟩ : ByteArray) ++ d.2.2.1.1)
  (T.2.1 ((), (d.2.1, ((x11, ()), ())))))
  else none)
  else (
  let x12 : Int := (d.2.2.1.1.size : Int)
  let x13 : Bool := (x12 == (0 : Int))
  bif x13 then (
  bif fitsS (⟨#[48]⟩ : ByteArray) d.2.2.1.1 then (
  let x14 : ByteArray := ((⟨#[48]⟩ : ByteArray) ++ d.2.2.1.1)
  (T.2.1 ((), (d.2.1, ((x14, ()), ())))))
  else none)
  else (
  some ((), d.2.2)))
def f_ref02_Raw_t : Nat → TT_ref02_Raw
  | 0 => (fun _ => none, (fun _ => none, ()))
  | k + 1 => (f_ref02_Raw_p3 (f_ref02_Raw_t k), (f_ref02_Raw_p8 (f_ref02_Raw_t k), ()))
theorem t_ref02_Raw (k : Nat) : f_ref02_Raw_t (k + 1) = (f_ref02_Raw_p3 (f_ref02_Raw_t k), (f_ref02_Raw_p8 (f_ref02_Raw_t k), ())) := rfl
def f_ref02_Raw_m (T : TT_ref02_Raw) (d : Unit × ((Int × Unit) × ((Int × Unit) × Unit))) : Option (Unit × ((ByteArray × Unit) × Unit)) :=
  (T.1 ((), (d.2.1, (d.2.2.1, (((⟨#[]⟩ : ByteArray), ()), ())))))
def c_ref02_Raw : List Nat := []
def L_ref02_Raw (k : Nat) : Pts po_ref02_Raw.den := [(3, ⟨sh_ref02_Raw_3, (f_ref02_Raw_t k).1⟩), (8, ⟨sh_ref02_Raw_8, (f_ref02_Raw_t k).2.1⟩)]
def R_ref02_Raw (_ : Nat) : PtsR po_ref02_Raw.den := []
def E_ref02_Raw : Env := E0
theorem q_ref02_Raw_3 (k : Nat) (d : sh_ref02_Raw_3.den) : evAt E_ref02_Raw (tb (L_ref02_Raw k) (R_ref02_Raw k)) c_ref02_Raw 3 (bodyOf Tryd.f38) 0 (finK E_ref02_Raw po_ref02_Raw [.tmp 4]) (ptSt sh_ref02_Raw_3 d) = f_ref02_Raw_p3 (f_ref02_Raw_t k) d := by kernel_rfl
theorem q_ref02_Raw_8 (k : Nat) (d : sh_ref02_Raw_8.den) : evAt E_ref02_Raw (tb (L_ref02_Raw k) (R_ref02_Raw k)) c_ref02_Raw 8 (bodyOf Tryd.f38) 0 (finK E_ref02_Raw po_ref02_Raw [.tmp 4]) (ptSt sh_ref02_Raw_8 d) = f_ref02_Raw_p8 (f_ref02_Raw_t k) d := by kernel_rfl
theorem q_ref02_Raw_m (k : Nat) (d : pi_ref02_Raw.den) : evCode E_ref02_Raw (tb (L_ref02_Raw k) (R_ref02_Raw k)) c_ref02_Raw (bodyOf Tryd.f38) 0 (finK E_ref02_Raw po_ref02_Raw [.tmp 4]) (startSt pi_ref02_Raw 30 d) = f_ref02_Raw_m (f_ref02_Raw_t k) d := by kernel_rfl
def g_ref02_Raw (d : Unit × ((Int × Unit) × ((Int × Unit) × Unit))) : Option (Unit × ((ByteArray × Unit) × Unit)) := lim fun k => f_ref02_Raw_m (f_ref02_Raw_t k) d
theorem ok_ref02_Raw : FnOk Tryd.prog ET0 38 pi_ref02_Raw po_ref02_Raw g_ref02_Raw :=
  fn_of_body (E := E_ref02_Raw) e0_ok (fn := Tryd.f38) Tryd.func38 (by kernel_rfl) (by kernel_rfl) [.tmp 4] (by kernel_rfl) (by kernel_rfl) (by decide) rfl c_ref02_Raw L_ref02_Raw R_ref02_Raw
    (by intro x hx d; simp only [L_ref02_Raw, List.mem_cons, List.not_mem_nil, or_false] at hx; rcases hx with rfl | rfl; rfl; rfl)
    (by intro k x hx d out h; simp only [L_ref02_Raw, List.mem_cons, List.not_mem_nil, or_false] at hx; rcases hx with rfl | rfl; exact (q_ref02_Raw_3 k d).trans h; exact (q_ref02_Raw_8 k d).trans h)
    (by intro x hx; cases hx)
    (by intro k x hx; cases hx)
    (by intro d out h; obtain ⟨k, hk⟩ := lim_some h; exact ⟨k, (q_ref02_Raw_m k d).trans hk⟩)

@[reducible] def pi_ref30_Address : PSh := ⟨[], [.mk true [v8, v8, v8, v8]]⟩
@[reducible] def po_ref30_Address : PSh := ⟨[], [.mk false [vS]]⟩
@[reducible] def TT_ref30_Address : Type := (((((Int × (Int × (Int × (Int × Unit)))) × Unit) × (Unit × ((ByteArray × Unit) × ((Int × Unit) × Unit)))) → Option (Unit × ((ByteArray × Unit) × Unit))) × Unit)
@[reducible] def sh_ref30_Address_4 : PSh := ⟨[.var 23 [v8, v8, v8, v8]], [.any, .mk false [.ref 0 0], .any, .mk false [vS], .mk false [vI], .any, .any, .any, .any, .any, .any, .any, .any, .any, .any, .any, .any, .any, .any, .any, .any]⟩
def f_ref30_Address_p4 (T : TT_ref30_Address) (d : ((Int × (Int × (Int × (Int × Unit)))) × Unit) × (Unit × ((ByteArray × Unit) × ((Int × Unit) × Unit)))) : Option (Unit × ((ByteArray × Unit) × Unit)) :=
  let x1 : Bool := (decide (d.2.2.2.1.1 < (4 : Int)))
  bif x1 then (
  let x2 : Bool := (decide (d.2.2.2.1.1 > (0 : Int)))
  bif x2 then (
  bif fitsS d.2.2.1.1 (⟨#[46]⟩ : ByteArray) then (
  let x3 : ByteArray := (d.2.2.1.1 ++ (⟨#[46]⟩ : ByteArray))
  bif decide ((0 : Int) ≤ d.2.2.2.1.1) && decide (d.2.2.2.1.1 < (4 : Int)) then (
  bif decide (d.2.2.2.1.1 = (0 : Int)) then (
  let x16 : Int := (iconv .i64 d.1.1.1)
  (g_ref02_Raw ((), ((x16, ()), (((1 : Int), ()), ())))).bind fun x17 =>
  bif fitsS x3 x17.2.1.1 then (
  let x18 : ByteArray := (x3 ++ x17.2.1.1)
  let x19 : Int := (iadd .i64 d.2.2.2.1.1 (1 : Int))
  (T.1 (d.1, ((), ((x18, ()), ((x19, ()), ()))))))
  else none)
  else (
  bif decide (d.2.2.2.1.1 = (1 : Int)) then (
  let x12 : Int := (iconv .i64 d.1.1.2.1)
  (g_ref02_Raw ((), ((x12, ()), (((1 : Int), ()), ())))).bind fun x13 =>
  bif fitsS x3 x13.2.1.1 then (
  let x14 : ByteArray := (x3 ++ x13.2.1.1)
  let x15 : Int := (iadd .i64 d.2.2.2.1.1 (1 : Int))
  (T.1 (d.1, ((), ((x14, ()), ((x15, ()), ()))))))
  else none)
  else (
  bif decide (d.2.2.2.1.1 = (2 : Int)) then (
  let x8 : Int := (iconv .i64 d.1.1.2.2.1)
  (g_ref02_Raw ((), ((x8, ()), (((1 : Int), ()), ())))).bind fun x9 =>
  bif fitsS x3 x9.2.1.1 then (
  let x10 : ByteArray := (x3 ++ x9.2.1.1)
  let x11 : Int := (iadd .i64 d.2.2.2.1.1 (1 : Int))
  (T.1 (d.1, ((), ((x10, ()), ((x11, ()), ()))))))
  else none)
  else (
  bif decide (d.2.2.2.1.1 = (3 : Int)) then (
  let x4 : Int := (iconv .i64 d.1.1.2.2.2.1)
  (g_ref02_Raw ((), ((x4, ()), (((1 : Int), ()), ())))).bind fun x5 =>
  bif fitsS x3 x5.2.1.1 then (
  let x6 : ByteArray := (x3 ++ x5.2.1.1)
  let x7 : Int := (iadd .i64 d.2.2.2.1.1 (1 : Int))
  (T.1 (d.1, ((), ((x6, ()), ((x7, ()), ()))))))
  else none)
  else (
  none)))))
  else none)
  else none)
  else (
  bif decide ((0 : Int) ≤ d.2.2.2.1.1) && decide (d.2.2.2.1.1 < (4 : Int)) then (
  bif decide (d.2.2.2.1.1 = (0 : Int)) then (
  let x32 : Int := (iconv .i64 d.1.1.1)
  (g_ref02_Raw ((), ((x32, ()), (((1 : Int), ()), ())))).bind fun x33 =>
  bif fitsS d.2.2.1.1 x33.2.1.1 then (
  let x34 : ByteArray := (d.2.2.1.1 ++ x33.2.1.1)
  let x35 : Int := (iadd .i64 d.2.2.2.1.1 (1 : Int))
  (T.1 (d.1, ((), ((x34, ()), ((x35, ()), ()))))))
  else none)
  else (
  bif decide (d.2.2.2.1.1 = (1 : Int)) then (
  let x28 : Int := (iconv .i64 d.1.1.2.1)
  (g_ref02_Raw ((), ((x28, ()), (((1 : Int), ()), ())))).bind fun x29 =>
  bif fitsS d.2.2.1.1 x29.2.1.1 then (
  let x30 : ByteArray := (d.2.2.1.1 ++ x29.2.1.1)
  let x31 : Int := (iadd .i64 d.2.2.2.1.1 (1 : Int))
  (T.1 (d.1, ((), ((x30, ()), ((x31, ()), ()))))))
  else none)
  else (
  bif decide (d.2.2.2.1.1 = (2 : Int)) then (
  let x24 : Int := (iconv .i64 d.1.1.2.2.1)
  (g_ref02_Raw ((), ((x24, ()), (((1 : Int), ()), ())))).bind fun x25 =>
  bif fitsS d.2.2.1.1 x25.2.1.1 then (
  let x26 : ByteArray := (d.2.2.1.1 ++ x25.2.1.1)
  let x27 : Int := (iadd .i64 d.2.2.2.1.1 (1 : Int))
  (T.1 (d.1, ((), ((x26, ()), ((x27, ()), ()))))))
  else none)
  else (
  bif decide (d.2.2.2.1.1 = (3 : Int)) then (
  let x20 : Int := (iconv .i64 d.1.1.2.2.2.1)
  (g_ref02_Raw ((), ((x20, ()), (((1 : Int), ()), ())))).bind fun x21 =>
  bif fitsS d.2.2.1.1 x21.2.1.1 then (
  let x22 : ByteArray := (d.2.2.1.1 ++ x21.2.1.1)
  let x23 : Int := (iadd .i64 d.2.2.2.1.1 (1 : Int))
  (T.1 (d.1, ((), ((x22, ()), ((x23, ()), ()))))))
  else none)
  else (
  none)))))
  else none))
  else (
  some ((), (d.2.2.1, ())))
def f_ref30_Address_t : Nat → TT_ref30_Address
  | 0 => (fun _ => none, ())
  | k + 1 => (f_ref30_Address_p4 (f_ref30_Address_t k), ())
theorem t_ref30_Address (k : Nat) : f_ref30_Address_t (k + 1) = (f_ref30_Address_p4 (f_ref30_Address_t k), ()) := rfl
def f_ref30_Address_m (T : TT_ref30_Address) (d : Unit × ((Int × (Int × (Int × (Int × Unit)))) × Unit)) : Option (Unit × ((ByteArray × Unit) × Unit)) :=
  (T.1 (d.2, ((), (((⟨#[]⟩ : ByteArray), ()), (((0 : Int), ()), ())))))
def c_ref30_Address : List Nat := []
def L_ref30_Address (k : Nat) : Pts po_ref30_Address.den := [(4, ⟨sh_ref30_Address_4, (f_ref30_Address_t k).1⟩)]
def R_ref30_Address (_ : Nat) : PtsR po_ref30_Address.den := []
def E_ref30_Address : Env := (E0.add 38 (typedSem pi_ref02_Raw po_ref02_Raw g_ref02_Raw))
theorem q_ref30_Address_4 (k : Nat) (d : sh_ref30_Address_4.den) : evAt E_ref30_Address (tb (L_ref30_Address k) (R_ref30_Address k)) c_ref30_Address 4 (bodyOf Tryd.f19) 0 (finK E_ref30_Address po_ref30_Address [.tmp 2]) (ptSt sh_ref30_Address_4 d) = f_ref30_Address_p4 (f_ref30_Address_t k) d := by kernel_rfl
theorem q_ref30_Address_m (k : Nat) (d : pi_ref30_Address.den) : evCode E_ref30_Address (tb (L_ref30_Address k) (R_ref30_Address k)) c_ref30_Address (bodyOf Tryd.f19) 0 (finK E_ref30_Address po_ref30_Address [.tmp 2]) (startSt pi_ref30_Address 21 d) = f_ref30_Address_m (f_ref30_Address_t k) d := by kernel_rfl
def g_ref30_Address (d : Unit × ((Int × (Int × (Int × (Int × Unit)))) × Unit)) : Option (Unit × ((ByteArray × Unit) × Unit)) := lim fun k => f_ref30_Address_m (f_ref30_Address_t k) d
theorem ok_ref30_Address : FnOk Tryd.prog ET0 19 pi_ref30_Address po_ref30_Address g_ref30_Address :=
  fn_of_body (E := E_ref30_Address) (envOk_add e0_ok (typed_ok ok_ref02_Raw)) (fn := Tryd.f19) Tryd.func19 (by kernel_rfl) (by kernel_rfl) [.tmp 2] (by kernel_rfl) (by kernel_rfl) (by decide) rfl c_ref30_Address L_ref30_Address R_ref30_Address
    (by intro x hx d; simp only [L_ref30_Address, List.mem_cons, List.not_mem_nil, or_false] at hx; subst hx; rfl)
    (by intro k x hx d out h; simp only [L_ref30_Address, List.mem_cons, List.not_mem_nil, or_false] at hx; subst hx; exact (q_ref30_Address_4 k d).trans h)
    (by intro x hx; cases hx)
    (by intro k x hx; cases hx)
    (by intro d out h; obtain ⟨k, hk⟩ := lim_some h; exact ⟨k, (q_ref30_Address_m k d).trans hk⟩)

@[reducible] def pi_refid_Text : PSh := ⟨[], [.mk true [v8, v8, v8, v8], .mk false [vI]]⟩
@[reducible] def po_refid_Text : PSh := ⟨[], [.mk false [vS]]⟩
def f_refid_Text_m (T : Unit) (d : Unit × ((Int × (Int × (Int × (Int × Unit)))) × ((Int × Unit) × Unit))) : Option (Unit × ((ByteArray × Unit) × Unit)) :=
  (g_refid_Name ((), (d.2.1, ()))).bind fun x1 =>
  bif x1.2.2.1.1 then (
  let x2 : Bool := (d.2.2.1.1 == (0 : Int))
  bif x2 then (
  some ((), (x1.2.1, ())))
  else (
  let x3 : Bool := (d.2.2.1.1 == (1 : Int))
  bif x3 then (
  some ((), (x1.2.1, ())))
  else (
  (g_refid_Address ((), (d.2.1, ()))).bind fun x4 =>
  some ((), x4.2))))
  else (
  (g_refid_Address ((), (d.2.1, ()))).bind fun x5 =>
  some ((), x5.2))
def g_refid_Text (d : Unit × ((Int × (Int × (Int × (Int × Unit)))) × ((Int × Unit) × Unit))) : Option (Unit × ((ByteArray × Unit) × Unit)) := f_refid_Text_m () d
theorem ok_refid_Text : FnOk Tryd.prog ET0 20 pi_refid_Text po_refid_Text g_refid_Text :=
  fn0 (E := ((E0.add 14 (typedSem pi_refid_Address po_refid_Address g_refid_Address)).add 17 (typedSem pi_refid_Name po_refid_Name g_refid_Name))) (envOk_add (envOk_add e0_ok (typed_ok ok_refid_Address)) (typed_ok ok_refid_Name)) (fn := Tryd.f20) Tryd.func20 (by kernel_rfl) (by kernel_rfl) [.tmp 4] (by kernel_rfl) rfl rfl rfl [] fun d => by kernel_rfl

@[reducible] def pi_ref30_Text : PSh := ⟨[], [.mk true [v8, v8, v8, v8], .mk false [vI]]⟩
@[reducible] def po_ref30_Text : PSh := ⟨[], [.mk false [vS]]⟩
def f_ref30_Text_m (T : Unit) (d : Unit × ((Int × (Int × (Int × (Int × Unit)))) × ((Int × Unit) × Unit))) : Option (Unit × ((ByteArray × Unit) × Unit)) :=
  (g_ref30_Name ((), (d.2.1, ()))).bind fun x1 =>
  bif x1.2.2.1.1 then (
  let x2 : Bool := (decide (d.2.2.1.1 ≥ (0 : Int)))
  bif x2 then (
  let x3 : Bool := (decide (d.2.2.1.1 ≤ (1 : Int)))
  bif x3 then (
  some ((), (x1.2.1, ())))
  else (
  (g_ref30_Address ((), (d.2.1, ()))).bind fun x4 =>
  some ((), x4.2)))
  else (
  (g_ref30_Address ((), (d.2.1, ()))).bind fun x5 =>
  some ((), x5.2)))
  else (
  (g_ref30_Address ((), (d.2.1, ()))).bind fun x6 =>
  some ((), x6.2))
def g_ref30_Text (d : Unit × ((Int × (Int × (Int × (Int × Unit)))) × ((Int × Unit) × Unit))) : Option (Unit × ((ByteArray × Unit) × Unit)) := f_ref30_Text_m () d
theorem ok_ref30_Text : FnOk Tryd.prog ET0 21 pi_ref30_Text po_ref30_Text g_ref30_Text :=
  fn0 (E := ((E0.add 18 (typedSem pi_ref30_Name po_ref30_Name g_ref30_Name)).add 19 (typedSem pi_ref30_Address po_ref30_Address g_ref30_Address))) (envOk_add (envOk_add e0_ok (typed_ok ok_ref30_Name)) (typed_ok ok_ref30_Address)) (fn := Tryd.f21) Tryd.func21 (by kernel_rfl) (by kernel_rfl) [.tmp 4] (by kernel_rfl) rfl rfl rfl [] fun d => by kernel_rfl

@[reducible] def pi_ref30_Refuses : PSh := ⟨[], [.mk true [v8, v8, v8, v8]]⟩
@[reducible] def po_ref30_Refuses : PSh := ⟨[], [.mk false [vB]]⟩
@[reducible] def TT_ref30_Refuses : Type := (((((Int × (Int × (Int × (Int × Unit)))) × ((List ByteArray) × Unit)) × (Unit × (Unit × ((Int × Unit) × ((Int × Unit) × Unit))))) → Option (Unit × ((Bool × Unit) × Unit))) × Unit)
@[reducible] def sh_ref30_Refuses_3 : PSh := ⟨[.var 23 [v8, v8, v8, v8], .row 9 .str], [.any, .mk false [.ref 0 0], .any, .any, .any, .any, .any, .mk false [.osl 1], .mk false [vI], .mk false [vI], .any, .any, .any, .any, .any, .any, .any, .any, .any, .any, .any, .any]⟩
def f_ref30_Refuses_p3 (T : TT_ref30_Refuses) (d : ((Int × (Int × (Int × (Int × Unit)))) × ((List ByteArray) × Unit)) × (Unit × (Unit × ((Int × Unit) × ((Int × Unit) × Unit))))) : Option (Unit × ((Bool × Unit) × Unit)) :=
  let x3 : Bool := (decide (d.2.2.2.2.1.1 < d.2.2.2.1.1))
  bif x3 then (
  bif decide ((0 : Int) ≤ d.2.2.2.2.1.1) && decide (d.2.2.2.2.1.1 < (d.1.2.1.length : Int)) then (
  (g_ref30_Code ((), (((gd .str d.1.2.1 d.2.2.2.2.1.1), ()), ()))).bind fun x4 =>
  let x5 : Bool := ((x4.2.1.1 == d.1.1.1) && ((x4.2.1.2.1 == d.1.1.2.1) && ((x4.2.1.2.2.1 == d.1.1.2.2.1) && ((x4.2.1.2.2.2.1 == d.1.1.2.2.2.1) && true))))
  bif x5 then (
  some ((), ((true, ()), ())))
  else (
  let x6 : Int := (iadd .i64 d.2.2.2.2.1.1 (1 : Int))
  (T.1 (d.1, ((), ((), (d.2.2.2.1, ((x6, ()), ()))))))))
  else none)
  else (
  some ((), ((false, ()), ())))
def f_ref30_Refuses_t : Nat → TT_ref30_Refuses
  | 0 => (fun _ => none, ())
  | k + 1 => (f_ref30_Refuses_p3 (f_ref30_Refuses_t k), ())
theorem t_ref30_Refuses (k : Nat) : f_ref30_Refuses_t (k + 1) = (f_ref30_Refuses_p3 (f_ref30_Refuses_t k), ()) := rfl
def f_ref30_Refuses_m (T : TT_ref30_Refuses) (d : Unit × ((Int × (Int × (Int × (Int × Unit)))) × Unit)) : Option (Unit × ((Bool × Unit) × Unit)) :=
  let x1 : (List ByteArray) := ([(⟨#[65, 67, 83, 84]⟩ : ByteArray), (⟨#[65, 85, 84, 72]⟩ : ByteArray), (⟨#[65, 85, 84, 79]⟩ : ByteArray), (⟨#[66, 67, 83, 84]⟩ : ByteArray), (⟨#[67, 82, 89, 80]⟩ : ByteArray), (⟨#[68, 69, 78, 89]⟩ : ByteArray), (⟨#[68, 82, 79, 80]⟩ : ByteArray), (⟨#[82, 83, 84, 82]⟩ : ByteArray), (⟨#[73, 78, 73, 84]⟩ : ByteArray), (⟨#[77, 67, 83, 84]⟩ : ByteArray), (⟨#[78, 75, 69, 89]⟩ : ByteArray), (⟨#[82, 65, 84, 69]⟩ : ByteArray), (⟨#[82, 77, 79, 84]⟩ : ByteArray), (⟨#[83, 84, 69, 80]⟩ : ByteArray)] : List ByteArray)
  let x2 : Int := (x1.length : Int)
  (T.1 ((d.2.1, (x1, ())), ((), ((), ((x2, ()), (((0 : Int), ()), ()))))))
def c_ref30_Refuses : List Nat := []
def L_ref30_Refuses (k : Nat) : Pts po_ref30_Refuses.den := [(3, ⟨sh_ref30_Refuses_3, (f_ref30_Refuses_t k).1⟩)]
def R_ref30_Refuses (_ : Nat) : PtsR po_ref30_Refuses.den := []
def E_ref30_Refuses : Env := (E0.add 10 (typedSem pi_ref30_Code po_ref30_Code g_ref30_Code))
theorem q_ref30_Refuses_3 (k : Nat) (d : sh_ref30_Refuses_3.den) : evAt E_ref30_Refuses (tb (L_ref30_Refuses k) (R_ref30_Refuses k)) c_ref30_Refuses 3 (bodyOf Tryd.f23) 0 (finK E_ref30_Refuses po_ref30_Refuses [.tmp 2]) (ptSt sh_ref30_Refuses_3 d) = f_ref30_Refuses_p3 (f_ref30_Refuses_t k) d := by kernel_rfl
theorem q_ref30_Refuses_m (k : Nat) (d : pi_ref30_Refuses.den) : evCode E_ref30_Refuses (tb (L_ref30_Refuses k) (R_ref30_Refuses k)) c_ref30_Refuses (bodyOf Tryd.f23) 0 (finK E_ref30_Refuses po_ref30_Refuses [.tmp 2]) (startSt pi_ref30_Refuses 22 d) = f_ref30_Refuses_m (f_ref30_Refuses_t k) d := by kernel_rfl
def g_ref30_Refuses (d : Unit × ((Int × (Int × (Int × (Int × Unit)))) × Unit)) : Option (Unit × ((Bool × Unit) × Unit)) := lim fun k => f_ref30_Refuses_m (f_ref30_Refuses_t k) d
theorem ok_ref30_Refuses : FnOk Tryd.prog ET0 23 pi_ref30_Refuses po_ref30_Refuses g_ref30_Refuses :=
  fn_of_body (E := E_ref30_Refuses) (envOk_add e0_ok (typed_ok ok_ref30_Code)) (fn := Tryd.f23) Tryd.func23 (by kernel_rfl) (by kernel_rfl) [.tmp 2] (by kernel_rfl) (by kernel_rfl) (by decide) rfl c_ref30_Refuses L_ref30_Refuses R_ref30_Refuses
    (by intro x hx d; simp only [L_ref30_Refuses, List.mem_cons, List.not_mem_nil, or_false] at hx; subst hx; rfl)
    (by intro k x hx d out h; simp only [L_ref30_Refuses, List.mem_cons, List.not_mem_nil, or_false] at hx; subst hx; exact (q_ref30_Refuses_3 k d).trans h)
    (by intro x hx; cases hx)
    (by intro k x hx; cases hx)
    (by intro d out h; obtain ⟨k, hk⟩ := lim_some h; exact ⟨k, (q_ref30_Refuses_m k d).trans hk⟩)

@[reducible] def pi_ref03_Value : PSh := ⟨[], [.mk false [.v (.sl (.int .u8))]]⟩
@[reducible] def po_ref03_Value : PSh := ⟨[], [.mk false [.v (.int .u64)]]⟩
@[reducible] def TT_ref03_Value : Type := (((Unit × (((List Int) × Unit) × ((Int × Unit) × ((Int × Unit) × Unit)))) → Option (Unit × ((Int × Unit) × Unit))) × Unit)
@[reducible] def sh_ref03_Value_4 : PSh := ⟨[], [.mk false [.v (.sl (.int .u8))], .any, .any, .mk false [.v (.int .u64)], .mk false [vI], .any, .any, .any, .any, .any, .any, .any, .any, .any, .any, .any, .any, .any, .any, .any]⟩
def f_ref03_Value_p4 (T : TT_ref03_Value) (d : Unit × (((List Int) × Unit) × ((Int × Unit) × ((Int × Unit) × Unit)))) : Option (Unit × ((Int × Unit) × Unit)) :=
  let x1 : Int := (d.2.1.1.length : Int)
  let x2 : Bool := (decide (d.2.2.2.1.1 < x1))
  bif x2 then (
  let x3 : Int := (imul .u64 d.2.2.1.1 (256 : Int))
  bif decide ((0 : Int) ≤ d.2.2.2.1.1) && decide (d.2.2.2.1.1 < (d.2.1.1.length : Int)) then (
  let x4 : Int := (iconv .u64 (gd (.int .u8) d.2.1.1 d.2.2.2.1.1))
  let x5 : Int := (iadd .u64 x3 x4)
  let x6 : Int := (iadd .i64 d.2.2.2.1.1 (1 : Int))
  (T.1 ((), (d.2.1, ((x5, ()), ((x6, ()), ()))))))
  else none)
  else (
  some ((), (d.2.2.1, ())))
def f_ref03_Value_t : Nat → TT_ref03_Value
  | 0 => (fun _ => none, ())
  | k + 1 => (f_ref03_Value_p4 (f_ref03_Value_t k), ())
theorem t_ref03_Value (k : Nat) : f_ref03_Value_t (k + 1) = (f_ref03_Value_p4 (f_ref03_Value_t k), ()) := rfl
def f_ref03_Value_m (T : TT_ref03_Value) (d : Unit × (((List Int) × Unit) × Unit)) : Option (Unit × ((Int × Unit) × Unit)) :=
  (T.1 ((), (d.2.1, (((0 : Int), ()), (((0 : Int), ()), ())))))
def c_ref03_Value : List Nat := []
def L_ref03_Value (k : Nat) : Pts po_ref03_Value.den := [(4, ⟨sh_ref03_Value_4, (f_ref03_Value_t k).1⟩)]
def R_ref03_Value (_ : Nat) : PtsR po_ref03_Value.den := []
def E_ref03_Value : Env := E0
theorem q_ref03_Value_4 (k : Nat) (d : sh_ref03_Value_4.den) : evAt E_ref03_Value (tb (L_ref03_Value k) (R_ref03_Value k)) c_ref03_Value 4 (bodyOf Tryd.f24) 0 (finK E_ref03_Value po_ref03_Value [.tmp 2]) (ptSt sh_ref03_Value_4 d) = f_ref03_Value_p4 (f_ref03_Value_t k) d := by kernel_rfl
theorem q_ref03_Value_m (k : Nat) (d : pi_ref03_Value.den) : evCode E_ref03_Value (tb (L_ref03_Value k) (R_ref03_Value k)) c_ref03_Value (bodyOf Tryd.f24) 0 (finK E_ref03_Value po_ref03_Value [.tmp 2]) (startSt pi_ref03_Value 20 d) = f_ref03_Value_m (f_ref03_Value_t k) d := by kernel_rfl
def g_ref03_Value (d : Unit × (((List Int) × Unit) × Unit)) : Option (Unit × ((Int × Unit) × Unit)) := lim fun k => f_ref03_Value_m (f_ref03_Value_t k) d
theorem ok_ref03_Value : FnOk Tryd.prog ET0 24 pi_ref03_Value po_ref03_Value g_ref03_Value :=
  fn_of_body (E := E_ref03_Value) e0_ok (fn := Tryd.f24) Tryd.func24 (by kernel_rfl) (by kernel_rfl) [.tmp 2] (by kernel_rfl) (by kernel_rfl) (by decide) rfl c_ref03_Value L_ref03_Value R_ref03_Value
    (by intro x hx d; simp only [L_ref03_Value, List.mem_cons, List.not_mem_nil, or_false] at hx; subst hx; rfl)
    (by intro k x hx d out h; simp only [L_ref03_Value, List.mem_cons, List.not_mem_nil, or_false] at hx; subst hx; exact (q_ref03_Value_4 k d).trans h)
    (by intro x hx; cases hx)
    (by intro k x hx; cases hx)
    (by intro d out h; obtain ⟨k, hk⟩ := lim_some h; exact ⟨k, (q_ref03_Value_m k d).trans hk⟩)

@[reducible] def pi_law30_RefidTexts : PSh := ⟨[], [.mk true [v8, v8, v8, v8], .mk false [vI]]⟩
@[reducible] def po_law30_RefidTexts : PSh := ⟨[], [.mk false [vB]]⟩
def f_law30_RefidTexts_m (T : Unit) (d : Unit × ((Int × (Int × (Int × (Int × Unit)))) × ((Int × Unit) × Unit))) : Option (Unit × ((Bool × Unit) × Unit)) :=
  (g_law30_alive ((), ())).bind fun x1 =>
  let x2 : Bool := (!x1.2.1.1)
  bif x2 then (
  some ((), ((false, ()), ())))
  else (
  (g_refid_Name ((), (d.2.1, ()))).bind fun x3 =>
  (g_ref30_Name ((), (d.2.1, ()))).bind fun x4 =>
  (g_refid_Number ((), (d.2.1, ()))).bind fun x5 =>
  let x6 : (Int × (Int × (Int × Int))) := (d.2.1.1, (d.2.1.2.1, (d.2.1.2.2.1, d.2.1.2.2.2.1)))
  let x7 : Bool := (x3.2.1.1.toList == x4.2.1.1.toList)
  bif x7 then (
  let x8 : Bool := (x3.2.2.1.1 == x4.2.2.1.1)
  bif x8 then (
  (g_refid_Address ((), ((x6.1, (x6.2.1, (x6.2.2.1, (x6.2.2.2, ())))), ()))).bind fun x9 =>
  (g_ref30_Address ((), ((x6.1, (x6.2.1, (x6.2.2.1, (x6.2.2.2, ())))), ()))).bind fun x10 =>
  let x11 : Bool := (x9.2.1.1.toList == x10.2.1.1.toList)
  bif x11 then (
  (g_refid_Text ((), ((x6.1, (x6.2.1, (x6.2.2.1, (x6.2.2.2, ())))), d.2.2))).bind fun x12 =>
  (g_ref30_Text ((), ((x6.1, (x6.2.1, (x6.2.2.1, (x6.2.2.2, ())))), d.2.2))).bind fun x13 =>
  let x14 : Bool := (x12.2.1.1.toList == x13.2.1.1.toList)
  bif x14 then (
  (g_refid_Refuses ((), ((x6.1, (x6.2.1, (x6.2.2.1, (x6.2.2.2, ())))), ()))).bind fun x15 =>
  (g_ref30_Refuses ((), ((x6.1, (x6.2.1, (x6.2.2.1, (x6.2.2.2, ())))), ()))).bind fun x16 =>
  let x17 : Bool := (x15.2.1.1 == x16.2.1.1)
  bif x17 then (
  let x18 : Int := (iconv .u64 x5.2.1.1)
  let x19 : (List Int) := ([x6.1, x6.2.1, x6.2.2.1, x6.2.2.2] : List Int)
  (g_ref03_Value ((), ((x19, ()), ()))).bind fun x20 =>
  let x21 : Bool := (x18 == x20.2.1.1)
  bif x21 then (
  (g_refid_Of ((), x5.2)).bind fun x22 =>
  let x23 : Bool := ((x22.2.1.1 == x6.1) && ((x22.2.1.2.1 == x6.2.1) && ((x22.2.1.2.2.1 == x6.2.2.1) && ((x22.2.1.2.2.2.1 == x6.2.2.2) && true))))
  some ((), ((x23, ()), ())))
  else (
  some ((), ((false, ()), ()))))
  else (
  some ((), ((false, ()), ()))))
  else (
  some ((), ((false, ()), ()))))
  else (
  some ((), ((false, ()), ()))))
  else (
  some ((), ((false, ()), ()))))
  else (
  some ((), ((false, ()), ()))))
def g_law30_RefidTexts (d : Unit × ((Int × (Int × (Int × (Int × Unit)))) × ((Int × Unit) × Unit))) : Option (Unit × ((Bool × Unit) × Unit)) := f_law30_RefidTexts_m () d
theorem ok_law30_RefidTexts : FnOk Tryd.prog ET0 5 pi_law30_RefidTexts po_law30_RefidTexts g_law30_RefidTexts :=
  fn0 (E := (((((((((((((E0.add 6 (typedSem pi_law30_alive po_law30_alive g_law30_alive)).add 14 (typedSem pi_refid_Address po_refid_Address g_refid_Address)).add 15 (typedSem pi_refid_Number po_refid_Number g_refid_Number)).add 16 (typedSem pi_refid_Of po_refid_Of g_refid_Of)).add 17 (typedSem pi_refid_Name po_refid_Name g_refid_Name)).add 18 (typedSem pi_ref30_Name po_ref30_Name g_ref30_Name)).add 19 (typedSem pi_ref30_Address po_ref30_Address g_ref30_Address)).add 20 (typedSem pi_refid_Text po_refid_Text g_refid_Text)).add 21 (typedSem pi_ref30_Text po_ref30_Text g_ref30_Text)).add 22 (typedSem pi_refid_Refuses po_refid_Refuses g_refid_Refuses)).add 23 (typedSem pi_ref30_Refuses po_ref30_Refuses g_ref30_Refuses)).add 24 (typedSem pi_ref03_Value po_ref03_Value g_ref03_Value)).fr [(1000006, [2])])) (envOk_fr (envOk_add (envOk_add (envOk_add (envOk_add (envOk_add (envOk_add (envOk_add (envOk_add (envOk_add (envOk_add (envOk_add (envOk_add e0_ok (typed_ok ok_law30_alive)) (typed_ok ok_refid_Address)) (typed_ok ok_refid_Number)) (typed_ok ok_refid_Of)) (typed_ok ok_refid_Name)) (typed_ok ok_ref30_Name)) (typed_ok ok_ref30_Address)) (typed_ok ok_refid_Text)) (typed_ok ok_ref30_Text)) (typed_ok ok_refid_Refuses)) (typed_ok ok_ref30_Refuses)) (typed_ok ok_ref03_Value))) (fn := Tryd.f5) Tryd.func5 (by kernel_rfl) (by kernel_rfl) [.tmp 4] (by kernel_rfl) rfl rfl rfl [] fun d => by kernel_rfl

@[reducible] def pi_law30_RefidBack : PSh := ⟨[], [.mk true [v8, v8, v8, v8], .mk false [vS], .mk false [.v (.int .u32)]]⟩
@[reducible] def po_law30_RefidBack : PSh := ⟨[], [.mk false [vB]]⟩
@[reducible] def TT_law30_RefidBack : Type := (((Unit × ((ByteArray × Unit) × Unit)) → Option (Unit × ((Bool × Unit) × Unit))) × Unit)
@[reducible] def sh_law30_RefidBack_18 : PSh := ⟨[], [.any, .mk false [vS], .any, .any, .any, .any, .any, .any, .any, .any, .any, .any, .any, .any, .any, .any, .any, .any, .any, .any, .any, .any, .any, .any, .any, .any, .any, .any, .any, .any, .any, .any, .any, .any, .any, .any, .any, .any, .any, .any, .any, .any, .any, .any, .any, .any, .any, .any, .any, .any, .any, .any, .any, .any, .any, .any, .any, .any, .any, .any, .any, .any, .any, .any, .any, .any, .any, .any, .any, .any, .any, .any, .any, .any, .any, .any, .any, .any, .any, .any, .any, .any, .any, .any, .any, .any, .any, .any, .any, .any, .any, .any, .any, .any, .any, .any, .any, .any, .any, .any, .any, .any, .any, .any, .any, .any, .any, .any, .any, .any, .any, .any, .any, .any, .any, .any, .any, .any, .any, .any]⟩
def f_law30_RefidBack_p18 (T : TT_law30_RefidBack) (d : Unit × ((ByteArray × Unit) × Unit)) : Option (Unit × ((Bool × Unit) × Unit)) :=
  (g_refid_ParseAddress ((), d.2)).bind fun x28 =>
  let x29 : Bool := (!x28.2.2.1.1.isNone)
  bif x29 then (
  let x30 : Bool := ((x28.2.1.1 == (0 : Int)) && ((x28.2.1.2.1 == (0 : Int)) && ((x28.2.1.2.2.1 == (0 : Int)) && ((x28.2.1.2.2.2.1 == (0 : Int)) && true))))
  bif x30 then (
  some ((), ((true, ()), ())))
  else (
  bif x28.2.2.1.1.isNone then (
  (g_refid_Address ((), (x28.2.1, ()))).bind fun x31 =>
  let x32 : Bool := (x31.2.1.1.toList == d.2.1.1.toList)
  some ((), ((x32, ()), ())))
  else (
  some ((), ((false, ()), ())))))
  else (
  bif x28.2.2.1.1.isNone then (
  (g_refid_Address ((), (x28.2.1, ()))).bind fun x33 =>
  let x34 : Bool := (x33.2.1.1.toList == d.2.1.1.toList)
  some ((), ((x34, ()), ())))
  else (
  some ((), ((false, ()), ()))))
def f_law30_RefidBack_t : Nat → TT_law30_RefidBack
  | 0 => (fun _ => none, ())
  | k + 1 => (f_law30_RefidBack_p18 (f_law30_RefidBack_t k), ())
theorem t_law30_RefidBack (k : Nat) : f_law30_RefidBack_t (k + 1) = (f_law30_RefidBack_p18 (f_law30_RefidBack_t k), ()) := rfl
def f_law30_RefidBack_m (T : TT_law30_RefidBack) (d : Unit × ((Int × (Int × (Int × (Int × Unit)))) × ((ByteArray × Unit) × ((Int × Unit) × Unit)))) : Option (Unit × ((Bool × Unit) × Unit)) :=
  (g_law30_alive ((), ())).bind fun x1 =>
  let x2 : Bool := (!x1.2.1.1)
  bif x2 then (
  some ((), ((false, ()), ())))
  else (
  let x3 : Int := (d.2.2.1.1.size : Int)
  let x4 : Bool := (decide (x3 > (100 : Int)))
  bif x4 then (
  some ((), ((true, ()), ())))
  else (
  (g_refid_Address ((), (d.2.1, ()))).bind fun x5 =>
  (g_refid_ParseAddress ((), x5.2)).bind fun x6 =>
  (g_refid_Address ((), (d.2.1, ()))).bind fun x7 =>
  (g_refid_Parse ((), x7.2)).bind fun x8 =>
  let x9 : Bool := (!x6.2.2.1.1.isNone)
  bif x9 then (
  some ((), ((false, ()), ())))
  else (
  let x10 : Bool := (!x8.2.2.1.1.isNone)
  bif x10 then (
  some ((), ((false, ()), ())))
  else (
  let x11 : Bool := (!((x6.2.1.1 == d.2.1.1) && ((x6.2.1.2.1 == d.2.1.2.1) && ((x6.2.1.2.2.1 == d.2.1.2.2.1) && ((x6.2.1.2.2.2.1 == d.2.1.2.2.2.1) && true)))))
  bif x11 then (
  some ((), ((false, ()), ())))
  else (
  let x12 : Bool := (!((x8.2.1.1 == d.2.1.1) && ((x8.2.1.2.1 == d.2.1.2.1) && ((x8.2.1.2.2.1 == d.2.1.2.2.1) && ((x8.2.1.2.2.2.1 == d.2.1.2.2.2.1) && true)))))
  bif x12 then (
  some ((), ((false, ()), ())))
  else (
  (g_refid_Of ((), d.2.2.2)).bind fun x13 =>
  (g_refid_Number ((), x13.2)).bind fun x14 =>
  let x15 : Bool := (x14.2.1.1 != d.2.2.2.1.1)
  bif x15 then (
  some ((), ((false, ()), ())))
  else (
  (g_refid_Name ((), (d.2.1, ()))).bind fun x16 =>
  bif x16.2.2.1.1 then (
  (g_refid_Code ((), (x16.2.1, ()))).bind fun x17 =>
  let x18 : Bool := (!x17.2.2.1.1.isNone)
  bif x18 then (
  some ((), ((false, ()), ())))
  else (
  let x19 : Bool := (!((x17.2.1.1 == d.2.1.1) && ((x17.2.1.2.1 == d.2.1.2.1) && ((x17.2.1.2.2.1 == d.2.1.2.2.1) && ((x17.2.1.2.2.2.1 == d.2.1.2.2.2.1) && true)))))
  bif x19 then (
  some ((), ((false, ()), ())))
  else (
  (g_refid_Code ((), (d.2.2.1, ()))).bind fun x20 =>
  bif x20.2.2.1.1.isNone then (
  (g_refid_Name ((), (x20.2.1, ()))).bind fun x21 =>
  let x22 : Bool := (!x21.2.2.1.1)
  bif x22 then (
  some ((), ((false, ()), ())))
  else (
  let x23 : Bool := (!(x21.2.1.1.toList == d.2.2.1.1.toList))
  bif x23 then (
  some ((), ((false, ()), ())))
  else (
  (T.1 ((), (d.2.2.1, ()))))))
  else (
  (T.1 ((), (d.2.2.1, ())))))))
  else (
  (g_refid_Code ((), (d.2.2.1, ()))).bind fun x24 =>
  bif x24.2.2.1.1.isNone then (
  (g_refid_Name ((), (x24.2.1, ()))).bind fun x25 =>
  let x26 : Bool := (!x25.2.2.1.1)
  bif x26 then (
  some ((), ((false, ()), ())))
  else (
  let x27 : Bool := (!(x25.2.1.1.toList == d.2.2.1.1.toList))
  bif x27 then (
  some ((), ((false, ()), ())))
  else (
  (T.1 ((), (d.2.2.1, ()))))))
  else (
  (T.1 ((), (d.2.2.1, ()))))))))))))
def c_law30_RefidBack : List Nat := [18]
def L_law30_RefidBack (k : Nat) : Pts po_law30_RefidBack.den := [(18, ⟨sh_law30_RefidBack_18, (f_law30_RefidBack_t k).1⟩)]
def R_law30_RefidBack (_ : Nat) : PtsR po_law30_RefidBack.den := []
def E_law30_RefidBack : Env := ((((((((E0.add 6 (typedSem pi_law30_alive po_law30_alive g_law30_alive)).add 7 (typedSem pi_refid_Code po_refid_Code g_refid_Code)).add 8 (typedSem pi_refid_ParseAddress po_refid_ParseAddress g_refid_ParseAddress)).add 9 (typedSem pi_refid_Parse po_refid_Parse g_refid_Parse)).add 14 (typedSem pi_refid_Address po_refid_Address g_refid_Address)).add 15 (typedSem pi_refid_Number po_refid_Number g_refid_Number)).add 16 (typedSem pi_refid_Of po_refid_Of g_refid_Of)).add 17 (typedSem pi_refid_Name po_refid_Name g_refid_Name))
theorem q_law30_RefidBack_18 (k : Nat) (d : sh_law30_RefidBack_18.den) : evAt E_law30_RefidBack (tb (L_law30_RefidBack k) (R_law30_RefidBack k)) c_law30_RefidBack 18 (bodyOf Tryd.f4) 0 (finK E_law30_RefidBack po_law30_RefidBack [.tmp 6]) (ptSt sh_law30_RefidBack_18 d) = f_law30_RefidBack_p18 (f_law30_RefidBack_t k) d := by kernel_rfl
theorem q_law30_RefidBack_m (k : Nat) (d : pi_law30_RefidBack.den) : evCode E_law30_RefidBack (tb (L_law30_RefidBack k) (R_law30_RefidBack k)) c_law30_RefidBack (bodyOf Tryd.f4) 0 (finK E_law30_RefidBack po_law30_RefidBack [.tmp 6]) (startSt pi_law30_RefidBack 120 d) = f_law30_RefidBack_m (f_law30_RefidBack_t k) d := by kernel_rfl
def g_law30_RefidBack (d : Unit × ((Int × (Int × (Int × (Int × Unit)))) × ((ByteArray × Unit) × ((Int × Unit) × Unit)))) : Option (Unit × ((Bool × Unit) × Unit)) := lim fun k => f_law30_RefidBack_m (f_law30_RefidBack_t k) d
theorem ok_law30_RefidBack : FnOk Tryd.prog ET0 4 pi_law30_RefidBack po_law30_RefidBack g_law30_RefidBack :=
  fn_of_body (E := E_law30_RefidBack) (envOk_add (envOk_add (envOk_add (envOk_add (envOk_add (envOk_add (envOk_add (envOk_add e0_ok (typed_ok ok_law30_alive)) (typed_ok ok_refid_Code)) (typed_ok ok_refid_ParseAddress)) (typed_ok ok_refid_Parse)) (typed_ok ok_refid_Address)) (typed_ok ok_refid_Number)) (typed_ok ok_refid_Of)) (typed_ok ok_refid_Name)) (fn := Tryd.f4) Tryd.func4 (by kernel_rfl) (by kernel_rfl) [.tmp 6] (by kernel_rfl) (by kernel_rfl) (by decide) rfl c_law30_RefidBack L_law30_RefidBack R_law30_RefidBack
    (by intro x hx d; simp only [L_law30_RefidBack, List.mem_cons, List.not_mem_nil, or_false] at hx; subst hx; rfl)
    (by intro k x hx d out h; simp only [L_law30_RefidBack, List.mem_cons, List.not_mem_nil, or_false] at hx; subst hx; exact (q_law30_RefidBack_18 k d).trans h)
    (by intro x hx; cases hx)
    (by intro k x hx; cases hx)
    (by intro d out h; obtain ⟨k, hk⟩ := lim_some h; exact ⟨k, (q_law30_RefidBack_m k d).trans hk⟩)
end
end Go.Proofs.YtodnllhjikeafaaDoor.Ev
