/- Printed by wip/tools/evgen.py. -/
import Derived.Test.YtcnngodgngmghaaGreatDoorEvGa
import Derived.Test.YtcnngodgngmghaaGreatDoorEvE
import Derived.Test.YtcnngodgngmghaaGreatDoorProg
import Derived.KernelRfl
set_option maxRecDepth 100000
set_option maxHeartbeats 2000000
set_option linter.unusedVariables false
namespace Go.Proofs.YtcnngodgngmghaaGreatDoor.Ev
open Go
noncomputable section

abbrev pi_leaplist_reader_line_io : PSh := ⟨[.var 76 [.osl 1, .v (.nptr (.int .i64)), .v (.nptr (.int .i64)), .v (.nptr (.pair (.int .u32) (.pair (.int .u32) (.pair (.int .u32) (.pair (.int .u32) (.int .u32))))))], .row 70 (.pair (.int .i64) (.int .i64))], [.mk false [.ref 0 0], .mk false [vS]]⟩
abbrev po_leaplist_reader_line_io : PSh := ⟨[.var 76 [.osl 1, .v (.nptr (.int .i64)), .v (.nptr (.int .i64)), .v (.nptr (.pair (.int .u32) (.pair (.int .u32) (.pair (.int .u32) (.pair (.int .u32) (.int .u32))))))], .row 70 (.pair (.int .i64) (.int .i64))], [.mk false [vE], .mk false [.ref 0 0]]⟩
def f_leaplist_reader_line_io_m (T : Unit) (d : (((Option Int) × ((Option Int) × ((Option (Int × (Int × (Int × (Int × Int))))) × Unit))) × ((List (Int × Int)) × Unit)) × (Unit × ((ByteArray × Unit) × Unit))) : Option ((((Option Int) × ((Option Int) × ((Option (Int × (Int × (Int × (Int × Int))))) × Unit))) × ((List (Int × Int)) × Unit)) × (((Option Int) × Unit) × (Unit × Unit))) :=
  (g_strings_Trim ((), (d.2.2.1, (((⟨#[32, 9]⟩ : ByteArray), ()), ())))).bind fun x1 =>
  let x2 : Bool := (x1.2.1.1.toList == (⟨#[]⟩ : ByteArray).toList)
  bif x2 then (
  some (d.1, (((none : Option Int), ()), ((), ()))))
  else (
  (g_strings_HasPrefix ((), (d.2.2.1, (((⟨#[35, 36]⟩ : ByteArray), ()), ())))).bind fun x3 =>
  bif x3.2.1.1 then (
  bif decide ((2 : Int) ≤ (d.2.2.1.1.size : Int)) && decide ((d.2.2.1.1.size : Int) ≤ (d.2.2.1.1.size : Int)) then (
  let x4 : ByteArray := (d.2.2.1.1.extract (Int.toNat (2 : Int)) (Int.toNat (d.2.2.1.1.size : Int)))
  (g_scan_New_string ((), ((x4, ()), ()))).bind fun x5 =>
  (g_leaplist_gap_io (x5.1, ((), ()))).bind fun x6 =>
  (g_scan_Scanner_string_Figures_io (x6.1, ((), (((1 : Int), ()), (((13 : Int), ()), ()))))).bind fun x7 =>
  (g_leaplist_end_io (x7.1, ((), ()))).bind fun x8 =>
  let x9 : Bool := (!x8.2.1.1.isNone)
  bif x9 then (
  some (d.1, (x8.2.1, ((), ()))))
  else (
  let x10 : Bool := (!d.1.1.1.isNone)
  bif x10 then (
  let x11 : (Option Int) := (some (2 : Int))
  some (d.1, ((x11, ()), ((), ()))))
  else (
  some ((((some x7.2.1.1), d.1.1.2), d.1.2), (((none : Option Int), ()), ((), ()))))))
  else none)
  else (
  (g_strings_HasPrefix ((), (d.2.2.1, (((⟨#[35, 64]⟩ : ByteArray), ()), ())))).bind fun x12 =>
  bif x12.2.1.1 then (
  bif decide ((2 : Int) ≤ (d.2.2.1.1.size : Int)) && decide ((d.2.2.1.1.size : Int) ≤ (d.2.2.1.1.size : Int)) then (
  let x13 : ByteArray := (d.2.2.1.1.extract (Int.toNat (2 : Int)) (Int.toNat (d.2.2.1.1.size : Int)))
  (g_scan_New_string ((), ((x13, ()), ()))).bind fun x14 =>
  (g_leaplist_gap_io (x14.1, ((), ()))).bind fun x15 =>
  (g_scan_Scanner_string_Figures_io (x15.1, ((), (((1 : Int), ()), (((13 : Int), ()), ()))))).bind fun x16 =>
  (g_leaplist_end_io (x16.1, ((), ()))).bind fun x17 =>
  let x18 : Bool := (!x17.2.1.1.isNone)
  bif x18 then (
  some (d.1, (x17.2.1, ((), ()))))
  else (
  let x19 : Bool := (!d.1.1.2.1.isNone)
  bif x19 then (
  let x20 : (Option Int) := (some (2 : Int))
  some (d.1, ((x20, ()), ((), ()))))
  else (
  some (((d.1.1.1, ((some x16.2.1.1), d.1.1.2.2)), d.1.2), (((none : Option Int), ()), ((), ()))))))
  else none)
  else (
  (g_strings_HasPrefix ((), (d.2.2.1, (((⟨#[35, 104]⟩ : ByteArray), ()), ())))).bind fun x21 =>
  bif x21.2.1.1 then (
  bif decide ((2 : Int) ≤ (d.2.2.1.1.size : Int)) && decide ((d.2.2.1.1.size : Int) ≤ (d.2.2.1.1.size : Int)) then (
  let x22 : ByteArray := (d.2.2.1.1.extract (Int.toNat (2 : Int)) (Int.toNat (d.2.2.1.1.size : Int)))
  (g_leaplist_reader_sum_io (d.1, ((), ((x22, ()), ())))).bind fun x23 =>
  some (x23.1, (x23.2.1, ((), ()))))
  else none)
  else (
  bif decide ((0 : Int) ≤ (0 : Int)) && decide ((0 : Int) < ((d.2.2.1.1.size : Int) : Int)) then (
  let x24 : Int := (bt d.2.2.1.1 (0 : Int))
  let x25 : Bool := (x24 == (35 : Int))
  bif x25 then (
  some (d.1, (((none : Option Int), ()), ((), ()))))
  else (
  (g_leaplist_reader_row_io (d.1, ((), d.2.2))).bind fun x26 =>
  some (x26.1, (x26.2.1, ((), ())))))
  else none))))
def g_leaplist_reader_line_io (d : (((Option Int) × ((Option Int) × ((Option (Int × (Int × (Int × (Int × Int))))) × Unit))) × ((List (Int × Int)) × Unit)) × (Unit × ((ByteArray × Unit) × Unit))) : Option ((((Option Int) × ((Option Int) × ((Option (Int × (Int × (Int × (Int × Int))))) × Unit))) × ((List (Int × Int)) × Unit)) × (((Option Int) × Unit) × (Unit × Unit))) := f_leaplist_reader_line_io_m () d
theorem ok_leaplist_reader_line_io : FnIo Tryz.prog ET0 61 pi_leaplist_reader_line_io po_leaplist_reader_line_io 1 [(0, 0, none)] g_leaplist_reader_line_io :=
 fn0io (E := ((((((E0.add 86 s_strings_Trim).add 87 s_strings_HasPrefix).add 89 s_leaplist_reader_sum_io).add 90 s_leaplist_reader_row_io).add 88 (inlSem (((((E0.add 120 s_scan_New_string).add 121 s_leaplist_gap_io).add 122 s_scan_Scanner_string_Figures_io).add 123 s_leaplist_end_io).add 124 (inlSem E0 (bodyOf Tryz.f124) 2 Tryz.f124.ntmps 16 [.tmp 4])) (bodyOf Tryz.f88) 2 Tryz.f88.ntmps 16 [.tmp 4])).kp [0])) (pi := pi_leaplist_reader_line_io) (po := po_leaplist_reader_line_io) (envOk_kp (envOk_add (envOk_add (envOk_add (envOk_add (envOk_add e0_ok (typed_ok ok_strings_Trim)) (typed_ok ok_strings_HasPrefix)) (io_ok ok_leaplist_reader_sum_io)) (io_ok ok_leaplist_reader_row_io)) (inl_ok (envOk_add (envOk_add (envOk_add (envOk_add (envOk_add e0_ok (typed_ok ok_scan_New_string)) (io_ok ok_leaplist_gap_io)) (io_ok ok_scan_Scanner_string_Figures_io)) (io_ok ok_leaplist_end_io)) (inl_ok e0_ok (fn := Tryz.f124) Tryz.func124 (by kernel_rfl) (by kernel_rfl) (by kernel_rfl))) (fn := Tryz.f88) Tryz.func88 (by kernel_rfl) (by kernel_rfl) (by kernel_rfl)))) (fn := Tryz.f61) Tryz.func61 (by kernel_rfl) (by kernel_rfl) [.tmp 4] [(0, none)] [(0, 0, none)] (by kernel_rfl) rfl rfl rfl rfl rfl [] fun d => by kernel_rfl
def s_leaplist_reader_line_io := ioSem pi_leaplist_reader_line_io po_leaplist_reader_line_io 1 [(0, 0, none)] g_leaplist_reader_line_io

abbrev pi_leaplist_reader_read_io : PSh := ⟨[.var 76 [.osl 1, .v (.nptr (.int .i64)), .v (.nptr (.int .i64)), .v (.nptr (.pair (.int .u32) (.pair (.int .u32) (.pair (.int .u32) (.pair (.int .u32) (.int .u32))))))], .row 70 (.pair (.int .i64) (.int .i64))], [.mk false [.ref 0 0], .mk false [vS]]⟩
abbrev po_leaplist_reader_read_io : PSh := ⟨[.var 76 [.osl 1, .v (.nptr (.int .i64)), .v (.nptr (.int .i64)), .v (.nptr (.pair (.int .u32) (.pair (.int .u32) (.pair (.int .u32) (.pair (.int .u32) (.int .u32))))))], .row 70 (.pair (.int .i64) (.int .i64))], [.mk false [vI], .mk false [vE], .mk false [.ref 0 0]]⟩
abbrev TT_leaplist_reader_read_io : Type := ((((((Option Int) × ((Option Int) × ((Option (Int × (Int × (Int × (Int × Int))))) × Unit))) × ((List (Int × Int)) × Unit)) × (Unit × (((List ByteArray) × Unit) × ((Int × Unit) × ((Int × Unit) × Unit))))) → Option ((((Option Int) × ((Option Int) × ((Option (Int × (Int × (Int × (Int × Int))))) × Unit))) × ((List (Int × Int)) × Unit)) × ((Int × Unit) × (((Option Int) × Unit) × (Unit × Unit))))) × Unit)
abbrev sh_leaplist_reader_read_io_6 : PSh := ⟨[.var 76 [.osl 1, .v (.nptr (.int .i64)), .v (.nptr (.int .i64)), .v (.nptr (.pair (.int .u32) (.pair (.int .u32) (.pair (.int .u32) (.pair (.int .u32) (.int .u32))))))], .row 70 (.pair (.int .i64) (.int .i64))], [.mk false [.ref 0 0], .any, .any, .any, .any, .any, .any, .any, .any, .any, .any, .any, .any, .any, .any, .mk false [.v (.sl .str)], .mk false [vI], .mk false [vI]] ++ anyN 13⟩
def f_leaplist_reader_read_io_p6 (T : TT_leaplist_reader_read_io) (d : (((Option Int) × ((Option Int) × ((Option (Int × (Int × (Int × (Int × Int))))) × Unit))) × ((List (Int × Int)) × Unit)) × (Unit × (((List ByteArray) × Unit) × ((Int × Unit) × ((Int × Unit) × Unit))))) : Option ((((Option Int) × ((Option Int) × ((Option (Int × (Int × (Int × (Int × Int))))) × Unit))) × ((List (Int × Int)) × Unit)) × ((Int × Unit) × (((Option Int) × Unit) × (Unit × Unit)))) :=
  let x7 : Bool := (decide (d.2.2.2.2.1.1 < d.2.2.2.1.1))
  bif x7 then (
  bif decide ((0 : Int) ≤ d.2.2.2.2.1.1) && decide (d.2.2.2.2.1.1 < (d.2.2.1.1.length : Int)) then (
  (g_leaplist_reader_line_io (d.1, ((), (((gd .str d.2.2.1.1 d.2.2.2.2.1.1), ()), ())))).bind fun x8 =>
  let x9 : Bool := (!x8.2.1.1.isNone)
  bif x9 then (
  let x10 : Int := (iadd .i64 d.2.2.2.2.1.1 (1 : Int))
  some (x8.1, ((x10, ()), (x8.2.1, ((), ())))))
  else (
  let x11 : Int := (iadd .i64 d.2.2.2.2.1.1 (1 : Int))
  (T.1 (x8.1, ((), (d.2.2.1, (d.2.2.2.1, ((x11, ()), ()))))))))
  else none)
  else (
  some (d.1, (((0 : Int), ()), (((none : Option Int), ()), ((), ())))))
def f_leaplist_reader_read_io_t : Nat → TT_leaplist_reader_read_io
  | 0 => (fun _ => none, ())
  | k + 1 => (f_leaplist_reader_read_io_p6 (f_leaplist_reader_read_io_t k), ())
theorem t_leaplist_reader_read_io (k : Nat) : f_leaplist_reader_read_io_t (k + 1) = (f_leaplist_reader_read_io_p6 (f_leaplist_reader_read_io_t k), ()) := rfl
def f_leaplist_reader_read_io_m (T : TT_leaplist_reader_read_io) (d : (((Option Int) × ((Option Int) × ((Option (Int × (Int × (Int × (Int × Int))))) × Unit))) × ((List (Int × Int)) × Unit)) × (Unit × ((ByteArray × Unit) × Unit))) : Option ((((Option Int) × ((Option Int) × ((Option (Int × (Int × (Int × (Int × Int))))) × Unit))) × ((List (Int × Int)) × Unit)) × ((Int × Unit) × (((Option Int) × Unit) × (Unit × Unit)))) :=
  let x1 : Int := (d.2.2.1.1.size : Int)
  let x2 : Bool := (decide (x1 > (65535 : Int)))
  bif x2 then (
  let x3 : (Option Int) := (some (3 : Int))
  some (d.1, (((0 : Int), ()), ((x3, ()), ((), ())))))
  else (
  (g_strings_TrimSuffix ((), (d.2.2.1, (((⟨#[10]⟩ : ByteArray), ()), ())))).bind fun x4 =>
  (g_strings_Split ((), (x4.2.1, (((⟨#[10]⟩ : ByteArray), ()), ())))).bind fun x5 =>
  let x6 : Int := (x5.2.1.1.length : Int)
  (T.1 (d.1, ((), (x5.2.1, ((x6, ()), (((0 : Int), ()), ())))))))
def g_leaplist_reader_read_io (d : (((Option Int) × ((Option Int) × ((Option (Int × (Int × (Int × (Int × Int))))) × Unit))) × ((List (Int × Int)) × Unit)) × (Unit × ((ByteArray × Unit) × Unit))) : Option ((((Option Int) × ((Option Int) × ((Option (Int × (Int × (Int × (Int × Int))))) × Unit))) × ((List (Int × Int)) × Unit)) × ((Int × Unit) × (((Option Int) × Unit) × (Unit × Unit)))) := lim fun k => f_leaplist_reader_read_io_m (f_leaplist_reader_read_io_t k) d
theorem ok_leaplist_reader_read_io : FnIo Tryz.prog ET0 29 pi_leaplist_reader_read_io po_leaplist_reader_read_io 2 [(0, 0, none)] g_leaplist_reader_read_io :=
 fnLio (E := ((((E0.add 59 s_strings_Split).add 60 s_strings_TrimSuffix).add 61 s_leaplist_reader_line_io).kp [0])) (pi := pi_leaplist_reader_read_io) (po := po_leaplist_reader_read_io) (envOk_kp (envOk_add (envOk_add (envOk_add e0_ok (typed_ok ok_strings_Split)) (typed_ok ok_strings_TrimSuffix)) (io_ok ok_leaplist_reader_line_io))) (fn := Tryz.f29) Tryz.func29 (by kernel_rfl) (by kernel_rfl) [.tmp 4, .tmp 5] [(0, none)] [(0, 0, none)] (by kernel_rfl) rfl rfl rfl rfl rfl [] (fun k => [(6, ⟨sh_leaplist_reader_read_io_6, (f_leaplist_reader_read_io_t k).1⟩)]) (fun _ => [])
 (.intro (fun _ => rfl) trivial) (fun k => (.intro (fun d => by kernel_rfl) trivial)) trivial (fun k => trivial) (fun k d => f_leaplist_reader_read_io_m (f_leaplist_reader_read_io_t k) d) (fun k d => by kernel_rfl)
def s_leaplist_reader_read_io := ioSem pi_leaplist_reader_read_io po_leaplist_reader_read_io 2 [(0, 0, none)] g_leaplist_reader_read_io

abbrev pi_leaplist_Parse : PSh := ⟨[], [.mk false [vS]]⟩
abbrev po_leaplist_Parse : PSh := ⟨[], [.mk false [.v (.nptr (.pair (.sl (.pair (.int .i64) (.int .i64))) (.pair (.int .i64) (.int .i64))))], .mk false [vE]]⟩
def f_leaplist_Parse_m (T : Unit) (d : Unit × ((ByteArray × Unit) × Unit)) : Option (Unit × (((Option ((List (Int × Int)) × (Int × Int))) × Unit) × (((Option Int) × Unit) × Unit))) :=
  (g_leaplist_reader_read_io ((((none : Option Int), ((none : Option Int), ((none : Option (Int × (Int × (Int × (Int × Int))))), ()))), (([] : List (Int × Int)), ())), ((), d.2))).bind fun x1 =>
  let x2 : Bool := (!x1.2.2.1.1.isNone)
  bif x2 then (
  some ((), (((none : Option ((List (Int × Int)) × (Int × Int))), ()), (x1.2.2.1, ()))))
  else (
  bif x1.1.1.1.isNone then (
  let x3 : (Option Int) := (some (2 : Int))
  some ((), (((none : Option ((List (Int × Int)) × (Int × Int))), ()), ((x3, ()), ()))))
  else (
  bif x1.1.1.2.1.isNone then (
  let x4 : (Option Int) := (some (2 : Int))
  some ((), (((none : Option ((List (Int × Int)) × (Int × Int))), ()), ((x4, ()), ()))))
  else (
  x1.1.1.1.bind fun x5 =>
  x1.1.1.2.1.bind fun x6 =>
  (g_leap_New ((), (x1.1.2, ((x5, ()), ((x6, ()), ()))))).bind fun x7 =>
  let x8 : Bool := (!x7.2.2.1.1.isNone)
  bif x8 then (
  some ((), (((none : Option ((List (Int × Int)) × (Int × Int))), ()), x7.2.2)))
  else (
  (g_leaplist_Digest ((), (x7.2.1, ()))).bind fun x9 =>
  let x10 : Bool := (!x9.2.2.1.1.isNone)
  bif x10 then (
  some ((), (((none : Option ((List (Int × Int)) × (Int × Int))), ()), x9.2.2)))
  else (
  let x11 : Bool := (!x1.1.1.2.2.1.isNone)
  bif x11 then (
  x1.1.1.2.2.1.bind fun x12 =>
  (g_sha1_From ((), ((x12.1, (x12.2.1, (x12.2.2.1, (x12.2.2.2.1, (x12.2.2.2.2, ()))))), ()))).bind fun x13 =>
  let x14 : Bool := (!((x13.2.1.1 == x9.2.1.1) && ((x13.2.1.2.1 == x9.2.1.2.1) && ((x13.2.1.2.2.1 == x9.2.1.2.2.1) && ((x13.2.1.2.2.2.1 == x9.2.1.2.2.2.1) && ((x13.2.1.2.2.2.2.1 == x9.2.1.2.2.2.2.1) && ((x13.2.1.2.2.2.2.2.1 == x9.2.1.2.2.2.2.2.1) && ((x13.2.1.2.2.2.2.2.2.1 == x9.2.1.2.2.2.2.2.2.1) && ((x13.2.1.2.2.2.2.2.2.2.1 == x9.2.1.2.2.2.2.2.2.2.1) && ((x13.2.1.2.2.2.2.2.2.2.2.1 == x9.2.1.2.2.2.2.2.2.2.2.1) && ((x13.2.1.2.2.2.2.2.2.2.2.2.1 == x9.2.1.2.2.2.2.2.2.2.2.2.1) && ((x13.2.1.2.2.2.2.2.2.2.2.2.2.1 == x9.2.1.2.2.2.2.2.2.2.2.2.2.1) && ((x13.2.1.2.2.2.2.2.2.2.2.2.2.2.1 == x9.2.1.2.2.2.2.2.2.2.2.2.2.2.1) && ((x13.2.1.2.2.2.2.2.2.2.2.2.2.2.2.1 == x9.2.1.2.2.2.2.2.2.2.2.2.2.2.2.1) && ((x13.2.1.2.2.2.2.2.2.2.2.2.2.2.2.2.1 == x9.2.1.2.2.2.2.2.2.2.2.2.2.2.2.2.1) && ((x13.2.1.2.2.2.2.2.2.2.2.2.2.2.2.2.2.1 == x9.2.1.2.2.2.2.2.2.2.2.2.2.2.2.2.2.1) && ((x13.2.1.2.2.2.2.2.2.2.2.2.2.2.2.2.2.2.1 == x9.2.1.2.2.2.2.2.2.2.2.2.2.2.2.2.2.2.1) && ((x13.2.1.2.2.2.2.2.2.2.2.2.2.2.2.2.2.2.2.1 == x9.2.1.2.2.2.2.2.2.2.2.2.2.2.2.2.2.2.2.1) && ((x13.2.1.2.2.2.2.2.2.2.2.2.2.2.2.2.2.2.2.2.1 == x9.2.1.2.2.2.2.2.2.2.2.2.2.2.2.2.2.2.2.2.1) && ((x13.2.1.2.2.2.2.2.2.2.2.2.2.2.2.2.2.2.2.2.2.1 == x9.2.1.2.2.2.2.2.2.2.2.2.2.2.2.2.2.2.2.2.2.1) && ((x13.2.1.2.2.2.2.2.2.2.2.2.2.2.2.2.2.2.2.2.2.2.1 == x9.2.1.2.2.2.2.2.2.2.2.2.2.2.2.2.2.2.2.2.2.2.1) && true)))))))))))))))))))))
  bif x14 then (
  let x15 : (Option Int) := (some (7 : Int))
  some ((), (((none : Option ((List (Int × Int)) × (Int × Int))), ()), ((x15, ()), ()))))
  else (
  some ((), (x7.2.1, (((none : Option Int), ()), ())))))
  else (
  some ((), (x7.2.1, (((none : Option Int), ()), ())))))))))
def g_leaplist_Parse (d : Unit × ((ByteArray × Unit) × Unit)) : Option (Unit × (((Option ((List (Int × Int)) × (Int × Int))) × Unit) × (((Option Int) × Unit) × Unit))) := f_leaplist_Parse_m () d
theorem ok_leaplist_Parse : FnOk Tryz.prog ET0 8 pi_leaplist_Parse po_leaplist_Parse g_leaplist_Parse :=
 fn0 (E := (((((E0.add 18 s_leaplist_Digest).add 26 s_leap_New).add 29 s_leaplist_reader_read_io).add 30 s_sha1_From).fr [(1000007, [1000004, 1000018, 1000022])])) (pi := pi_leaplist_Parse) (po := po_leaplist_Parse) (envOk_fr (envOk_add (envOk_add (envOk_add (envOk_add e0_ok (typed_ok ok_leaplist_Digest)) (typed_ok ok_leap_New)) (io_ok ok_leaplist_reader_read_io)) (typed_ok ok_sha1_From))) (fn := Tryz.f8) Tryz.func8 (by kernel_rfl) (by kernel_rfl) [.tmp 2, .tmp 3] (by kernel_rfl) rfl rfl rfl [] fun d => by kernel_rfl
def s_leaplist_Parse := typedSem pi_leaplist_Parse po_leaplist_Parse g_leaplist_Parse

abbrev pi_leap_Table_Len : PSh := ⟨[], [.mk false [.v (.nptr (.pair (.sl (.pair (.int .i64) (.int .i64))) (.pair (.int .i64) (.int .i64))))]]⟩
abbrev po_leap_Table_Len : PSh := ⟨[], [.mk false [vI]]⟩
def f_leap_Table_Len_m (T : Unit) (d : Unit × (((Option ((List (Int × Int)) × (Int × Int))) × Unit) × Unit)) : Option (Unit × ((Int × Unit) × Unit)) :=
  (g_leap_Table_list ((), d.2)).bind fun x1 =>
  let x2 : Int := (x1.2.1.1.length : Int)
  some ((), ((x2, ()), ()))
def g_leap_Table_Len (d : Unit × (((Option ((List (Int × Int)) × (Int × Int))) × Unit) × Unit)) : Option (Unit × ((Int × Unit) × Unit)) := f_leap_Table_Len_m () d
theorem ok_leap_Table_Len : FnOk Tryz.prog ET0 58 pi_leap_Table_Len po_leap_Table_Len g_leap_Table_Len :=
 fn0 (E := (E0.add 68 s_leap_Table_list)) (pi := pi_leap_Table_Len) (po := po_leap_Table_Len) (envOk_add e0_ok (typed_ok ok_leap_Table_list)) (fn := Tryz.f58) Tryz.func58 (by kernel_rfl) (by kernel_rfl) [.tmp 2] (by kernel_rfl) rfl rfl rfl [] fun d => by kernel_rfl
def s_leap_Table_Len := typedSem pi_leap_Table_Len po_leap_Table_Len g_leap_Table_Len

abbrev pi_leap_Table_Row : PSh := ⟨[], [.mk false [.v (.nptr (.pair (.sl (.pair (.int .i64) (.int .i64))) (.pair (.int .i64) (.int .i64))))], .mk false [vI]]⟩
abbrev po_leap_Table_Row : PSh := ⟨[], [.mk true [vI, vI], .mk false [vB]]⟩
def f_leap_Table_Row_m (T : Unit) (d : Unit × (((Option ((List (Int × Int)) × (Int × Int))) × Unit) × ((Int × Unit) × Unit))) : Option (Unit × ((Int × (Int × Unit)) × ((Bool × Unit) × Unit))) :=
  let x1 : Bool := (decide (d.2.2.1.1 < (0 : Int)))
  bif x1 then (
  some ((), (((0 : Int), ((0 : Int), ())), ((false, ()), ()))))
  else (
  (g_leap_Table_Len ((), (d.2.1, ()))).bind fun x2 =>
  let x3 : Bool := (decide (d.2.2.1.1 ≥ x2.2.1.1))
  bif x3 then (
  some ((), (((0 : Int), ((0 : Int), ())), ((false, ()), ()))))
  else (
  d.2.1.1.bind fun x4 =>
  bif decide ((0 : Int) ≤ d.2.2.1.1) && decide (d.2.2.1.1 < (x4.1.length : Int)) then (
  some ((), (((gd_i64_i64 x4.1 d.2.2.1.1).1, ((gd_i64_i64 x4.1 d.2.2.1.1).2, ())), ((true, ()), ()))))
  else none))
def g_leap_Table_Row (d : Unit × (((Option ((List (Int × Int)) × (Int × Int))) × Unit) × ((Int × Unit) × Unit))) : Option (Unit × ((Int × (Int × Unit)) × ((Bool × Unit) × Unit))) := f_leap_Table_Row_m () d
theorem ok_leap_Table_Row : FnOk Tryz.prog ET0 28 pi_leap_Table_Row po_leap_Table_Row g_leap_Table_Row :=
 fn0 (E := (E0.add 58 s_leap_Table_Len)) (pi := pi_leap_Table_Row) (po := po_leap_Table_Row) (envOk_add e0_ok (typed_ok ok_leap_Table_Len)) (fn := Tryz.f28) Tryz.func28 (by kernel_rfl) (by kernel_rfl) [.cell 4 70, .tmp 5] (by kernel_rfl) rfl rfl rfl [] fun d => by kernel_rfl
def s_leap_Table_Row := typedSem pi_leap_Table_Row po_leap_Table_Row g_leap_Table_Row

abbrev pi_law11_alive : PSh := ⟨[], []⟩
abbrev po_law11_alive : PSh := ⟨[], [.mk false [vB]]⟩
def f_law11_alive_m (T : Unit) (d : Unit × Unit) : Option (Unit × ((Bool × Unit) × Unit)) :=
  (g_leaplist_Parse ((), (((⟨#[35, 36, 32, 53, 10, 35, 64, 32, 57, 10, 50, 50, 55, 50, 48, 54, 48, 56, 48, 48, 9, 49, 48, 10]⟩ : ByteArray), ()), ()))).bind fun x1 =>
  let x2 : Bool := (!x1.2.2.1.1.isNone)
  bif x2 then (
  some ((), ((false, ()), ())))
  else (
  bif x1.2.1.1.isNone then (
  some ((), ((false, ()), ())))
  else (
  (g_leap_Table_Row ((), (x1.2.1, (((0 : Int), ()), ())))).bind fun x3 =>
  bif x3.2.2.1.1 then (
  let x4 : Bool := (x3.2.1.1 == (730 : Int))
  bif x4 then (
  let x5 : Bool := (x3.2.1.2.1 == (10 : Int))
  some ((), ((x5, ()), ())))
  else (
  some ((), ((false, ()), ()))))
  else (
  some ((), ((false, ()), ())))))
def g_law11_alive (d : Unit × Unit) : Option (Unit × ((Bool × Unit) × Unit)) := f_law11_alive_m () d
theorem ok_law11_alive : FnOk Tryz.prog ET0 7 pi_law11_alive po_law11_alive g_law11_alive :=
 fn0 (E := ((E0.add 8 s_leaplist_Parse).add 28 s_leap_Table_Row)) (pi := pi_law11_alive) (po := po_law11_alive) (envOk_add (envOk_add e0_ok (typed_ok ok_leaplist_Parse)) (typed_ok ok_leap_Table_Row)) (fn := Tryz.f7) Tryz.func7 (by kernel_rfl) (by kernel_rfl) [.tmp 0] (by kernel_rfl) rfl rfl rfl [] fun d => by kernel_rfl
def s_law11_alive := typedSem pi_law11_alive po_law11_alive g_law11_alive

abbrev pi_hnum_Num : PSh := ⟨[], [.mk false [vE]]⟩
abbrev po_hnum_Num : PSh := ⟨[], [.mk false [vI]]⟩
def f_hnum_Num_m (T : Unit) (d : Unit × (((Option Int) × Unit) × Unit)) : Option (Unit × ((Int × Unit) × Unit)) :=
  bif d.2.1.1.isNone then (
  some ((), (((0 : Int), ()), ())))
  else (
  bif d.2.1.1.isSome then (
  let x1 : Bool := ((d.2.1.1.getD 0) != (0 : Int))
  bif x1 then (
  some ((), (((d.2.1.1.getD 0), ()), ())))
  else (
  some ((), (((-1 : Int), ()), ()))))
  else (
  some ((), (((-1 : Int), ()), ()))))
def g_hnum_Num (d : Unit × (((Option Int) × Unit) × Unit)) : Option (Unit × ((Int × Unit) × Unit)) := f_hnum_Num_m () d
theorem ok_hnum_Num : FnOk Tryz.prog ET0 10 pi_hnum_Num po_hnum_Num g_hnum_Num :=
 fn0 (E := E0) (pi := pi_hnum_Num) (po := po_hnum_Num) e0_ok (fn := Tryz.f10) Tryz.func10 (by kernel_rfl) (by kernel_rfl) [.tmp 2] (by kernel_rfl) rfl rfl rfl [] fun d => by kernel_rfl
def s_hnum_Num := typedSem pi_hnum_Num po_hnum_Num g_hnum_Num

abbrev pi_ref11_Lines : PSh := ⟨[], [.mk false [vS]]⟩
abbrev po_ref11_Lines : PSh := ⟨[.row 9 .str], [.mk false [.osl 0]]⟩
abbrev TT_ref11_Lines : Type := (((((List ByteArray) × Unit) × ((ByteArray × Unit) × (Unit × ((Int × Unit) × ((Int × Unit) × Unit))))) → Option (((List ByteArray) × Unit) × (Unit × Unit))) × Unit)
abbrev sh_ref11_Lines_5 : PSh := ⟨[.row 9 .str], [.mk false [vS], .any, .any, .mk false [.osl 0], .mk false [vI], .mk false [vI]] ++ anyN 31⟩
def f_ref11_Lines_p5 (T : TT_ref11_Lines) (d : ((List ByteArray) × Unit) × ((ByteArray × Unit) × (Unit × ((Int × Unit) × ((Int × Unit) × Unit))))) : Option (((List ByteArray) × Unit) × (Unit × Unit)) :=
  let x2 : Int := (d.2.1.1.size : Int)
  let x3 : Bool := (decide (d.2.2.2.2.1.1 < x2))
  bif x3 then (
  bif decide ((0 : Int) ≤ d.2.2.2.2.1.1) && decide (d.2.2.2.2.1.1 < ((d.2.1.1.size : Int) : Int)) then (
  let x4 : Int := (bt d.2.1.1 d.2.2.2.2.1.1)
  let x5 : Bool := (x4 == (10 : Int))
  bif x5 then (
  bif decide ((0 : Int) ≤ d.2.2.2.1.1) && decide (d.2.2.2.1.1 ≤ d.2.2.2.2.1.1) && decide (d.2.2.2.2.1.1 ≤ (d.2.1.1.size : Int)) then (
  let x6 : ByteArray := (d.2.1.1.extract (Int.toNat d.2.2.2.1.1) (Int.toNat d.2.2.2.2.1.1))
  let x7 : (List ByteArray) := ([x6] : List ByteArray)
  bif decide (((d.1.1.length + x7.length) * 16 : Nat) ≤ 140737488355328) && decide (d.1.1.length + x7.length ≤ 9223372036854775807) then (
  let x8 : (List ByteArray) := (d.1.1 ++ x7)
  let x9 : Int := (iadd .i64 d.2.2.2.2.1.1 (1 : Int))
  let x10 : Int := (iadd .i64 d.2.2.2.2.1.1 (1 : Int))
  (T.1 ((x8, ()), (d.2.1, ((), ((x9, ()), ((x10, ()), ())))))))
  else none)
  else none)
  else (
  let x11 : Int := (iadd .i64 d.2.2.2.2.1.1 (1 : Int))
  (T.1 (d.1, (d.2.1, ((), (d.2.2.2.1, ((x11, ()), ()))))))))
  else none)
  else (
  let x12 : Int := (d.2.1.1.size : Int)
  let x13 : Bool := (decide (d.2.2.2.1.1 < x12))
  bif x13 then (
  bif decide ((0 : Int) ≤ d.2.2.2.1.1) && decide (d.2.2.2.1.1 ≤ (d.2.1.1.size : Int)) && decide ((d.2.1.1.size : Int) ≤ (d.2.1.1.size : Int)) then (
  let x14 : ByteArray := (d.2.1.1.extract (Int.toNat d.2.2.2.1.1) (Int.toNat (d.2.1.1.size : Int)))
  let x15 : (List ByteArray) := ([x14] : List ByteArray)
  bif decide (((d.1.1.length + x15.length) * 16 : Nat) ≤ 140737488355328) && decide (d.1.1.length + x15.length ≤ 9223372036854775807) then (
  let x16 : (List ByteArray) := (d.1.1 ++ x15)
  some ((x16, ()), ((), ())))
  else none)
  else none)
  else (
  some (d.1, ((), ()))))
def f_ref11_Lines_t : Nat → TT_ref11_Lines
  | 0 => (fun _ => none, ())
  | k + 1 => (f_ref11_Lines_p5 (f_ref11_Lines_t k), ())
theorem t_ref11_Lines (k : Nat) : f_ref11_Lines_t (k + 1) = (f_ref11_Lines_p5 (f_ref11_Lines_t k), ()) := rfl
def f_ref11_Lines_m (T : TT_ref11_Lines) (d : Unit × ((ByteArray × Unit) × Unit)) : Option (((List ByteArray) × Unit) × (Unit × Unit)) :=
  let x1 : (List ByteArray) := ([] : List ByteArray)
  (T.1 ((x1, ()), (d.2.1, ((), (((0 : Int), ()), (((0 : Int), ()), ()))))))
def g_ref11_Lines (d : Unit × ((ByteArray × Unit) × Unit)) : Option (((List ByteArray) × Unit) × (Unit × Unit)) := lim fun k => f_ref11_Lines_m (f_ref11_Lines_t k) d
theorem ok_ref11_Lines : FnOk Tryz.prog ET0 14 pi_ref11_Lines po_ref11_Lines g_ref11_Lines :=
 fnL (E := E0) (pi := pi_ref11_Lines) (po := po_ref11_Lines) e0_ok (fn := Tryz.f14) Tryz.func14 (by kernel_rfl) (by kernel_rfl) [.tmp 2] (by kernel_rfl) rfl rfl rfl [] (fun k => [(5, ⟨sh_ref11_Lines_5, (f_ref11_Lines_t k).1⟩)]) (fun _ => [])
 (.intro (fun _ => rfl) trivial) (fun k => (.intro (fun d => by kernel_rfl) trivial)) trivial (fun k => trivial) (fun k d => f_ref11_Lines_m (f_ref11_Lines_t k) d) (fun k d => by kernel_rfl)
def s_ref11_Lines := typedSem pi_ref11_Lines po_ref11_Lines g_ref11_Lines

abbrev pi_slices_Equal_leap_Row_leap_Row : PSh := ⟨[], [.mk false [.v (.sl (.pair (.int .i64) (.int .i64)))], .mk false [.v (.sl (.pair (.int .i64) (.int .i64)))]]⟩
abbrev po_slices_Equal_leap_Row_leap_Row : PSh := ⟨[], [.mk false [vB]]⟩
abbrev TT_slices_Equal_leap_Row_leap_Row : Type := (((Unit × (((List (Int × Int)) × Unit) × (((List (Int × Int)) × Unit) × ((Int × Unit) × ((Int × Unit) × Unit))))) → Option (Unit × ((Bool × Unit) × Unit))) × Unit)
abbrev sh_slices_Equal_leap_Row_leap_Row_6 : PSh := ⟨[], [.mk false [.v (.sl (.pair (.int .i64) (.int .i64)))], .mk false [.v (.sl (.pair (.int .i64) (.int .i64)))], .any, .any, .any, .any, .any, .any, .any, .any, .any, .any, .mk false [vI], .mk false [vI]] ++ anyN 12⟩
def f_slices_Equal_leap_Row_leap_Row_p6 (T : TT_slices_Equal_leap_Row_leap_Row) (d : Unit × (((List (Int × Int)) × Unit) × (((List (Int × Int)) × Unit) × ((Int × Unit) × ((Int × Unit) × Unit))))) : Option (Unit × ((Bool × Unit) × Unit)) :=
  let x5 : Bool := (decide (d.2.2.2.2.1.1 < d.2.2.2.1.1))
  bif x5 then (
  bif decide ((0 : Int) ≤ d.2.2.2.2.1.1) && decide (d.2.2.2.2.1.1 < (d.2.1.1.length : Int)) then (
  bif decide ((0 : Int) ≤ d.2.2.2.2.1.1) && decide (d.2.2.2.2.1.1 < (d.2.2.1.1.length : Int)) then (
  let x6 : Bool := (!(((gd_i64_i64 d.2.1.1 d.2.2.2.2.1.1).1 == (gd_i64_i64 d.2.2.1.1 d.2.2.2.2.1.1).1) && (((gd_i64_i64 d.2.1.1 d.2.2.2.2.1.1).2 == (gd_i64_i64 d.2.2.1.1 d.2.2.2.2.1.1).2) && true)))
  bif x6 then (
  some ((), ((false, ()), ())))
  else (
  let x7 : Int := (iadd .i64 d.2.2.2.2.1.1 (1 : Int))
  (T.1 ((), (d.2.1, (d.2.2.1, (d.2.2.2.1, ((x7, ()), ()))))))))
  else none)
  else none)
  else (
  some ((), ((true, ()), ())))
def f_slices_Equal_leap_Row_leap_Row_t : Nat → TT_slices_Equal_leap_Row_leap_Row
  | 0 => (fun _ => none, ())
  | k + 1 => (f_slices_Equal_leap_Row_leap_Row_p6 (f_slices_Equal_leap_Row_leap_Row_t k), ())
theorem t_slices_Equal_leap_Row_leap_Row (k : Nat) : f_slices_Equal_leap_Row_leap_Row_t (k + 1) = (f_slices_Equal_leap_Row_leap_Row_p6 (f_slices_Equal_leap_Row_leap_Row_t k), ()) := rfl
def f_slices_Equal_leap_Row_leap_Row_m (T : TT_slices_Equal_leap_Row_leap_Row) (d : Unit × (((List (Int × Int)) × Unit) × (((List (Int × Int)) × Unit) × Unit))) : Option (Unit × ((Bool × Unit) × Unit)) :=
  let x1 : Int := (d.2.1.1.length : Int)
  let x2 : Int := (d.2.2.1.1.length : Int)
  let x3 : Bool := (x1 != x2)
  bif x3 then (
  some ((), ((false, ()), ())))
  else (
  let x4 : Int := (d.2.1.1.length : Int)
  (T.1 ((), (d.2.1, (d.2.2.1, ((x4, ()), (((0 : Int), ()), ())))))))
def g_slices_Equal_leap_Row_leap_Row (d : Unit × (((List (Int × Int)) × Unit) × (((List (Int × Int)) × Unit) × Unit))) : Option (Unit × ((Bool × Unit) × Unit)) := lim fun k => f_slices_Equal_leap_Row_leap_Row_m (f_slices_Equal_leap_Row_leap_Row_t k) d
theorem ok_slices_Equal_leap_Row_leap_Row : FnOk Tryz.prog ET0 37 pi_slices_Equal_leap_Row_leap_Row po_slices_Equal_leap_Row_leap_Row g_slices_Equal_leap_Row_leap_Row :=
 fnL (E := E0) (pi := pi_slices_Equal_leap_Row_leap_Row) (po := po_slices_Equal_leap_Row_leap_Row) e0_ok (fn := Tryz.f37) Tryz.func37 (by kernel_rfl) (by kernel_rfl) [.tmp 4] (by kernel_rfl) rfl rfl rfl [] (fun k => [(6, ⟨sh_slices_Equal_leap_Row_leap_Row_6, (f_slices_Equal_leap_Row_leap_Row_t k).1⟩)]) (fun _ => [])
 (.intro (fun _ => rfl) trivial) (fun k => (.intro (fun d => by kernel_rfl) trivial)) trivial (fun k => trivial) (fun k d => f_slices_Equal_leap_Row_leap_Row_m (f_slices_Equal_leap_Row_leap_Row_t k) d) (fun k d => by kernel_rfl)
def s_slices_Equal_leap_Row_leap_Row := typedSem pi_slices_Equal_leap_Row_leap_Row po_slices_Equal_leap_Row_leap_Row g_slices_Equal_leap_Row_leap_Row

abbrev pi_leap_Same : PSh := ⟨[], [.mk false [.v (.nptr (.pair (.sl (.pair (.int .i64) (.int .i64))) (.pair (.int .i64) (.int .i64))))], .mk false [.v (.nptr (.pair (.sl (.pair (.int .i64) (.int .i64))) (.pair (.int .i64) (.int .i64))))]]⟩
abbrev po_leap_Same : PSh := ⟨[], [.mk false [vB]]⟩
def f_leap_Same_m (T : Unit) (d : Unit × (((Option ((List (Int × Int)) × (Int × Int))) × Unit) × (((Option ((List (Int × Int)) × (Int × Int))) × Unit) × Unit))) : Option (Unit × ((Bool × Unit) × Unit)) :=
  bif d.2.1.1.isNone then (
  bif d.2.1.1.isNone then (
  some ((), ((d.2.2.1.1.isNone, ()), ())))
  else (
  some ((), ((false, ()), ()))))
  else (
  bif d.2.2.1.1.isNone then (
  bif d.2.1.1.isNone then (
  some ((), ((d.2.2.1.1.isNone, ()), ())))
  else (
  some ((), ((false, ()), ()))))
  else (
  d.2.1.1.bind fun x1 =>
  d.2.2.1.1.bind fun x2 =>
  let x3 : Bool := (x1.2.1 == x2.2.1)
  bif x3 then (
  d.2.1.1.bind fun x4 =>
  d.2.2.1.1.bind fun x5 =>
  let x6 : Bool := (x4.2.2 == x5.2.2)
  bif x6 then (
  d.2.1.1.bind fun x7 =>
  d.2.2.1.1.bind fun x8 =>
  (g_slices_Equal_leap_Row_leap_Row ((), ((x7.1, ()), ((x8.1, ()), ())))).bind fun x9 =>
  some ((), x9.2))
  else (
  some ((), ((false, ()), ()))))
  else (
  some ((), ((false, ()), ())))))
def g_leap_Same (d : Unit × (((Option ((List (Int × Int)) × (Int × Int))) × Unit) × (((Option ((List (Int × Int)) × (Int × Int))) × Unit) × Unit))) : Option (Unit × ((Bool × Unit) × Unit)) := f_leap_Same_m () d
theorem ok_leap_Same : FnOk Tryz.prog ET0 15 pi_leap_Same po_leap_Same g_leap_Same :=
 fn0 (E := (E0.add 37 s_slices_Equal_leap_Row_leap_Row)) (pi := pi_leap_Same) (po := po_leap_Same) (envOk_add e0_ok (typed_ok ok_slices_Equal_leap_Row_leap_Row)) (fn := Tryz.f15) Tryz.func15 (by kernel_rfl) (by kernel_rfl) [.tmp 4] (by kernel_rfl) rfl rfl rfl [] fun d => by kernel_rfl
def s_leap_Same := typedSem pi_leap_Same po_leap_Same g_leap_Same

abbrev pi_law11_ListRemarks : PSh := ⟨[], [.mk false [vS], .mk false [vS], .mk false [vI]]⟩
abbrev po_law11_ListRemarks : PSh := ⟨[], [.mk false [vB]]⟩
abbrev TT_law11_ListRemarks : Type := (((Unit × ((ByteArray × Unit) × ((ByteArray × Unit) × ((Int × Unit) × ((Int × Unit) × Unit))))) → Option (Unit × ((Bool × Unit) × Unit))) × (((((List ByteArray) × Unit) × ((ByteArray × Unit) × ((ByteArray × Unit) × ((Int × Unit) × ((ByteArray × Unit) × (Unit × ((Int × Unit) × ((Int × Unit) × Unit)))))))) → Option (Unit × ((Bool × Unit) × Unit))) × Unit))
abbrev sh_law11_ListRemarks_9 : PSh := ⟨[], [.mk false [vS], .mk false [vS], .mk false [vI], .any, .any, .any, .any, .mk false [vI]] ++ anyN 70⟩
abbrev sh_law11_ListRemarks_19 : PSh := ⟨[.row 9 .str], [.mk false [vS], .mk false [vS], .mk false [vI], .any, .any, .any, .any, .any, .any, .mk false [vS], .any, .any, .any, .any, .any, .any, .any, .any, .any, .any, .any, .any, .any, .any, .any, .any, .any, .any, .any, .any, .any, .any, .any, .any, .any, .any, .any, .any, .mk false [.osl 0], .mk false [vI], .mk false [vI]] ++ anyN 37⟩
def f_law11_ListRemarks_p9 (T : TT_law11_ListRemarks) (d : Unit × ((ByteArray × Unit) × ((ByteArray × Unit) × ((Int × Unit) × ((Int × Unit) × Unit))))) : Option (Unit × ((Bool × Unit) × Unit)) :=
  let x7 : Int := (d.2.2.1.1.size : Int)
  let x8 : Bool := (decide (d.2.2.2.2.1.1 < x7))
  bif x8 then (
  bif decide ((0 : Int) ≤ d.2.2.2.2.1.1) && decide (d.2.2.2.2.1.1 < ((d.2.2.1.1.size : Int) : Int)) then (
  let x9 : Int := (bt d.2.2.1.1 d.2.2.2.2.1.1)
  let x10 : Bool := (x9 == (10 : Int))
  bif x10 then (
  some ((), ((true, ()), ())))
  else (
  let x11 : Int := (iadd .i64 d.2.2.2.2.1.1 (1 : Int))
  (T.1 ((), (d.2.1, (d.2.2.1, (d.2.2.2.1, ((x11, ()), ()))))))))
  else none)
  else (
  (g_ref11_Lines ((), (d.2.1, ()))).bind fun x12 =>
  let x13 : Int := (x12.1.1.length : Int)
  (T.2.1 (x12.1, (d.2.1, (d.2.2.1, (d.2.2.2.1, (((⟨#[]⟩ : ByteArray), ()), ((), ((x13, ()), (((0 : Int), ()), ()))))))))))
def f_law11_ListRemarks_p19 (T : TT_law11_ListRemarks) (d : ((List ByteArray) × Unit) × ((ByteArray × Unit) × ((ByteArray × Unit) × ((Int × Unit) × ((ByteArray × Unit) × (Unit × ((Int × Unit) × ((Int × Unit) × Unit)))))))) : Option (Unit × ((Bool × Unit) × Unit)) :=
  let x14 : Bool := (decide (d.2.2.2.2.2.2.2.1.1 < d.2.2.2.2.2.2.1.1))
  bif x14 then (
  bif decide ((0 : Int) ≤ d.2.2.2.2.2.2.2.1.1) && decide (d.2.2.2.2.2.2.2.1.1 < (d.1.1.length : Int)) then (
  let x15 : Bool := (d.2.2.2.2.2.2.2.1.1 == d.2.2.2.1.1)
  bif x15 then (
  bif fitsS (⟨#[35, 32]⟩ : ByteArray) d.2.2.1.1 then (
  let x16 : ByteArray := ((⟨#[35, 32]⟩ : ByteArray) ++ d.2.2.1.1)
  bif fitsS x16 (⟨#[10, 32, 9, 10]⟩ : ByteArray) then (
  let x17 : ByteArray := (x16 ++ (⟨#[10, 32, 9, 10]⟩ : ByteArray))
  bif fitsS d.2.2.2.2.1.1 x17 then (
  let x18 : ByteArray := (d.2.2.2.2.1.1 ++ x17)
  bif fitsS (gd .str d.1.1 d.2.2.2.2.2.2.2.1.1) (⟨#[10]⟩ : ByteArray) then (
  let x19 : ByteArray := ((gd .str d.1.1 d.2.2.2.2.2.2.2.1.1) ++ (⟨#[10]⟩ : ByteArray))
  bif fitsS x18 x19 then (
  let x20 : ByteArray := (x18 ++ x19)
  let x21 : Int := (iadd .i64 d.2.2.2.2.2.2.2.1.1 (1 : Int))
  (T.2.1 (d.1, (d.2.1, (d.2.2.1, (d.2.2.2.1, ((x20, ()), ((), (d.2.2.2.2.2.2.1, ((x21, ()), ()))))))))))
  else none)
  else none)
  else none)
  else none)
  else none)
  else (
  bif fitsS (gd .str d.1.1 d.2.2.2.2.2.2.2.1.1) (⟨#[10]⟩ : ByteArray) then (
  let x22 : ByteArray := ((gd .str d.1.1 d.2.2.2.2.2.2.2.1.1) ++ (⟨#[10]⟩ : ByteArray))
  bif fitsS d.2.2.2.2.1.1 x22 then (
  let x23 : ByteArray := (d.2.2.2.2.1.1 ++ x22)
  let x24 : Int := (iadd .i64 d.2.2.2.2.2.2.2.1.1 (1 : Int))
  (T.2.1 (d.1, (d.2.1, (d.2.2.1, (d.2.2.2.1, ((x23, ()), ((), (d.2.2.2.2.2.2.1, ((x24, ()), ()))))))))))
  else none)
  else none))
  else none)
  else (
  (g_leaplist_Parse ((), (d.2.1, ()))).bind fun x25 =>
  (g_leaplist_Parse ((), (d.2.2.2.2.1, ()))).bind fun x26 =>
  (g_hnum_Num ((), x25.2.2)).bind fun x27 =>
  (g_hnum_Num ((), x26.2.2)).bind fun x28 =>
  let x29 : Bool := (x27.2.1.1 == x28.2.1.1)
  bif x29 then (
  (g_leap_Same ((), (x25.2.1, (x26.2.1, ())))).bind fun x30 =>
  some ((), x30.2))
  else (
  some ((), ((false, ()), ()))))
def f_law11_ListRemarks_t : Nat → TT_law11_ListRemarks
  | 0 => (fun _ => none, (fun _ => none, ()))
  | k + 1 => (f_law11_ListRemarks_p9 (f_law11_ListRemarks_t k), (f_law11_ListRemarks_p19 (f_law11_ListRemarks_t k), ()))
theorem t_law11_ListRemarks (k : Nat) : f_law11_ListRemarks_t (k + 1) = (f_law11_ListRemarks_p9 (f_law11_ListRemarks_t k), (f_law11_ListRemarks_p19 (f_law11_ListRemarks_t k), ())) := rfl
def f_law11_ListRemarks_m (T : TT_law11_ListRemarks) (d : Unit × ((ByteArray × Unit) × ((ByteArray × Unit) × ((Int × Unit) × Unit)))) : Option (Unit × ((Bool × Unit) × Unit)) :=
  (g_law11_alive ((), ())).bind fun x1 =>
  let x2 : Bool := (!x1.2.1.1)
  bif x2 then (
  some ((), ((false, ()), ())))
  else (
  let x3 : Int := (d.2.1.1.size : Int)
  let x4 : Bool := (decide (x3 > (3000 : Int)))
  bif x4 then (
  some ((), ((true, ()), ())))
  else (
  let x5 : Int := (d.2.2.1.1.size : Int)
  let x6 : Bool := (decide (x5 > (100 : Int)))
  bif x6 then (
  some ((), ((true, ()), ())))
  else (
  (T.1 ((), (d.2.1, (d.2.2.1, (d.2.2.2.1, (((0 : Int), ()), ())))))))))
def g_law11_ListRemarks (d : Unit × ((ByteArray × Unit) × ((ByteArray × Unit) × ((Int × Unit) × Unit)))) : Option (Unit × ((Bool × Unit) × Unit)) := lim fun k => f_law11_ListRemarks_m (f_law11_ListRemarks_t k) d
theorem ok_law11_ListRemarks : FnOk Tryz.prog ET0 4 pi_law11_ListRemarks po_law11_ListRemarks g_law11_ListRemarks :=
 fnL (E := (((((E0.add 7 s_law11_alive).add 8 s_leaplist_Parse).add 10 s_hnum_Num).add 14 s_ref11_Lines).add 15 s_leap_Same)) (pi := pi_law11_ListRemarks) (po := po_law11_ListRemarks) (envOk_add (envOk_add (envOk_add (envOk_add (envOk_add e0_ok (typed_ok ok_law11_alive)) (typed_ok ok_leaplist_Parse)) (typed_ok ok_hnum_Num)) (typed_ok ok_ref11_Lines)) (typed_ok ok_leap_Same)) (fn := Tryz.f4) Tryz.func4 (by kernel_rfl) (by kernel_rfl) [.tmp 6] (by kernel_rfl) rfl rfl rfl [] (fun k => [(9, ⟨sh_law11_ListRemarks_9, (f_law11_ListRemarks_t k).1⟩), (19, ⟨sh_law11_ListRemarks_19, (f_law11_ListRemarks_t k).2.1⟩)]) (fun _ => [])
 (.intro (fun _ => rfl) (.intro (fun _ => rfl) trivial)) (fun k => (.intro (fun d => by kernel_rfl) (.intro (fun d => by kernel_rfl) trivial))) trivial (fun k => trivial) (fun k d => f_law11_ListRemarks_m (f_law11_ListRemarks_t k) d) (fun k d => by kernel_rfl)
def s_law11_ListRemarks := typedSem pi_law11_ListRemarks po_law11_ListRemarks g_law11_ListRemarks
end
end Go.Proofs.YtcnngodgngmghaaGreatDoor.Ev
