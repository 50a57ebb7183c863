/- Printed by wip/tools/evgen.py. -/
import Derived.Test.YticfncahnhbhbaaGreatEv32
import Derived.Test.YticfncahnhbhbaaGreatShelf
import Derived.Test.YticfncahnhbhbaaGreatEvE
import Derived.Test.YticfncahnhbhbaaGreatProg
import Derived.KernelRfl
set_option maxRecDepth 100000
set_option maxHeartbeats 2000000
set_option linter.unusedVariables false
namespace Go.Proofs.YticfncahnhbhbaaGreat.Ev
open Go
noncomputable section
def rows0 : List (TypeId × Row) := [
  (2, ⟨.int .i64, 1, 8, (.int .i64), [AV.val (.int .i64) (0 : Int)], none⟩),
  (3, ⟨.int .i64, 1, 8, (.int .i64), [AV.val (.int .i64) (0 : Int)], none⟩),
  (4, ⟨.bool, 1, 1, .bool, [AV.val .bool false], none⟩),
  (5, ⟨.int .u8, 1, 1, (.int .u8), [AV.val (.int .u8) (0 : Int)], none⟩),
  (9, ⟨.str, 1, 16, .str, [AV.val .str ByteArray.empty], none⟩),
  (22, ⟨.slice 138, 1, 24, (.sl (.pair (.int .i64) (.int .i64))), [AV.nilS], none⟩),
  (24, ⟨.struct [(0, 1, false), (1, 1, false), (2, 1, false)], 3, 40, (.pair (.sl (.pair (.int .i64) (.int .i64))) (.pair (.int .i64) (.int .i64))), [AV.nilS, AV.val (.int .i64) (0 : Int), AV.val (.int .i64) (0 : Int)], none⟩),
  (28, ⟨.struct [(0, 1, false), (1, 1, false), (2, 1, false), (3, 1, false), (4, 1, false), (5, 1, false), (6, 1, false)], 7, 56, (.pair (.int .i64) (.pair (.int .i64) (.pair (.int .i64) (.pair (.int .i64) (.pair (.int .i64) (.pair (.int .i64) .bool)))))), [AV.val (.int .i64) (0 : Int), AV.val (.int .i64) (0 : Int), AV.val (.int .i64) (0 : Int), AV.val (.int .i64) (0 : Int), AV.val (.int .i64) (0 : Int), AV.val (.int .i64) (0 : Int), AV.val .bool false], some [.int .i64, .int .i64, .int .i64, .int .i64, .int .i64, .int .i64, .bool]⟩),
  (30, ⟨.iface, 1, 16, .err, [AV.val .err (none : Option Int)], none⟩),
  (33, ⟨.struct [(0, 1, false), (1, 1, false), (2, 1, false), (3, 1, false), (4, 1, false), (5, 1, false), (6, 1, false)], 7, 56, (.pair (.int .i64) (.pair (.int .i64) (.pair (.int .i64) (.pair (.int .i64) (.pair (.int .i64) (.pair (.int .i64) .bool)))))), [AV.val (.int .i64) (0 : Int), AV.val (.int .i64) (0 : Int), AV.val (.int .i64) (0 : Int), AV.val (.int .i64) (0 : Int), AV.val (.int .i64) (0 : Int), AV.val (.int .i64) (0 : Int), AV.val .bool false], some [.int .i64, .int .i64, .int .i64, .int .i64, .int .i64, .int .i64, .bool]⟩),
  (38, ⟨.ptr, 1, 8, (.nptr (.pair (.sl (.pair (.int .i64) (.int .i64))) (.pair (.int .i64) (.int .i64)))), [AV.nilP], none⟩),
  (39, ⟨.slice 83, 1, 24, (.sl (.pair (.int .i64) (.int .i64))), [AV.nilS], none⟩),
  (41, ⟨.struct [(0, 1, false), (1, 1, false), (2, 1, false)], 3, 40, (.pair (.sl (.pair (.int .i64) (.int .i64))) (.pair (.int .i64) (.int .i64))), [AV.nilS, AV.val (.int .i64) (0 : Int), AV.val (.int .i64) (0 : Int)], none⟩),
  (61, ⟨.ptr, 1, 8, (.nptr (.pair .str (.pair (.int .i64) .err))), [AV.nilP], none⟩),
  (64, ⟨.struct [(0, 1, false)], 1, 8, (.nptr (.pair .str (.pair (.int .i64) .err))), [AV.nilP], none⟩),
  (67, ⟨.arr 3 3, 3, 24, (.pair (.int .i64) (.pair (.int .i64) (.int .i64))), [AV.val (.int .i64) (0 : Int), AV.val (.int .i64) (0 : Int), AV.val (.int .i64) (0 : Int)], some [.int .i64, .int .i64, .int .i64]⟩),
  (71, ⟨.int .i64, 1, 8, (.int .i64), [AV.val (.int .i64) (0 : Int)], none⟩),
  (83, ⟨.struct [(0, 1, false), (1, 1, false)], 2, 16, (.pair (.int .i64) (.int .i64)), [AV.val (.int .i64) (0 : Int), AV.val (.int .i64) (0 : Int)], some [.int .i64, .int .i64]⟩),
  (118, ⟨.slice 5, 1, 24, (.sl (.int .u8)), [AV.nilS], none⟩),
  (120, ⟨.struct [(0, 1, false), (1, 1, false)], 2, 40, (.pair (.sl (.int .u8)) .err), [AV.nilS, AV.val .err (none : Option Int)], none⟩),
  (128, ⟨.struct [(0, 1, false), (1, 1, false), (2, 1, false)], 3, 40, (.pair .str (.pair (.int .i64) .err)), [AV.val .str ByteArray.empty, AV.val (.int .i64) (0 : Int), AV.val .err (none : Option Int)], none⟩),
  (138, ⟨.struct [(0, 1, false), (1, 1, false)], 2, 16, (.pair (.int .i64) (.int .i64)), [AV.val (.int .i64) (0 : Int), AV.val (.int .i64) (0 : Int)], some [.int .i64, .int .i64]⟩),
  (145, ⟨.struct [(0, 1, false), (1, 1, false), (2, 1, false)], 3, 40, (.pair (.sl (.pair (.int .i64) (.int .i64))) (.pair (.int .i64) (.int .i64))), [AV.nilS, AV.val (.int .i64) (0 : Int), AV.val (.int .i64) (0 : Int)], none⟩),
  (153, ⟨.slice 3, 1, 24, (.sl (.int .i64)), [AV.nilS], none⟩),
  (165, ⟨.int .u64, 1, 8, (.int .u64), [AV.val (.int .u64) (0 : Int)], none⟩),
  (176, ⟨.int .u64, 1, 8, (.int .u64), [AV.val (.int .u64) (0 : Int)], none⟩)]
def ET0 : TypeId := 71
def E0 : Env := ⟨rows0, [], ET0, 0, [], []⟩
theorem e0_ok : EnvOk Tryz.prog E0 := envOk_rows (by kernel_rfl) (by kernel_rfl) 0
def gd_i64_i64 (l : List (Int × Int)) (i : Int) : (Int × Int) := gd (.pair (.int .i64) (.int .i64)) l i
/- strings.Repeat -/
@[reducible] def pi_strings_Repeat : PSh := pi_lib_repeat
@[reducible] def po_strings_Repeat : PSh := po_lib_repeat
def g_strings_Repeat := lib_repeat
theorem ok_strings_Repeat : FnOk Tryz.prog ET0 121 pi_strings_Repeat po_strings_Repeat g_strings_Repeat := lib_repeat_ok ⟨Tryz.f121, Tryz.func121, by kernel_rfl, by kernel_rfl⟩ Tryz.strings_Repeat
/- internal/stringslite.Clone -/
@[reducible] def pi_internal_stringslite_Clone : PSh := pi_lib_clone
@[reducible] def po_internal_stringslite_Clone : PSh := po_lib_clone
def g_internal_stringslite_Clone := lib_clone
theorem ok_internal_stringslite_Clone : FnOk Tryz.prog ET0 154 pi_internal_stringslite_Clone po_internal_stringslite_Clone g_internal_stringslite_Clone := lib_clone_ok ⟨Tryz.f154, Tryz.func154, by kernel_rfl, by kernel_rfl⟩ Tryz.stringslite_Clone
/- strings.IndexByte -/
@[reducible] def pi_strings_IndexByte : PSh := pi_lib_indexByte
@[reducible] def po_strings_IndexByte : PSh := po_lib_indexByte
def g_strings_IndexByte := lib_indexByte
theorem ok_strings_IndexByte : FnOk Tryz.prog ET0 124 pi_strings_IndexByte po_strings_IndexByte g_strings_IndexByte := lib_indexByte_ok ⟨Tryz.f124, Tryz.func124, by kernel_rfl, by kernel_rfl⟩ Tryz.strings_IndexByte

/- slices.Reverse[[]byte,byte] -/
@[reducible] def pi_slices_Reverse_byte_byte_io : PSh := ⟨[.row 5 (.int .u8)], [.mk false [.osl 0]]⟩
@[reducible] def po_slices_Reverse_byte_byte_io : PSh := ⟨[.row 5 (.int .u8)], [.mk false [.osl 0]]⟩
@[reducible] def TT_slices_Reverse_byte_byte_io : Type := (((((List Int) × Unit) × (Unit × ((Int × Unit) × ((Int × Unit) × Unit)))) → Option (((List Int) × Unit) × (Unit × Unit))) × Unit)
@[reducible] def sh_slices_Reverse_byte_byte_io_1 : PSh := ⟨[.row 5 (.int .u8)], [.mk false [.osl 0], .any, .mk false [.v (.int .i64)], .mk false [.v (.int .i64)], .any, .any, .any, .any, .any, .any, .any, .any, .any, .any, .any, .any, .any, .any, .any, .any, .any, .any, .any, .any, .any, .any, .any, .any]⟩
def f_slices_Reverse_byte_byte_io_p1 (T : TT_slices_Reverse_byte_byte_io) (d : ((List Int) × Unit) × (Unit × ((Int × Unit) × ((Int × Unit) × Unit)))) : Option (((List Int) × Unit) × (Unit × Unit)) :=
  let x3 : Bool := (decide (d.2.2.1.1 < d.2.2.2.1.1))
  bif x3 then (
  bif decide ((0 : Int) ≤ d.2.2.2.1.1) && decide (d.2.2.2.1.1 < (d.1.1.length : Int)) then (
  bif decide ((0 : Int) ≤ d.2.2.1.1) && decide (d.2.2.1.1 < (d.1.1.length : Int)) then (
  bif decide ((0 : Int) ≤ d.2.2.1.1) && decide (d.2.2.1.1 < (d.1.1.length : Int)) then (
  let x4 : (List Int) := (List.set d.1.1 (Int.toNat d.2.2.1.1) (gd (.int .u8) d.1.1 d.2.2.2.1.1))
  bif decide ((0 : Int) ≤ d.2.2.2.1.1) && decide (d.2.2.2.1.1 < (x4.length : Int)) then (
  let x5 : (List Int) := (List.set x4 (Int.toNat d.2.2.2.1.1) (gd (.int .u8) d.1.1 d.2.2.1.1))
  let x6 : Int := (iadd .i64 d.2.2.1.1 (1 : Int))
  let x7 : Int := (isub .i64 d.2.2.2.1.1 (1 : Int))
  (T.1 ((x5, ()), ((), ((x6, ()), ((x7, ()), ()))))))
  else none)
  else none)
  else none)
  else none)
  else (
  some ((d.1.1, ()), ((), ())))
def f_slices_Reverse_byte_byte_io_t : Nat → TT_slices_Reverse_byte_byte_io
  | 0 => (fun _ => none, ())
  | k + 1 => (f_slices_Reverse_byte_byte_io_p1 (f_slices_Reverse_byte_byte_io_t k), ())
theorem t_slices_Reverse_byte_byte_io (k : Nat) : f_slices_Reverse_byte_byte_io_t (k + 1) = (f_slices_Reverse_byte_byte_io_p1 (f_slices_Reverse_byte_byte_io_t k), ()) := rfl
def f_slices_Reverse_byte_byte_io_m (T : TT_slices_Reverse_byte_byte_io) (d : ((List Int) × Unit) × (Unit × Unit)) : Option (((List Int) × Unit) × (Unit × Unit)) :=
  let x1 : Int := (d.1.1.length : Int)
  let x2 : Int := (isub .i64 x1 (1 : Int))
  (T.1 ((d.1.1, ()), ((), (((0 : Int), ()), ((x2, ()), ())))))
def c_slices_Reverse_byte_byte_io : List Nat := []
def L_slices_Reverse_byte_byte_io (k : Nat) : Pts po_slices_Reverse_byte_byte_io.den := [(1, ⟨sh_slices_Reverse_byte_byte_io_1, (f_slices_Reverse_byte_byte_io_t k).1⟩)]
def E_slices_Reverse_byte_byte_io : Env := (E0.kp [0])
theorem q_slices_Reverse_byte_byte_io_1 (k : Nat) (d : ((List Int) × Unit) × (Unit × ((Int × Unit) × ((Int × Unit) × Unit)))) : evAt E_slices_Reverse_byte_byte_io (tab (L_slices_Reverse_byte_byte_io k)) c_slices_Reverse_byte_byte_io 1 (bodyOf Tryz.f153) 0 (finKio E_slices_Reverse_byte_byte_io po_slices_Reverse_byte_byte_io [] [(0, none)]) (ptSt sh_slices_Reverse_byte_byte_io_1 d) = f_slices_Reverse_byte_byte_io_p1 (f_slices_Reverse_byte_byte_io_t k) d := by kernel_rfl
theorem q_slices_Reverse_byte_byte_io_m (k : Nat) (d : ((List Int) × Unit) × (Unit × Unit)) : evCode E_slices_Reverse_byte_byte_io (tab (L_slices_Reverse_byte_byte_io k)) c_slices_Reverse_byte_byte_io (bodyOf Tryz.f153) 0 (finKio E_slices_Reverse_byte_byte_io po_slices_Reverse_byte_byte_io [] [(0, none)]) (startSt pi_slices_Reverse_byte_byte_io 28 d) = f_slices_Reverse_byte_byte_io_m (f_slices_Reverse_byte_byte_io_t k) d := by kernel_rfl
theorem go_slices_Reverse_byte_byte_io (F : ((List Int) × Unit) × (Unit × Unit) → Option (((List Int) × Unit) × (Unit × Unit))) (hF : ∀ d out, F d = some out → ∃ k, f_slices_Reverse_byte_byte_io_m (f_slices_Reverse_byte_byte_io_t k) d = some out) : FnIo Tryz.prog ET0 153 pi_slices_Reverse_byte_byte_io po_slices_Reverse_byte_byte_io 0 [(0, 0, none)] F :=
  fn_of_bodyIo (E := E_slices_Reverse_byte_byte_io) (envOk_kp e0_ok) (fn := Tryz.f153) Tryz.func153 (by kernel_rfl) (by kernel_rfl) [] [(0, none)] [(0, 0, none)] (by kernel_rfl) (by kernel_rfl) (by kernel_rfl) (by kernel_rfl) (by decide) (by decide) c_slices_Reverse_byte_byte_io L_slices_Reverse_byte_byte_io
    (by intro x hx d; simp only [L_slices_Reverse_byte_byte_io, List.mem_cons, List.not_mem_nil, or_false] at hx; subst hx; rfl)
    (by intro k x hx d out h; simp only [L_slices_Reverse_byte_byte_io, List.mem_cons, List.not_mem_nil, or_false] at hx; subst hx; exact (q_slices_Reverse_byte_byte_io_1 k d).trans h)
    (by intro d out h; obtain ⟨k, hk⟩ := hF d out h; exact ⟨k, (q_slices_Reverse_byte_byte_io_m k d).trans hk⟩)
def g_slices_Reverse_byte_byte_io (d : ((List Int) × Unit) × (Unit × Unit)) : Option (((List Int) × Unit) × (Unit × Unit)) := lim fun k => f_slices_Reverse_byte_byte_io_m (f_slices_Reverse_byte_byte_io_t k) d
theorem ok_slices_Reverse_byte_byte_io : FnIo Tryz.prog ET0 153 pi_slices_Reverse_byte_byte_io po_slices_Reverse_byte_byte_io 0 [(0, 0, none)] g_slices_Reverse_byte_byte_io := go_slices_Reverse_byte_byte_io g_slices_Reverse_byte_byte_io fun d out h => lim_some h

/- horologe/figures.raw -/
@[reducible] def pi_figures_raw : PSh := ⟨[], [.mk false [.v (.int .u64)], .mk false [.v (.int .i64)]]⟩
@[reducible] def po_figures_raw : PSh := ⟨[], [.mk false [.v .str]]⟩
@[reducible] def TT_figures_raw : Type := (((((List Int) × Unit) × ((Int × Unit) × ((Int × Unit) × (Unit × Unit)))) → Option (Unit × ((ByteArray × Unit) × Unit))) × Unit)
@[reducible] def sh_figures_raw_3 : PSh := ⟨[.row 5 (.int .u8)], [.mk false [.v (.int .u64)], .mk false [.v (.int .i64)], .any, .any, .any, .mk false [.osl 0], .any, .any, .any, .any, .any, .any, .any, .any, .any, .any, .any, .any, .any, .any, .any, .any, .any, .any, .any, .any, .any, .any]⟩
def f_figures_raw_p3 (T : TT_figures_raw) (d : ((List Int) × Unit) × ((Int × Unit) × ((Int × Unit) × (Unit × Unit)))) : Option (Unit × ((ByteArray × Unit) × Unit)) :=
  let x1 : Bool := (decide (d.2.1.1 > (0 : Int)))
  bif x1 then (
  let x2 : Int := (Int.tmod d.2.1.1 (10 : Int))
  let x3 : Int := (iconv .u8 x2)
  let x4 : Int := (iadd .u8 (48 : Int) x3)
  let x5 : (List Int) := ([x4] : List Int)
  bif decide (((d.1.1.length + x5.length) * 1 : Nat) ≤ 140737488355328) && decide (d.1.1.length + x5.length ≤ 9223372036854775807) then (
  let x6 : (List Int) := (d.1.1 ++ x5)
  let x7 : Int := (iquo .u64 d.2.1.1 (10 : Int))
  (T.1 ((x6, ()), ((x7, ()), ((d.2.2.1.1, ()), ((), ()))))))
  else none)
  else (
  let x8 : Int := (d.1.1.length : Int)
  let x9 : Int := (if (1 : Int) > d.2.2.1.1 then (1 : Int) else d.2.2.1.1)
  let x10 : Bool := (decide (x8 < x9))
  bif x10 then (
  let x11 : Int := (Int.tmod d.2.1.1 (10 : Int))
  let x12 : Int := (iconv .u8 x11)
  let x13 : Int := (iadd .u8 (48 : Int) x12)
  let x14 : (List Int) := ([x13] : List Int)
  bif decide (((d.1.1.length + x14.length) * 1 : Nat) ≤ 140737488355328) && decide (d.1.1.length + x14.length ≤ 9223372036854775807) then (
  let x15 : (List Int) := (d.1.1 ++ x14)
  let x16 : Int := (iquo .u64 d.2.1.1 (10 : Int))
  (T.1 ((x15, ()), ((x16, ()), ((d.2.2.1.1, ()), ((), ()))))))
  else none)
  else (
  (g_slices_Reverse_byte_byte_io ((d.1.1, ()), ((), ()))).bind fun x17 =>
  let x18 : ByteArray := (strOf x17.1.1)
  some ((), ((x18, ()), ()))))
def f_figures_raw_t : Nat → TT_figures_raw
  | 0 => (fun _ => none, ())
  | k + 1 => (f_figures_raw_p3 (f_figures_raw_t k), ())
theorem t_figures_raw (k : Nat) : f_figures_raw_t (k + 1) = (f_figures_raw_p3 (f_figures_raw_t k), ()) := rfl
def f_figures_raw_m (T : TT_figures_raw) (d : Unit × ((Int × Unit) × ((Int × Unit) × Unit))) : Option (Unit × ((ByteArray × Unit) × Unit)) :=
  (T.1 ((([] : List Int), ()), ((d.2.1.1, ()), ((d.2.2.1.1, ()), ((), ())))))
def c_figures_raw : List Nat := []
def L_figures_raw (k : Nat) : Pts po_figures_raw.den := [(3, ⟨sh_figures_raw_3, (f_figures_raw_t k).1⟩)]
def E_figures_raw : Env := (E0.add 153 (ioSem pi_slices_Reverse_byte_byte_io po_slices_Reverse_byte_byte_io 0 [(0, 0, none)] g_slices_Reverse_byte_byte_io))
theorem q_figures_raw_3 (k : Nat) (d : ((List Int) × Unit) × ((Int × Unit) × ((Int × Unit) × (Unit × Unit)))) : evAt E_figures_raw (tab (L_figures_raw k)) c_figures_raw 3 (bodyOf Tryz.f125) 0 (finK E_figures_raw po_figures_raw [.tmp 4]) (ptSt sh_figures_raw_3 d) = f_figures_raw_p3 (f_figures_raw_t k) d := by kernel_rfl
theorem q_figures_raw_m (k : Nat) (d : Unit × ((Int × Unit) × ((Int × Unit) × Unit))) : evCode E_figures_raw (tab (L_figures_raw k)) c_figures_raw (bodyOf Tryz.f125) 0 (finK E_figures_raw po_figures_raw [.tmp 4]) (startSt pi_figures_raw 28 d) = f_figures_raw_m (f_figures_raw_t k) d := by kernel_rfl
theorem go_figures_raw (F : Unit × ((Int × Unit) × ((Int × Unit) × Unit)) → Option (Unit × ((ByteArray × Unit) × Unit))) (hF : ∀ d out, F d = some out → ∃ k, f_figures_raw_m (f_figures_raw_t k) d = some out) : FnOk Tryz.prog ET0 125 pi_figures_raw po_figures_raw F :=
  fn_of_body (E := E_figures_raw) (envOk_add e0_ok (io_ok ok_slices_Reverse_byte_byte_io)) (fn := Tryz.f125) Tryz.func125 (by kernel_rfl) (by kernel_rfl) [.tmp 4] (by kernel_rfl) (by kernel_rfl) (by decide) rfl c_figures_raw L_figures_raw
    (by intro x hx d; simp only [L_figures_raw, List.mem_cons, List.not_mem_nil, or_false] at hx; subst hx; rfl)
    (by intro k x hx d out h; simp only [L_figures_raw, List.mem_cons, List.not_mem_nil, or_false] at hx; subst hx; exact (q_figures_raw_3 k d).trans h)
    (by intro d out h; obtain ⟨k, hk⟩ := hF d out h; exact ⟨k, (q_figures_raw_m k d).trans hk⟩)
def g_figures_raw (d : Unit × ((Int × Unit) × ((Int × Unit) × Unit))) : Option (Unit × ((ByteArray × Unit) × Unit)) := lim fun k => f_figures_raw_m (f_figures_raw_t k) d
theorem ok_figures_raw : FnOk Tryz.prog ET0 125 pi_figures_raw po_figures_raw g_figures_raw := go_figures_raw g_figures_raw fun d out h => lim_some h

/- horologe/figures.Put -/
@[reducible] def pi_figures_Put : PSh := ⟨[], [.mk false [.v (.int .i64)], .mk false [.v (.int .i64)]]⟩
@[reducible] def po_figures_Put : PSh := ⟨[], [.mk false [.v .str], .mk false [.v .err]]⟩
def f_figures_Put_m (T : Unit) (d : Unit × ((Int × Unit) × ((Int × Unit) × Unit))) : Option (Unit × ((ByteArray × Unit) × (((Option Int) × Unit) × Unit))) :=
  let x1 : Bool := (decide (d.2.2.1.1 < (0 : Int)))
  bif x1 then (
  let x2 : (Option Int) := (some (1 : Int))
  some ((), (((⟨#[]⟩ : ByteArray), ()), ((x2, ()), ()))))
  else (
  let x3 : Bool := (decide (d.2.2.1.1 > (20 : Int)))
  bif x3 then (
  let x4 : (Option Int) := (some (1 : Int))
  some ((), (((⟨#[]⟩ : ByteArray), ()), ((x4, ()), ()))))
  else (
  let x5 : Bool := (decide (d.2.1.1 < (0 : Int)))
  bif x5 then (
  let x6 : Int := (iconv .u64 d.2.1.1)
  let x7 : Int := (ineg .u64 x6)
  (g_figures_raw ((), ((x7, ()), ((d.2.2.1.1, ()), ())))).bind fun x8 =>
  bif fitsS (⟨#[45]⟩ : ByteArray) x8.2.1.1 then (
  let x9 : ByteArray := ((⟨#[45]⟩ : ByteArray) ++ x8.2.1.1)
  some ((), ((x9, ()), (((none : Option Int), ()), ()))))
  else none)
  else (
  let x10 : Int := (iconv .u64 d.2.1.1)
  (g_figures_raw ((), ((x10, ()), ((d.2.2.1.1, ()), ())))).bind fun x11 =>
  some ((), ((x11.2.1.1, ()), (((none : Option Int), ()), ()))))))
def c_figures_Put : List Nat := []
def L_figures_Put (_ : Nat) : Pts po_figures_Put.den := []
def E_figures_Put : Env := (E0.add 125 (typedSem pi_figures_raw po_figures_raw g_figures_raw))
theorem q_figures_Put_m (k : Nat) (d : Unit × ((Int × Unit) × ((Int × Unit) × Unit))) : evCode E_figures_Put (tab (L_figures_Put k)) c_figures_Put (bodyOf Tryz.f71) 0 (finK E_figures_Put po_figures_Put [.tmp 4, .tmp 5]) (startSt pi_figures_Put 27 d) = f_figures_Put_m () d := by kernel_rfl
def g_figures_Put (d : Unit × ((Int × Unit) × ((Int × Unit) × Unit))) : Option (Unit × ((ByteArray × Unit) × (((Option Int) × Unit) × Unit))) := f_figures_Put_m () d
theorem ok_figures_Put : FnOk Tryz.prog ET0 71 pi_figures_Put po_figures_Put g_figures_Put :=
  fn_of_body (E := E_figures_Put) (envOk_add e0_ok (typed_ok ok_figures_raw)) (fn := Tryz.f71) Tryz.func71 (by kernel_rfl) (by kernel_rfl) [.tmp 4, .tmp 5] (by kernel_rfl) (by kernel_rfl) (by decide) rfl c_figures_Put L_figures_Put
    (by intro x hx; cases hx) (by intro k x hx; cases hx) (fun d out h => ⟨0, (q_figures_Put_m 0 d).trans h⟩)

/- horologe/mjd.zero -/
@[reducible] def pi_mjd_zero : PSh := ⟨[], [.mk false [.v (.int .i64)]]⟩
@[reducible] def po_mjd_zero : PSh := ⟨[], [.mk false [.v (.int .i64)], .mk false [.v .err]]⟩
def f_mjd_zero_m (T : Unit) (d : Unit × ((Int × Unit) × Unit)) : Option (Unit × ((Int × Unit) × (((Option Int) × Unit) × Unit))) :=
  let x1 : Bool := (d.2.1.1 == (1 : Int))
  bif x1 then (
  some ((), (((40587 : Int), ()), (((none : Option Int), ()), ()))))
  else (
  let x2 : Bool := (d.2.1.1 == (2 : Int))
  bif x2 then (
  some ((), (((2440588 : Int), ()), (((none : Option Int), ()), ()))))
  else (
  let x3 : Bool := (d.2.1.1 == (3 : Int))
  bif x3 then (
  some ((), (((25567 : Int), ()), (((none : Option Int), ()), ()))))
  else (
  let x4 : Bool := (d.2.1.1 == (4 : Int))
  bif x4 then (
  some ((), (((-3657 : Int), ()), (((none : Option Int), ()), ()))))
  else (
  let x5 : (Option Int) := (some (11 : Int))
  some ((), (((0 : Int), ()), ((x5, ()), ())))))))
def c_mjd_zero : List Nat := []
def L_mjd_zero (_ : Nat) : Pts po_mjd_zero.den := []
def E_mjd_zero : Env := E0
theorem q_mjd_zero_m (k : Nat) (d : Unit × ((Int × Unit) × Unit)) : evCode E_mjd_zero (tab (L_mjd_zero k)) c_mjd_zero (bodyOf Tryz.f127) 0 (finK E_mjd_zero po_mjd_zero [.tmp 2, .tmp 3]) (startSt pi_mjd_zero 14 d) = f_mjd_zero_m () d := by kernel_rfl
def g_mjd_zero (d : Unit × ((Int × Unit) × Unit)) : Option (Unit × ((Int × Unit) × (((Option Int) × Unit) × Unit))) := f_mjd_zero_m () d
theorem ok_mjd_zero : FnOk Tryz.prog ET0 127 pi_mjd_zero po_mjd_zero g_mjd_zero :=
  fn_of_body (E := E_mjd_zero) e0_ok (fn := Tryz.f127) Tryz.func127 (by kernel_rfl) (by kernel_rfl) [.tmp 2, .tmp 3] (by kernel_rfl) (by kernel_rfl) (by decide) rfl c_mjd_zero L_mjd_zero
    (by intro x hx; cases hx) (by intro k x hx; cases hx) (fun d out h => ⟨0, (q_mjd_zero_m 0 d).trans h⟩)

/- horologe/day.floor -/
@[reducible] def pi_day_floor : PSh := ⟨[], [.mk false [.v (.int .i64)], .mk false [.v (.int .i64)]]⟩
@[reducible] def po_day_floor : PSh := ⟨[], [.mk false [.v (.int .i64)]]⟩
def f_day_floor_m (T : Unit) (d : Unit × ((Int × Unit) × ((Int × Unit) × Unit))) : Option (Unit × ((Int × Unit) × Unit)) :=
  bif (d.2.2.1.1 == 0) then (
  none)
  else (
  let x1 : Int := (iquo .i64 d.2.1.1 d.2.2.1.1)
  bif (d.2.2.1.1 == 0) then (
  none)
  else (
  let x2 : Int := (Int.tmod d.2.1.1 d.2.2.1.1)
  let x3 : Bool := (decide (x2 < (0 : Int)))
  bif x3 then (
  let x4 : Int := (isub .i64 x1 (1 : Int))
  some ((), ((x4, ()), ())))
  else (
  some ((), ((x1, ()), ())))))
def c_day_floor : List Nat := []
def L_day_floor (_ : Nat) : Pts po_day_floor.den := []
def E_day_floor : Env := E0
theorem q_day_floor_m (k : Nat) (d : Unit × ((Int × Unit) × ((Int × Unit) × Unit))) : evCode E_day_floor (tab (L_day_floor k)) c_day_floor (bodyOf Tryz.f117) 0 (finK E_day_floor po_day_floor [.tmp 4]) (startSt pi_day_floor 16 d) = f_day_floor_m () d := by kernel_rfl
def g_day_floor (d : Unit × ((Int × Unit) × ((Int × Unit) × Unit))) : Option (Unit × ((Int × Unit) × Unit)) := f_day_floor_m () d
theorem ok_day_floor : FnOk Tryz.prog ET0 117 pi_day_floor po_day_floor g_day_floor :=
  fn_of_body (E := E_day_floor) e0_ok (fn := Tryz.f117) Tryz.func117 (by kernel_rfl) (by kernel_rfl) [.tmp 4] (by kernel_rfl) (by kernel_rfl) (by decide) rfl c_day_floor L_day_floor
    (by intro x hx; cases hx) (by intro k x hx; cases hx) (fun d out h => ⟨0, (q_day_floor_m 0 d).trans h⟩)

/- horologe/day.number -/
@[reducible] def pi_day_number : PSh := ⟨[], [.mk false [.v (.int .i64)], .mk false [.v (.int .i64)], .mk false [.v (.int .i64)]]⟩
@[reducible] def po_day_number : PSh := ⟨[], [.mk false [.v (.int .i64)]]⟩
def f_day_number_m (T : Unit) (d : Unit × ((Int × Unit) × ((Int × Unit) × ((Int × Unit) × Unit)))) : Option (Unit × ((Int × Unit) × Unit)) :=
  let x1 : Bool := (decide (d.2.2.1.1 ≤ (2 : Int)))
  bif x1 then (
  let x2 : Int := (isub .i64 d.2.1.1 (1 : Int))
  let x3 : Int := (iadd .i64 d.2.2.1.1 (12 : Int))
  (g_day_floor ((), ((x2, ()), (((400 : Int), ()), ())))).bind fun x4 =>
  let x5 : Int := (imul .i64 x4.2.1.1 (400 : Int))
  let x6 : Int := (isub .i64 x2 x5)
  let x7 : Int := (isub .i64 x3 (3 : Int))
  let x8 : Int := (imul .i64 (153 : Int) x7)
  let x9 : Int := (iadd .i64 x8 (2 : Int))
  let x10 : Int := (iquo .i64 x9 (5 : Int))
  let x11 : Int := (iadd .i64 x10 d.2.2.2.1.1)
  let x12 : Int := (isub .i64 x11 (1 : Int))
  let x13 : Int := (imul .i64 x4.2.1.1 (146097 : Int))
  let x14 : Int := (imul .i64 x6 (365 : Int))
  let x15 : Int := (iadd .i64 x13 x14)
  let x16 : Int := (iquo .i64 x6 (4 : Int))
  let x17 : Int := (iadd .i64 x15 x16)
  let x18 : Int := (iquo .i64 x6 (100 : Int))
  let x19 : Int := (isub .i64 x17 x18)
  let x20 : Int := (iadd .i64 x19 x12)
  let x21 : Int := (isub .i64 x20 (719468 : Int))
  some ((), ((x21, ()), ())))
  else (
  (g_day_floor ((), ((d.2.1.1, ()), (((400 : Int), ()), ())))).bind fun x22 =>
  let x23 : Int := (imul .i64 x22.2.1.1 (400 : Int))
  let x24 : Int := (isub .i64 d.2.1.1 x23)
  let x25 : Int := (isub .i64 d.2.2.1.1 (3 : Int))
  let x26 : Int := (imul .i64 (153 : Int) x25)
  let x27 : Int := (iadd .i64 x26 (2 : Int))
  let x28 : Int := (iquo .i64 x27 (5 : Int))
  let x29 : Int := (iadd .i64 x28 d.2.2.2.1.1)
  let x30 : Int := (isub .i64 x29 (1 : Int))
  let x31 : Int := (imul .i64 x22.2.1.1 (146097 : Int))
  let x32 : Int := (imul .i64 x24 (365 : Int))
  let x33 : Int := (iadd .i64 x31 x32)
  let x34 : Int := (iquo .i64 x24 (4 : Int))
  let x35 : Int := (iadd .i64 x33 x34)
  let x36 : Int := (iquo .i64 x24 (100 : Int))
  let x37 : Int := (isub .i64 x35 x36)
  let x38 : Int := (iadd .i64 x37 x30)
  let x39 : Int := (isub .i64 x38 (719468 : Int))
  some ((), ((x39, ()), ())))
def c_day_number : List Nat := []
def L_day_number (_ : Nat) : Pts po_day_number.den := []
def E_day_number : Env := (E0.add 117 (typedSem pi_day_floor po_day_floor g_day_floor))
theorem q_day_number_m (k : Nat) (d : Unit × ((Int × Unit) × ((Int × Unit) × ((Int × Unit) × Unit)))) : evCode E_day_number (tab (L_day_number k)) c_day_number (bodyOf Tryz.f140) 0 (finK E_day_number po_day_number [.tmp 6]) (startSt pi_day_number 44 d) = f_day_number_m () d := by kernel_rfl
def g_day_number (d : Unit × ((Int × Unit) × ((Int × Unit) × ((Int × Unit) × Unit)))) : Option (Unit × ((Int × Unit) × Unit)) := f_day_number_m () d
theorem ok_day_number : FnOk Tryz.prog ET0 140 pi_day_number po_day_number g_day_number :=
  fn_of_body (E := E_day_number) (envOk_add e0_ok (typed_ok ok_day_floor)) (fn := Tryz.f140) Tryz.func140 (by kernel_rfl) (by kernel_rfl) [.tmp 6] (by kernel_rfl) (by kernel_rfl) (by decide) rfl c_day_number L_day_number
    (by intro x hx; cases hx) (by intro k x hx; cases hx) (fun d out h => ⟨0, (q_day_number_m 0 d).trans h⟩)

/- horologe/day.First -/
@[reducible] def pi_day_First : PSh := ⟨[], []⟩
@[reducible] def po_day_First : PSh := ⟨[], [.mk false [.v (.int .i64)]]⟩
def f_day_First_m (T : Unit) (d : Unit × Unit) : Option (Unit × ((Int × Unit) × Unit)) :=
  (g_day_number ((), (((-9999 : Int), ()), (((1 : Int), ()), (((1 : Int), ()), ()))))).bind fun x1 =>
  some ((), ((x1.2.1.1, ()), ()))
def c_day_First : List Nat := []
def L_day_First (_ : Nat) : Pts po_day_First.den := []
def E_day_First : Env := (E0.add 140 (typedSem pi_day_number po_day_number g_day_number))
theorem q_day_First_m (k : Nat) (d : Unit × Unit) : evCode E_day_First (tab (L_day_First k)) c_day_First (bodyOf Tryz.f115) 0 (finK E_day_First po_day_First [.tmp 0]) (startSt pi_day_First 2 d) = f_day_First_m () d := by kernel_rfl
def g_day_First (d : Unit × Unit) : Option (Unit × ((Int × Unit) × Unit)) := f_day_First_m () d
theorem ok_day_First : FnOk Tryz.prog ET0 115 pi_day_First po_day_First g_day_First :=
  fn_of_body (E := E_day_First) (envOk_add e0_ok (typed_ok ok_day_number)) (fn := Tryz.f115) Tryz.func115 (by kernel_rfl) (by kernel_rfl) [.tmp 0] (by kernel_rfl) (by kernel_rfl) (by decide) rfl c_day_First L_day_First
    (by intro x hx; cases hx) (by intro k x hx; cases hx) (fun d out h => ⟨0, (q_day_First_m 0 d).trans h⟩)

/- horologe/day.Last -/
@[reducible] def pi_day_Last : PSh := ⟨[], []⟩
@[reducible] def po_day_Last : PSh := ⟨[], [.mk false [.v (.int .i64)]]⟩
def f_day_Last_m (T : Unit) (d : Unit × Unit) : Option (Unit × ((Int × Unit) × Unit)) :=
  (g_day_number ((), (((9999 : Int), ()), (((12 : Int), ()), (((31 : Int), ()), ()))))).bind fun x1 =>
  some ((), ((x1.2.1.1, ()), ()))
def c_day_Last : List Nat := []
def L_day_Last (_ : Nat) : Pts po_day_Last.den := []
def E_day_Last : Env := (E0.add 140 (typedSem pi_day_number po_day_number g_day_number))
theorem q_day_Last_m (k : Nat) (d : Unit × Unit) : evCode E_day_Last (tab (L_day_Last k)) c_day_Last (bodyOf Tryz.f116) 0 (finK E_day_Last po_day_Last [.tmp 0]) (startSt pi_day_Last 2 d) = f_day_Last_m () d := by kernel_rfl
def g_day_Last (d : Unit × Unit) : Option (Unit × ((Int × Unit) × Unit)) := f_day_Last_m () d
theorem ok_day_Last : FnOk Tryz.prog ET0 116 pi_day_Last po_day_Last g_day_Last :=
  fn_of_body (E := E_day_Last) (envOk_add e0_ok (typed_ok ok_day_number)) (fn := Tryz.f116) Tryz.func116 (by kernel_rfl) (by kernel_rfl) [.tmp 0] (by kernel_rfl) (by kernel_rfl) (by decide) rfl c_day_Last L_day_Last
    (by intro x hx; cases hx) (by intro k x hx; cases hx) (fun d out h => ⟨0, (q_day_Last_m 0 d).trans h⟩)

/- horologe/mjd.there -/
@[reducible] def pi_mjd_there : PSh := ⟨[], [.mk false [.v (.int .i64)]]⟩
@[reducible] def po_mjd_there : PSh := ⟨[], [.mk false [.v .bool]]⟩
def f_mjd_there_m (T : Unit) (d : Unit × ((Int × Unit) × Unit)) : Option (Unit × ((Bool × Unit) × Unit)) :=
  (g_day_First ((), ())).bind fun x1 =>
  let x2 : Bool := (decide (d.2.1.1 ≥ x1.2.1.1))
  bif x2 then (
  (g_day_Last ((), ())).bind fun x3 =>
  let x4 : Bool := (decide (d.2.1.1 ≤ x3.2.1.1))
  some ((), ((x4, ()), ())))
  else (
  some ((), ((false, ()), ())))
def c_mjd_there : List Nat := []
def L_mjd_there (_ : Nat) : Pts po_mjd_there.den := []
def E_mjd_there : Env := ((E0.add 115 (typedSem pi_day_First po_day_First g_day_First)).add 116 (typedSem pi_day_Last po_day_Last g_day_Last))
theorem q_mjd_there_m (k : Nat) (d : Unit × ((Int × Unit) × Unit)) : evCode E_mjd_there (tab (L_mjd_there k)) c_mjd_there (bodyOf Tryz.f144) 0 (finK E_mjd_there po_mjd_there [.tmp 2]) (startSt pi_mjd_there 11 d) = f_mjd_there_m () d := by kernel_rfl
def g_mjd_there (d : Unit × ((Int × Unit) × Unit)) : Option (Unit × ((Bool × Unit) × Unit)) := f_mjd_there_m () d
theorem ok_mjd_there : FnOk Tryz.prog ET0 144 pi_mjd_there po_mjd_there g_mjd_there :=
  fn_of_body (E := E_mjd_there) (envOk_add (envOk_add e0_ok (typed_ok ok_day_First)) (typed_ok ok_day_Last)) (fn := Tryz.f144) Tryz.func144 (by kernel_rfl) (by kernel_rfl) [.tmp 2] (by kernel_rfl) (by kernel_rfl) (by decide) rfl c_mjd_there L_mjd_there
    (by intro x hx; cases hx) (by intro k x hx; cases hx) (fun d out h => ⟨0, (q_mjd_there_m 0 d).trans h⟩)

/- horologe/mjd.Count -/
@[reducible] def pi_mjd_Count : PSh := ⟨[], [.mk false [.v (.int .i64)], .mk false [.v (.int .i64)]]⟩
@[reducible] def po_mjd_Count : PSh := ⟨[], [.mk false [.v (.int .i64)], .mk false [.v .err]]⟩
def f_mjd_Count_m (T : Unit) (d : Unit × ((Int × Unit) × ((Int × Unit) × Unit))) : Option (Unit × ((Int × Unit) × (((Option Int) × Unit) × Unit))) :=
  (g_mjd_zero ((), ((d.2.1.1, ()), ()))).bind fun x1 =>
  let x2 : Bool := (!x1.2.2.1.1.isNone)
  bif x2 then (
  some ((), (((0 : Int), ()), ((x1.2.2.1.1, ()), ()))))
  else (
  (g_mjd_there ((), ((d.2.2.1.1, ()), ()))).bind fun x3 =>
  let x4 : Bool := (!x3.2.1.1)
  bif x4 then (
  let x5 : (Option Int) := (some (13 : Int))
  some ((), (((0 : Int), ()), ((x5, ()), ()))))
  else (
  let x6 : Int := (iadd .i64 d.2.2.1.1 x1.2.1.1)
  some ((), ((x6, ()), (((none : Option Int), ()), ())))))
def c_mjd_Count : List Nat := []
def L_mjd_Count (_ : Nat) : Pts po_mjd_Count.den := []
def E_mjd_Count : Env := ((E0.add 127 (typedSem pi_mjd_zero po_mjd_zero g_mjd_zero)).add 144 (typedSem pi_mjd_there po_mjd_there g_mjd_there))
theorem q_mjd_Count_m (k : Nat) (d : Unit × ((Int × Unit) × ((Int × Unit) × Unit))) : evCode E_mjd_Count (tab (L_mjd_Count k)) c_mjd_Count (bodyOf Tryz.f120) 0 (finK E_mjd_Count po_mjd_Count [.tmp 4, .tmp 5]) (startSt pi_mjd_Count 25 d) = f_mjd_Count_m () d := by kernel_rfl
def g_mjd_Count (d : Unit × ((Int × Unit) × ((Int × Unit) × Unit))) : Option (Unit × ((Int × Unit) × (((Option Int) × Unit) × Unit))) := f_mjd_Count_m () d
theorem ok_mjd_Count : FnOk Tryz.prog ET0 120 pi_mjd_Count po_mjd_Count g_mjd_Count :=
  fn_of_body (E := E_mjd_Count) (envOk_add (envOk_add e0_ok (typed_ok ok_mjd_zero)) (typed_ok ok_mjd_there)) (fn := Tryz.f120) Tryz.func120 (by kernel_rfl) (by kernel_rfl) [.tmp 4, .tmp 5] (by kernel_rfl) (by kernel_rfl) (by decide) rfl c_mjd_Count L_mjd_Count
    (by intro x hx; cases hx) (by intro k x hx; cases hx) (fun d out h => ⟨0, (q_mjd_Count_m 0 d).trans h⟩)

/- horologe/mjd.Five -/
@[reducible] def pi_mjd_Five : PSh := ⟨[], [.mk false [.v (.int .i64)]]⟩
@[reducible] def po_mjd_Five : PSh := ⟨[], [.mk false [.v .str], .mk false [.v .err]]⟩
def f_mjd_Five_m (T : Unit) (d : Unit × ((Int × Unit) × Unit)) : Option (Unit × ((ByteArray × Unit) × (((Option Int) × Unit) × Unit))) :=
  (g_mjd_Count ((), (((1 : Int), ()), ((d.2.1.1, ()), ())))).bind fun x1 =>
  let x2 : Bool := (!x1.2.2.1.1.isNone)
  bif x2 then (
  some ((), (((⟨#[]⟩ : ByteArray), ()), ((x1.2.2.1.1, ()), ()))))
  else (
  let x3 : Bool := (decide (x1.2.1.1 < (0 : Int)))
  bif x3 then (
  let x4 : (Option Int) := (some (1 : Int))
  some ((), (((⟨#[]⟩ : ByteArray), ()), ((x4, ()), ()))))
  else (
  let x5 : Bool := (decide (x1.2.1.1 > (99999 : Int)))
  bif x5 then (
  let x6 : (Option Int) := (some (1 : Int))
  some ((), (((⟨#[]⟩ : ByteArray), ()), ((x6, ()), ()))))
  else (
  (g_figures_Put ((), ((x1.2.1.1, ()), (((5 : Int), ()), ())))).bind fun x7 =>
  some ((), ((x7.2.1.1, ()), ((x7.2.2.1.1, ()), ()))))))
def c_mjd_Five : List Nat := []
def L_mjd_Five (_ : Nat) : Pts po_mjd_Five.den := []
def E_mjd_Five : Env := ((E0.add 71 (typedSem pi_figures_Put po_figures_Put g_figures_Put)).add 120 (typedSem pi_mjd_Count po_mjd_Count g_mjd_Count))
theorem q_mjd_Five_m (k : Nat) (d : Unit × ((Int × Unit) × Unit)) : evCode E_mjd_Five (tab (L_mjd_Five k)) c_mjd_Five (bodyOf Tryz.f63) 0 (finK E_mjd_Five po_mjd_Five [.tmp 2, .tmp 3]) (startSt pi_mjd_Five 27 d) = f_mjd_Five_m () d := by kernel_rfl
def g_mjd_Five (d : Unit × ((Int × Unit) × Unit)) : Option (Unit × ((ByteArray × Unit) × (((Option Int) × Unit) × Unit))) := f_mjd_Five_m () d
theorem ok_mjd_Five : FnOk Tryz.prog ET0 63 pi_mjd_Five po_mjd_Five g_mjd_Five :=
  fn_of_body (E := E_mjd_Five) (envOk_add (envOk_add e0_ok (typed_ok ok_figures_Put)) (typed_ok ok_mjd_Count)) (fn := Tryz.f63) Tryz.func63 (by kernel_rfl) (by kernel_rfl) [.tmp 2, .tmp 3] (by kernel_rfl) (by kernel_rfl) (by decide) rfl c_mjd_Five L_mjd_Five
    (by intro x hx; cases hx) (by intro k x hx; cases hx) (fun d out h => ⟨0, (q_mjd_Five_m 0 d).trans h⟩)

/- horologe/nist.in -/
@[reducible] def pi_nist_in : PSh := ⟨[], [.mk false [.v (.int .i64)], .mk false [.v (.int .i64)]]⟩
@[reducible] def po_nist_in : PSh := ⟨[], [.mk false [.v .bool]]⟩
def f_nist_in_m (T : Unit) (d : Unit × ((Int × Unit) × ((Int × Unit) × Unit))) : Option (Unit × ((Bool × Unit) × Unit)) :=
  let x1 : Bool := (decide (d.2.1.1 ≥ (0 : Int)))
  bif x1 then (
  let x2 : Bool := (decide (d.2.1.1 ≤ d.2.2.1.1))
  some ((), ((x2, ()), ())))
  else (
  some ((), ((false, ()), ())))
def c_nist_in : List Nat := []
def L_nist_in (_ : Nat) : Pts po_nist_in.den := []
def E_nist_in : Env := E0
theorem q_nist_in_m (k : Nat) (d : Unit × ((Int × Unit) × ((Int × Unit) × Unit))) : evCode E_nist_in (tab (L_nist_in k)) c_nist_in (bodyOf Tryz.f114) 0 (finK E_nist_in po_nist_in [.tmp 4]) (startSt pi_nist_in 12 d) = f_nist_in_m () d := by kernel_rfl
def g_nist_in (d : Unit × ((Int × Unit) × ((Int × Unit) × Unit))) : Option (Unit × ((Bool × Unit) × Unit)) := f_nist_in_m () d
theorem ok_nist_in : FnOk Tryz.prog ET0 114 pi_nist_in po_nist_in g_nist_in :=
  fn_of_body (E := E_nist_in) e0_ok (fn := Tryz.f114) Tryz.func114 (by kernel_rfl) (by kernel_rfl) [.tmp 4] (by kernel_rfl) (by kernel_rfl) (by decide) rfl c_nist_in L_nist_in
    (by intro x hx; cases hx) (by intro k x hx; cases hx) (fun d out h => ⟨0, (q_nist_in_m 0 d).trans h⟩)

/- horologe/nist.Check -/
@[reducible] def pi_nist_Check : PSh := ⟨[], [.mk true [.v (.int .i64), .v (.int .i64), .v (.int .i64), .v (.int .i64), .v (.int .i64), .v (.int .i64), .v .bool]]⟩
@[reducible] def po_nist_Check : PSh := ⟨[], [.mk false [.v .err]]⟩
def f_nist_Check_m (T : Unit) (d : Unit × ((Int × (Int × (Int × (Int × (Int × (Int × (Bool × Unit))))))) × Unit)) : Option (Unit × (((Option Int) × Unit) × Unit)) :=
  (g_mjd_Five ((), ((d.2.1.1, ()), ()))).bind fun x1 =>
  let x2 : Bool := (!x1.2.2.1.1.isNone)
  bif x2 then (
  some ((), ((x1.2.2.1.1, ()), ())))
  else (
  (g_nist_in ((), ((d.2.1.2.1, ()), (((86400 : Int), ()), ())))).bind fun x3 =>
  let x4 : Bool := (!x3.2.1.1)
  bif x4 then (
  let x5 : (Option Int) := (some (1 : Int))
  some ((), ((x5, ()), ())))
  else (
  (g_nist_in ((), ((d.2.1.2.2.1, ()), (((99 : Int), ()), ())))).bind fun x6 =>
  let x7 : Bool := (!x6.2.1.1)
  bif x7 then (
  let x8 : (Option Int) := (some (1 : Int))
  some ((), ((x8, ()), ())))
  else (
  (g_nist_in ((), ((d.2.1.2.2.2.1, ()), (((2 : Int), ()), ())))).bind fun x9 =>
  let x10 : Bool := (!x9.2.1.1)
  bif x10 then (
  let x11 : (Option Int) := (some (1 : Int))
  some ((), ((x11, ()), ())))
  else (
  (g_nist_in ((), ((d.2.1.2.2.2.2.1, ()), (((9 : Int), ()), ())))).bind fun x12 =>
  let x13 : Bool := (!x12.2.1.1)
  bif x13 then (
  let x14 : (Option Int) := (some (1 : Int))
  some ((), ((x14, ()), ())))
  else (
  (g_nist_in ((), ((d.2.1.2.2.2.2.2.1, ()), (((9999 : Int), ()), ())))).bind fun x15 =>
  let x16 : Bool := (!x15.2.1.1)
  bif x16 then (
  let x17 : (Option Int) := (some (1 : Int))
  some ((), ((x17, ()), ())))
  else (
  some ((), (((none : Option Int), ()), ()))))))))
def c_nist_Check : List Nat := []
def L_nist_Check (_ : Nat) : Pts po_nist_Check.den := []
def E_nist_Check : Env := ((E0.add 63 (typedSem pi_mjd_Five po_mjd_Five g_mjd_Five)).add 114 (typedSem pi_nist_in po_nist_in g_nist_in))
theorem q_nist_Check_m (k : Nat) (d : Unit × ((Int × (Int × (Int × (Int × (Int × (Int × (Bool × Unit))))))) × Unit)) : evCode E_nist_Check (tab (L_nist_Check k)) c_nist_Check (bodyOf Tryz.f59) 0 (finK E_nist_Check po_nist_Check [.tmp 2]) (startSt pi_nist_Check 43 d) = f_nist_Check_m () d := by kernel_rfl
def g_nist_Check (d : Unit × ((Int × (Int × (Int × (Int × (Int × (Int × (Bool × Unit))))))) × Unit)) : Option (Unit × (((Option Int) × Unit) × Unit)) := f_nist_Check_m () d
theorem ok_nist_Check : FnOk Tryz.prog ET0 59 pi_nist_Check po_nist_Check g_nist_Check :=
  fn_of_body (E := E_nist_Check) (envOk_add (envOk_add e0_ok (typed_ok ok_mjd_Five)) (typed_ok ok_nist_in)) (fn := Tryz.f59) Tryz.func59 (by kernel_rfl) (by kernel_rfl) [.tmp 2] (by kernel_rfl) (by kernel_rfl) (by decide) rfl c_nist_Check L_nist_Check
    (by intro x hx; cases hx) (by intro k x hx; cases hx) (fun d out h => ⟨0, (q_nist_Check_m 0 d).trans h⟩)

/- horologe/day.Date -/
@[reducible] def pi_day_Date : PSh := ⟨[], [.mk false [.v (.int .i64)]]⟩
@[reducible] def po_day_Date : PSh := ⟨[], [.mk false [.v (.int .i64)], .mk false [.v (.int .i64)], .mk false [.v (.int .i64)], .mk false [.v .err]]⟩
def f_day_Date_m (T : Unit) (d : Unit × ((Int × Unit) × Unit)) : Option (Unit × ((Int × Unit) × ((Int × Unit) × ((Int × Unit) × (((Option Int) × Unit) × Unit))))) :=
  (g_day_First ((), ())).bind fun x1 =>
  let x2 : Bool := (decide (d.2.1.1 < x1.2.1.1))
  bif x2 then (
  let x3 : (Option Int) := (some (13 : Int))
  some ((), (((0 : Int), ()), (((0 : Int), ()), (((0 : Int), ()), ((x3, ()), ()))))))
  else (
  (g_day_Last ((), ())).bind fun x4 =>
  let x5 : Bool := (decide (d.2.1.1 > x4.2.1.1))
  bif x5 then (
  let x6 : (Option Int) := (some (13 : Int))
  some ((), (((0 : Int), ()), (((0 : Int), ()), (((0 : Int), ()), ((x6, ()), ()))))))
  else (
  let x7 : Int := (iadd .i64 d.2.1.1 (719468 : Int))
  (g_day_floor ((), ((x7, ()), (((146097 : Int), ()), ())))).bind fun x8 =>
  let x9 : Int := (iadd .i64 d.2.1.1 (719468 : Int))
  let x10 : Int := (imul .i64 x8.2.1.1 (146097 : Int))
  let x11 : Int := (isub .i64 x9 x10)
  let x12 : Int := (iquo .i64 x11 (1460 : Int))
  let x13 : Int := (isub .i64 x11 x12)
  let x14 : Int := (iquo .i64 x11 (36524 : Int))
  let x15 : Int := (iadd .i64 x13 x14)
  let x16 : Int := (iquo .i64 x11 (146096 : Int))
  let x17 : Int := (isub .i64 x15 x16)
  let x18 : Int := (iquo .i64 x17 (365 : Int))
  let x19 : Int := (imul .i64 (365 : Int) x18)
  let x20 : Int := (iquo .i64 x18 (4 : Int))
  let x21 : Int := (iadd .i64 x19 x20)
  let x22 : Int := (iquo .i64 x18 (100 : Int))
  let x23 : Int := (isub .i64 x21 x22)
  let x24 : Int := (isub .i64 x11 x23)
  let x25 : Int := (imul .i64 (5 : Int) x24)
  let x26 : Int := (iadd .i64 x25 (2 : Int))
  let x27 : Int := (iquo .i64 x26 (153 : Int))
  let x28 : Int := (imul .i64 (153 : Int) x27)
  let x29 : Int := (iadd .i64 x28 (2 : Int))
  let x30 : Int := (iquo .i64 x29 (5 : Int))
  let x31 : Int := (isub .i64 x24 x30)
  let x32 : Int := (iadd .i64 x31 (1 : Int))
  let x33 : Int := (imul .i64 x8.2.1.1 (400 : Int))
  let x34 : Int := (iadd .i64 x18 x33)
  let x35 : Int := (iadd .i64 x27 (3 : Int))
  let x36 : Bool := (decide (x35 > (12 : Int)))
  bif x36 then (
  let x37 : Int := (isub .i64 x35 (12 : Int))
  let x38 : Int := (iadd .i64 x34 (1 : Int))
  some ((), ((x38, ()), ((x37, ()), ((x32, ()), (((none : Option Int), ()), ()))))))
  else (
  some ((), ((x34, ()), ((x35, ()), ((x32, ()), (((none : Option Int), ()), ()))))))))
def c_day_Date : List Nat := []
def L_day_Date (_ : Nat) : Pts po_day_Date.den := []
def E_day_Date : Env := (((E0.add 115 (typedSem pi_day_First po_day_First g_day_First)).add 116 (typedSem pi_day_Last po_day_Last g_day_Last)).add 117 (typedSem pi_day_floor po_day_floor g_day_floor))
theorem q_day_Date_m (k : Nat) (d : Unit × ((Int × Unit) × Unit)) : evCode E_day_Date (tab (L_day_Date k)) c_day_Date (bodyOf Tryz.f60) 0 (finK E_day_Date po_day_Date [.tmp 2, .tmp 3, .tmp 4, .tmp 5]) (startSt pi_day_Date 77 d) = f_day_Date_m () d := by kernel_rfl
def g_day_Date (d : Unit × ((Int × Unit) × Unit)) : Option (Unit × ((Int × Unit) × ((Int × Unit) × ((Int × Unit) × (((Option Int) × Unit) × Unit))))) := f_day_Date_m () d
theorem ok_day_Date : FnOk Tryz.prog ET0 60 pi_day_Date po_day_Date g_day_Date :=
  fn_of_body (E := E_day_Date) (envOk_add (envOk_add (envOk_add e0_ok (typed_ok ok_day_First)) (typed_ok ok_day_Last)) (typed_ok ok_day_floor)) (fn := Tryz.f60) Tryz.func60 (by kernel_rfl) (by kernel_rfl) [.tmp 2, .tmp 3, .tmp 4, .tmp 5] (by kernel_rfl) (by kernel_rfl) (by decide) rfl c_day_Date L_day_Date
    (by intro x hx; cases hx) (by intro k x hx; cases hx) (fun d out h => ⟨0, (q_day_Date_m 0 d).trans h⟩)

/- horologe/label.in -/
@[reducible] def pi_label_in : PSh := ⟨[], [.mk false [.v (.int .i64)], .mk false [.v (.int .i64)]]⟩
@[reducible] def po_label_in : PSh := ⟨[], [.mk false [.v .bool]]⟩
def f_label_in_m (T : Unit) (d : Unit × ((Int × Unit) × ((Int × Unit) × Unit))) : Option (Unit × ((Bool × Unit) × Unit)) :=
  let x1 : Bool := (decide (d.2.1.1 ≥ (0 : Int)))
  bif x1 then (
  let x2 : Bool := (decide (d.2.1.1 < d.2.2.1.1))
  some ((), ((x2, ()), ())))
  else (
  some ((), ((false, ()), ())))
def c_label_in : List Nat := []
def L_label_in (_ : Nat) : Pts po_label_in.den := []
def E_label_in : Env := E0
theorem q_label_in_m (k : Nat) (d : Unit × ((Int × Unit) × ((Int × Unit) × Unit))) : evCode E_label_in (tab (L_label_in k)) c_label_in (bodyOf Tryz.f118) 0 (finK E_label_in po_label_in [.tmp 4]) (startSt pi_label_in 12 d) = f_label_in_m () d := by kernel_rfl
def g_label_in (d : Unit × ((Int × Unit) × ((Int × Unit) × Unit))) : Option (Unit × ((Bool × Unit) × Unit)) := f_label_in_m () d
theorem ok_label_in : FnOk Tryz.prog ET0 118 pi_label_in po_label_in g_label_in :=
  fn_of_body (E := E_label_in) e0_ok (fn := Tryz.f118) Tryz.func118 (by kernel_rfl) (by kernel_rfl) [.tmp 4] (by kernel_rfl) (by kernel_rfl) (by decide) rfl c_label_in L_label_in
    (by intro x hx; cases hx) (by intro k x hx; cases hx) (fun d out h => ⟨0, (q_label_in_m 0 d).trans h⟩)

/- horologe/label.clock -/
@[reducible] def pi_label_clock : PSh := ⟨[], [.mk false [.v (.int .i64)]]⟩
@[reducible] def po_label_clock : PSh := ⟨[], [.mk false [.v (.int .i64)], .mk false [.v (.int .i64)]]⟩
def f_label_clock_m (T : Unit) (d : Unit × ((Int × Unit) × Unit)) : Option (Unit × ((Int × Unit) × ((Int × Unit) × Unit))) :=
  let x1 : Bool := (d.2.1.1 == (86400 : Int))
  bif x1 then (
  some ((), (((1439 : Int), ()), (((60 : Int), ()), ()))))
  else (
  let x2 : Int := (iquo .i64 d.2.1.1 (60 : Int))
  let x3 : Int := (Int.tmod d.2.1.1 (60 : Int))
  some ((), ((x2, ()), ((x3, ()), ()))))
def c_label_clock : List Nat := []
def L_label_clock (_ : Nat) : Pts po_label_clock.den := []
def E_label_clock : Env := E0
theorem q_label_clock_m (k : Nat) (d : Unit × ((Int × Unit) × Unit)) : evCode E_label_clock (tab (L_label_clock k)) c_label_clock (bodyOf Tryz.f119) 0 (finK E_label_clock po_label_clock [.tmp 2, .tmp 3]) (startSt pi_label_clock 10 d) = f_label_clock_m () d := by kernel_rfl
def g_label_clock (d : Unit × ((Int × Unit) × Unit)) : Option (Unit × ((Int × Unit) × ((Int × Unit) × Unit))) := f_label_clock_m () d
theorem ok_label_clock : FnOk Tryz.prog ET0 119 pi_label_clock po_label_clock g_label_clock :=
  fn_of_body (E := E_label_clock) e0_ok (fn := Tryz.f119) Tryz.func119 (by kernel_rfl) (by kernel_rfl) [.tmp 2, .tmp 3] (by kernel_rfl) (by kernel_rfl) (by decide) rfl c_label_clock L_label_clock
    (by intro x hx; cases hx) (by intro k x hx; cases hx) (fun d out h => ⟨0, (q_label_clock_m 0 d).trans h⟩)

/- horologe/label.Clock -/
@[reducible] def pi_label_Clock : PSh := ⟨[], [.mk false [.v (.int .i64)]]⟩
@[reducible] def po_label_Clock : PSh := ⟨[], [.mk false [.v (.int .i64)], .mk false [.v (.int .i64)], .mk false [.v (.int .i64)], .mk false [.v .err]]⟩
def f_label_Clock_m (T : Unit) (d : Unit × ((Int × Unit) × Unit)) : Option (Unit × ((Int × Unit) × ((Int × Unit) × ((Int × Unit) × (((Option Int) × Unit) × Unit))))) :=
  (g_label_in ((), ((d.2.1.1, ()), (((86401 : Int), ()), ())))).bind fun x1 =>
  let x2 : Bool := (!x1.2.1.1)
  bif x2 then (
  let x3 : (Option Int) := (some (1 : Int))
  some ((), (((0 : Int), ()), (((0 : Int), ()), (((0 : Int), ()), ((x3, ()), ()))))))
  else (
  (g_label_clock ((), ((d.2.1.1, ()), ()))).bind fun x4 =>
  let x5 : Int := (iquo .i64 x4.2.1.1 (60 : Int))
  let x6 : Int := (Int.tmod x4.2.1.1 (60 : Int))
  some ((), ((x5, ()), ((x6, ()), ((x4.2.2.1.1, ()), (((none : Option Int), ()), ()))))))
def c_label_Clock : List Nat := []
def L_label_Clock (_ : Nat) : Pts po_label_Clock.den := []
def E_label_Clock : Env := ((E0.add 118 (typedSem pi_label_in po_label_in g_label_in)).add 119 (typedSem pi_label_clock po_label_clock g_label_clock))
theorem q_label_Clock_m (k : Nat) (d : Unit × ((Int × Unit) × Unit)) : evCode E_label_Clock (tab (L_label_Clock k)) c_label_Clock (bodyOf Tryz.f61) 0 (finK E_label_Clock po_label_Clock [.tmp 2, .tmp 3, .tmp 4, .tmp 5]) (startSt pi_label_Clock 20 d) = f_label_Clock_m () d := by kernel_rfl
def g_label_Clock (d : Unit × ((Int × Unit) × Unit)) : Option (Unit × ((Int × Unit) × ((Int × Unit) × ((Int × Unit) × (((Option Int) × Unit) × Unit))))) := f_label_Clock_m () d
theorem ok_label_Clock : FnOk Tryz.prog ET0 61 pi_label_Clock po_label_Clock g_label_Clock :=
  fn_of_body (E := E_label_Clock) (envOk_add (envOk_add e0_ok (typed_ok ok_label_in)) (typed_ok ok_label_clock)) (fn := Tryz.f61) Tryz.func61 (by kernel_rfl) (by kernel_rfl) [.tmp 2, .tmp 3, .tmp 4, .tmp 5] (by kernel_rfl) (by kernel_rfl) (by decide) rfl c_label_Clock L_label_Clock
    (by intro x hx; cases hx) (by intro k x hx; cases hx) (fun d out h => ⟨0, (q_label_Clock_m 0 d).trans h⟩)

/- horologe/nist.modulo -/
@[reducible] def pi_nist_modulo : PSh := ⟨[], [.mk false [.v (.int .i64)], .mk false [.v (.int .i64)]]⟩
@[reducible] def po_nist_modulo : PSh := ⟨[], [.mk false [.v (.int .i64)]]⟩
def f_nist_modulo_m (T : Unit) (d : Unit × ((Int × Unit) × ((Int × Unit) × Unit))) : Option (Unit × ((Int × Unit) × Unit)) :=
  bif (d.2.2.1.1 == 0) then (
  none)
  else (
  let x1 : Int := (Int.tmod d.2.1.1 d.2.2.1.1)
  let x2 : Int := (iadd .i64 x1 d.2.2.1.1)
  bif (d.2.2.1.1 == 0) then (
  none)
  else (
  let x3 : Int := (Int.tmod x2 d.2.2.1.1)
  some ((), ((x3, ()), ()))))
def c_nist_modulo : List Nat := []
def L_nist_modulo (_ : Nat) : Pts po_nist_modulo.den := []
def E_nist_modulo : Env := E0
theorem q_nist_modulo_m (k : Nat) (d : Unit × ((Int × Unit) × ((Int × Unit) × Unit))) : evCode E_nist_modulo (tab (L_nist_modulo k)) c_nist_modulo (bodyOf Tryz.f65) 0 (finK E_nist_modulo po_nist_modulo [.tmp 4]) (startSt pi_nist_modulo 12 d) = f_nist_modulo_m () d := by kernel_rfl
def g_nist_modulo (d : Unit × ((Int × Unit) × ((Int × Unit) × Unit))) : Option (Unit × ((Int × Unit) × Unit)) := f_nist_modulo_m () d
theorem ok_nist_modulo : FnOk Tryz.prog ET0 65 pi_nist_modulo po_nist_modulo g_nist_modulo :=
  fn_of_body (E := E_nist_modulo) e0_ok (fn := Tryz.f65) Tryz.func65 (by kernel_rfl) (by kernel_rfl) [.tmp 4] (by kernel_rfl) (by kernel_rfl) (by decide) rfl c_nist_modulo L_nist_modulo
    (by intro x hx; cases hx) (by intro k x hx; cases hx) (fun d out h => ⟨0, (q_nist_modulo_m 0 d).trans h⟩)

/- horologe/nist.mark -/
@[reducible] def pi_nist_mark : PSh := ⟨[], [.mk false [.v .bool]]⟩
@[reducible] def po_nist_mark : PSh := ⟨[], [.mk false [.v .str]]⟩
def f_nist_mark_m (T : Unit) (d : Unit × ((Bool × Unit) × Unit)) : Option (Unit × ((ByteArray × Unit) × Unit)) :=
  bif d.2.1.1 then (
  some ((), (((⟨#[35]⟩ : ByteArray), ()), ())))
  else (
  some ((), (((⟨#[42]⟩ : ByteArray), ()), ())))
def c_nist_mark : List Nat := []
def L_nist_mark (_ : Nat) : Pts po_nist_mark.den := []
def E_nist_mark : Env := E0
theorem q_nist_mark_m (k : Nat) (d : Unit × ((Bool × Unit) × Unit)) : evCode E_nist_mark (tab (L_nist_mark k)) c_nist_mark (bodyOf Tryz.f67) 0 (finK E_nist_mark po_nist_mark [.tmp 2]) (startSt pi_nist_mark 4 d) = f_nist_mark_m () d := by kernel_rfl
def g_nist_mark (d : Unit × ((Bool × Unit) × Unit)) : Option (Unit × ((ByteArray × Unit) × Unit)) := f_nist_mark_m () d
theorem ok_nist_mark : FnOk Tryz.prog ET0 67 pi_nist_mark po_nist_mark g_nist_mark :=
  fn_of_body (E := E_nist_mark) e0_ok (fn := Tryz.f67) Tryz.func67 (by kernel_rfl) (by kernel_rfl) [.tmp 2] (by kernel_rfl) (by kernel_rfl) (by decide) rfl c_nist_mark L_nist_mark
    (by intro x hx; cases hx) (by intro k x hx; cases hx) (fun d out h => ⟨0, (q_nist_mark_m 0 d).trans h⟩)

/- (*horologe/nist.writer).text -/
@[reducible] def pi_nist_writer_text_io : PSh := ⟨[.var 120 [.osl 1, .v .err], .row 5 (.int .u8)], [.mk false [.ref 0 0], .mk false [.v .str], .mk false [.v .err]]⟩
@[reducible] def po_nist_writer_text_io : PSh := ⟨[.var 120 [.osl 1, .v .err], .row 5 (.int .u8)], [.mk false [.ref 0 0]]⟩
def f_nist_writer_text_io_m (T : Unit) (d : (((Option Int) × Unit) × ((List Int) × Unit)) × (Unit × ((ByteArray × Unit) × (((Option Int) × Unit) × Unit)))) : Option ((((Option Int) × Unit) × ((List Int) × Unit)) × (Unit × Unit)) :=
  let x1 : Bool := (!d.2.2.2.1.1.isNone)
  bif x1 then (
  bif decide (((d.1.2.1.length + (bytesOf d.2.2.1.1).length) * 1 : Nat) ≤ 140737488355328) && decide (d.1.2.1.length + (bytesOf d.2.2.1.1).length ≤ 9223372036854775807) then (
  let x2 : (List Int) := (d.1.2.1 ++ (bytesOf d.2.2.1.1))
  some (((d.2.2.2.1.1, ()), (x2, ())), ((), ())))
  else none)
  else (
  bif decide (((d.1.2.1.length + (bytesOf d.2.2.1.1).length) * 1 : Nat) ≤ 140737488355328) && decide (d.1.2.1.length + (bytesOf d.2.2.1.1).length ≤ 9223372036854775807) then (
  let x3 : (List Int) := (d.1.2.1 ++ (bytesOf d.2.2.1.1))
  some (((d.1.1.1, ()), (x3, ())), ((), ())))
  else none)
def c_nist_writer_text_io : List Nat := []
def L_nist_writer_text_io (_ : Nat) : Pts po_nist_writer_text_io.den := []
def E_nist_writer_text_io : Env := (E0.kp [0])
theorem q_nist_writer_text_io_m (k : Nat) (d : (((Option Int) × Unit) × ((List Int) × Unit)) × (Unit × ((ByteArray × Unit) × (((Option Int) × Unit) × Unit)))) : evCode E_nist_writer_text_io (tab (L_nist_writer_text_io k)) c_nist_writer_text_io (bodyOf Tryz.f62) 0 (finKio E_nist_writer_text_io po_nist_writer_text_io [] [(0, none)]) (startSt pi_nist_writer_text_io 21 d) = f_nist_writer_text_io_m () d := by kernel_rfl
def g_nist_writer_text_io (d : (((Option Int) × Unit) × ((List Int) × Unit)) × (Unit × ((ByteArray × Unit) × (((Option Int) × Unit) × Unit)))) : Option ((((Option Int) × Unit) × ((List Int) × Unit)) × (Unit × Unit)) := f_nist_writer_text_io_m () d
theorem ok_nist_writer_text_io : FnIo Tryz.prog ET0 62 pi_nist_writer_text_io po_nist_writer_text_io 0 [(0, 0, none)] g_nist_writer_text_io :=
  fn_of_bodyIo (E := E_nist_writer_text_io) (envOk_kp e0_ok) (fn := Tryz.f62) Tryz.func62 (by kernel_rfl) (by kernel_rfl) [] [(0, none)] [(0, 0, none)] (by kernel_rfl) (by kernel_rfl) (by kernel_rfl) (by kernel_rfl) (by decide) (by decide) c_nist_writer_text_io L_nist_writer_text_io
    (by intro x hx; cases hx) (by intro k x hx; cases hx) (fun d out h => ⟨0, (q_nist_writer_text_io_m 0 d).trans h⟩)

/- (*horologe/nist.writer).put -/
@[reducible] def pi_nist_writer_put_io : PSh := ⟨[.var 120 [.osl 1, .v .err], .row 5 (.int .u8)], [.mk false [.ref 0 0], .mk false [.v .str], .mk false [.v (.int .i64)], .mk false [.v (.int .i64)]]⟩
@[reducible] def po_nist_writer_put_io : PSh := ⟨[.var 120 [.osl 1, .v .err], .row 5 (.int .u8)], [.mk false [.ref 0 0]]⟩
def f_nist_writer_put_io_m (T : Unit) (d : (((Option Int) × Unit) × ((List Int) × Unit)) × (Unit × ((ByteArray × Unit) × ((Int × Unit) × ((Int × Unit) × Unit))))) : Option ((((Option Int) × Unit) × ((List Int) × Unit)) × (Unit × Unit)) :=
  (g_nist_writer_text_io (((d.1.1.1, ()), (d.1.2.1, ())), ((), ((d.2.2.1.1, ()), (((none : Option Int), ()), ()))))).bind fun x1 =>
  (g_figures_Put ((), ((d.2.2.2.1.1, ()), ((d.2.2.2.2.1.1, ()), ())))).bind fun x2 =>
  (g_nist_writer_text_io (((x1.1.1.1, ()), (x1.1.2.1, ())), ((), ((x2.2.1.1, ()), ((x2.2.2.1.1, ()), ()))))).bind fun x3 =>
  some (((x3.1.1.1, ()), (x3.1.2.1, ())), ((), ()))
def c_nist_writer_put_io : List Nat := []
def L_nist_writer_put_io (_ : Nat) : Pts po_nist_writer_put_io.den := []
def E_nist_writer_put_io : Env := (((E0.add 62 (ioSem pi_nist_writer_text_io po_nist_writer_text_io 0 [(0, 0, none)] g_nist_writer_text_io)).add 71 (typedSem pi_figures_Put po_figures_Put g_figures_Put)).kp [0])
theorem q_nist_writer_put_io_m (k : Nat) (d : (((Option Int) × Unit) × ((List Int) × Unit)) × (Unit × ((ByteArray × Unit) × ((Int × Unit) × ((Int × Unit) × Unit))))) : evCode E_nist_writer_put_io (tab (L_nist_writer_put_io k)) c_nist_writer_put_io (bodyOf Tryz.f64) 0 (finKio E_nist_writer_put_io po_nist_writer_put_io [] [(0, none)]) (startSt pi_nist_writer_put_io 18 d) = f_nist_writer_put_io_m () d := by kernel_rfl
def g_nist_writer_put_io (d : (((Option Int) × Unit) × ((List Int) × Unit)) × (Unit × ((ByteArray × Unit) × ((Int × Unit) × ((Int × Unit) × Unit))))) : Option ((((Option Int) × Unit) × ((List Int) × Unit)) × (Unit × Unit)) := f_nist_writer_put_io_m () d
theorem ok_nist_writer_put_io : FnIo Tryz.prog ET0 64 pi_nist_writer_put_io po_nist_writer_put_io 0 [(0, 0, none)] g_nist_writer_put_io :=
  fn_of_bodyIo (E := E_nist_writer_put_io) (envOk_kp (envOk_add (envOk_add e0_ok (io_ok ok_nist_writer_text_io)) (typed_ok ok_figures_Put))) (fn := Tryz.f64) Tryz.func64 (by kernel_rfl) (by kernel_rfl) [] [(0, none)] [(0, 0, none)] (by kernel_rfl) (by kernel_rfl) (by kernel_rfl) (by kernel_rfl) (by decide) (by decide) c_nist_writer_put_io L_nist_writer_put_io
    (by intro x hx; cases hx) (by intro k x hx; cases hx) (fun d out h => ⟨0, (q_nist_writer_put_io_m 0 d).trans h⟩)

/- (*horologe/nist.writer).advance -/
@[reducible] def pi_nist_writer_advance_io : PSh := ⟨[.var 120 [.osl 1, .v .err], .row 5 (.int .u8)], [.mk false [.ref 0 0], .mk false [.v (.int .i64)]]⟩
@[reducible] def po_nist_writer_advance_io : PSh := ⟨[.var 120 [.osl 1, .v .err], .row 5 (.int .u8)], [.mk false [.ref 0 0]]⟩
def f_nist_writer_advance_io_m (T : Unit) (d : (((Option Int) × Unit) × ((List Int) × Unit)) × (Unit × ((Int × Unit) × Unit))) : Option ((((Option Int) × Unit) × ((List Int) × Unit)) × (Unit × Unit)) :=
  let x1 : Int := (iquo .i64 d.2.2.1.1 (10 : Int))
  (g_figures_Put ((), ((x1, ()), (((1 : Int), ()), ())))).bind fun x2 =>
  let x3 : Int := (x2.2.1.1.size : Int)
  let x4 : Int := (isub .i64 (3 : Int) x3)
  let x5 : Int := (if (0 : Int) > x4 then (0 : Int) else x4)
  (g_strings_Repeat ((), (((⟨#[32]⟩ : ByteArray), ()), ((x5, ()), ())))).bind fun x6 =>
  bif fitsS x6.2.1.1 x2.2.1.1 then (
  let x7 : ByteArray := (x6.2.1.1 ++ x2.2.1.1)
  (g_nist_writer_text_io (((d.1.1.1, ()), (d.1.2.1, ())), ((), ((x7, ()), ((x2.2.2.1.1, ()), ()))))).bind fun x8 =>
  let x9 : Int := (Int.tmod d.2.2.1.1 (10 : Int))
  (g_nist_writer_put_io (((x8.1.1.1, ()), (x8.1.2.1, ())), ((), (((⟨#[46]⟩ : ByteArray), ()), ((x9, ()), (((1 : Int), ()), ())))))).bind fun x10 =>
  some (((x10.1.1.1, ()), (x10.1.2.1, ())), ((), ())))
  else none
def c_nist_writer_advance_io : List Nat := []
def L_nist_writer_advance_io (_ : Nat) : Pts po_nist_writer_advance_io.den := []
def E_nist_writer_advance_io : Env := (((((E0.add 62 (ioSem pi_nist_writer_text_io po_nist_writer_text_io 0 [(0, 0, none)] g_nist_writer_text_io)).add 64 (ioSem pi_nist_writer_put_io po_nist_writer_put_io 0 [(0, 0, none)] g_nist_writer_put_io)).add 71 (typedSem pi_figures_Put po_figures_Put g_figures_Put)).add 121 (typedSem pi_strings_Repeat po_strings_Repeat g_strings_Repeat)).kp [0])
theorem q_nist_writer_advance_io_m (k : Nat) (d : (((Option Int) × Unit) × ((List Int) × Unit)) × (Unit × ((Int × Unit) × Unit))) : evCode E_nist_writer_advance_io (tab (L_nist_writer_advance_io k)) c_nist_writer_advance_io (bodyOf Tryz.f66) 0 (finKio E_nist_writer_advance_io po_nist_writer_advance_io [] [(0, none)]) (startSt pi_nist_writer_advance_io 26 d) = f_nist_writer_advance_io_m () d := by kernel_rfl
def g_nist_writer_advance_io (d : (((Option Int) × Unit) × ((List Int) × Unit)) × (Unit × ((Int × Unit) × Unit))) : Option ((((Option Int) × Unit) × ((List Int) × Unit)) × (Unit × Unit)) := f_nist_writer_advance_io_m () d
theorem ok_nist_writer_advance_io : FnIo Tryz.prog ET0 66 pi_nist_writer_advance_io po_nist_writer_advance_io 0 [(0, 0, none)] g_nist_writer_advance_io :=
  fn_of_bodyIo (E := E_nist_writer_advance_io) (envOk_kp (envOk_add (envOk_add (envOk_add (envOk_add e0_ok (io_ok ok_nist_writer_text_io)) (io_ok ok_nist_writer_put_io)) (typed_ok ok_figures_Put)) (typed_ok ok_strings_Repeat))) (fn := Tryz.f66) Tryz.func66 (by kernel_rfl) (by kernel_rfl) [] [(0, none)] [(0, 0, none)] (by kernel_rfl) (by kernel_rfl) (by kernel_rfl) (by kernel_rfl) (by decide) (by decide) c_nist_writer_advance_io L_nist_writer_advance_io
    (by intro x hx; cases hx) (by intro k x hx; cases hx) (fun d out h => ⟨0, (q_nist_writer_advance_io_m 0 d).trans h⟩)

/- horologe/nist.Put -/
@[reducible] def pi_nist_Put : PSh := ⟨[], [.mk true [.v (.int .i64), .v (.int .i64), .v (.int .i64), .v (.int .i64), .v (.int .i64), .v (.int .i64), .v .bool]]⟩
@[reducible] def po_nist_Put : PSh := ⟨[], [.mk false [.v .str], .mk false [.v .err]]⟩
def f_nist_Put_m (T : Unit) (d : Unit × ((Int × (Int × (Int × (Int × (Int × (Int × (Bool × Unit))))))) × Unit)) : Option (Unit × ((ByteArray × Unit) × (((Option Int) × Unit) × Unit))) :=
  (g_nist_Check ((), ((d.2.1.1, (d.2.1.2.1, (d.2.1.2.2.1, (d.2.1.2.2.2.1, (d.2.1.2.2.2.2.1, (d.2.1.2.2.2.2.2.1, (d.2.1.2.2.2.2.2.2.1, ()))))))), ()))).bind fun x1 =>
  let x2 : Bool := (!x1.2.1.1.isNone)
  bif x2 then (
  some ((), (((⟨#[]⟩ : ByteArray), ()), ((x1.2.1.1, ()), ()))))
  else (
  (g_day_Date ((), ((d.2.1.1, ()), ()))).bind fun x3 =>
  let x4 : Bool := (!x3.2.2.2.2.1.1.isNone)
  bif x4 then (
  some ((), (((⟨#[]⟩ : ByteArray), ()), ((x3.2.2.2.2.1.1, ()), ()))))
  else (
  (g_label_Clock ((), ((d.2.1.2.1, ()), ()))).bind fun x5 =>
  let x6 : Bool := (!x5.2.2.2.2.1.1.isNone)
  bif x6 then (
  some ((), (((⟨#[]⟩ : ByteArray), ()), ((x5.2.2.2.2.1.1, ()), ()))))
  else (
  (g_nist_writer_text_io ((((none : Option Int), ()), (([] : List Int), ())), ((), (((⟨#[10]⟩ : ByteArray), ()), (((none : Option Int), ()), ()))))).bind fun x7 =>
  (g_mjd_Five ((), ((d.2.1.1, ()), ()))).bind fun x8 =>
  (g_nist_writer_text_io (((x7.1.1.1, ()), (x7.1.2.1, ())), ((), ((x8.2.1.1, ()), ((x8.2.2.1.1, ()), ()))))).bind fun x9 =>
  (g_nist_modulo ((), ((x3.2.1.1, ()), (((100 : Int), ()), ())))).bind fun x10 =>
  (g_nist_writer_put_io (((x9.1.1.1, ()), (x9.1.2.1, ())), ((), (((⟨#[32]⟩ : ByteArray), ()), ((x10.2.1.1, ()), (((2 : Int), ()), ())))))).bind fun x11 =>
  (g_nist_writer_put_io (((x11.1.1.1, ()), (x11.1.2.1, ())), ((), (((⟨#[45]⟩ : ByteArray), ()), ((x3.2.2.1.1, ()), (((2 : Int), ()), ())))))).bind fun x12 =>
  (g_nist_writer_put_io (((x12.1.1.1, ()), (x12.1.2.1, ())), ((), (((⟨#[45]⟩ : ByteArray), ()), ((x3.2.2.2.1.1, ()), (((2 : Int), ()), ())))))).bind fun x13 =>
  (g_nist_writer_put_io (((x13.1.1.1, ()), (x13.1.2.1, ())), ((), (((⟨#[32]⟩ : ByteArray), ()), ((x5.2.1.1, ()), (((2 : Int), ()), ())))))).bind fun x14 =>
  (g_nist_writer_put_io (((x14.1.1.1, ()), (x14.1.2.1, ())), ((), (((⟨#[58]⟩ : ByteArray), ()), ((x5.2.2.1.1, ()), (((2 : Int), ()), ())))))).bind fun x15 =>
  (g_nist_writer_put_io (((x15.1.1.1, ()), (x15.1.2.1, ())), ((), (((⟨#[58]⟩ : ByteArray), ()), ((x5.2.2.2.1.1, ()), (((2 : Int), ()), ())))))).bind fun x16 =>
  (g_nist_writer_put_io (((x16.1.1.1, ()), (x16.1.2.1, ())), ((), (((⟨#[32]⟩ : ByteArray), ()), ((d.2.1.2.2.1, ()), (((2 : Int), ()), ())))))).bind fun x17 =>
  (g_nist_writer_put_io (((x17.1.1.1, ()), (x17.1.2.1, ())), ((), (((⟨#[32]⟩ : ByteArray), ()), ((d.2.1.2.2.2.1, ()), (((1 : Int), ()), ())))))).bind fun x18 =>
  (g_nist_writer_put_io (((x18.1.1.1, ()), (x18.1.2.1, ())), ((), (((⟨#[32]⟩ : ByteArray), ()), ((d.2.1.2.2.2.2.1, ()), (((1 : Int), ()), ())))))).bind fun x19 =>
  (g_nist_writer_text_io (((x19.1.1.1, ()), (x19.1.2.1, ())), ((), (((⟨#[32]⟩ : ByteArray), ()), (((none : Option Int), ()), ()))))).bind fun x20 =>
  (g_nist_writer_advance_io (((x20.1.1.1, ()), (x20.1.2.1, ())), ((), ((d.2.1.2.2.2.2.2.1, ()), ())))).bind fun x21 =>
  (g_nist_mark ((), ((d.2.1.2.2.2.2.2.2.1, ()), ()))).bind fun x22 =>
  bif fitsS (⟨#[32, 85, 84, 67, 40, 78, 73, 83, 84, 41, 32]⟩ : ByteArray) x22.2.1.1 then (
  let x23 : ByteArray := ((⟨#[32, 85, 84, 67, 40, 78, 73, 83, 84, 41, 32]⟩ : ByteArray) ++ x22.2.1.1)
  bif fitsS x23 (⟨#[10]⟩ : ByteArray) then (
  let x24 : ByteArray := (x23 ++ (⟨#[10]⟩ : ByteArray))
  (g_nist_writer_text_io (((x21.1.1.1, ()), (x21.1.2.1, ())), ((), ((x24, ()), (((none : Option Int), ()), ()))))).bind fun x25 =>
  let x26 : ByteArray := (strOf x25.1.2.1)
  some ((), ((x26, ()), ((x25.1.1.1, ()), ()))))
  else none)
  else none)))
def c_nist_Put : List Nat := []
def L_nist_Put (_ : Nat) : Pts po_nist_Put.den := []
def E_nist_Put : Env := (((((((((E0.add 59 (typedSem pi_nist_Check po_nist_Check g_nist_Check)).add 60 (typedSem pi_day_Date po_day_Date g_day_Date)).add 61 (typedSem pi_label_Clock po_label_Clock g_label_Clock)).add 62 (ioSem pi_nist_writer_text_io po_nist_writer_text_io 0 [(0, 0, none)] g_nist_writer_text_io)).add 63 (typedSem pi_mjd_Five po_mjd_Five g_mjd_Five)).add 64 (ioSem pi_nist_writer_put_io po_nist_writer_put_io 0 [(0, 0, none)] g_nist_writer_put_io)).add 65 (typedSem pi_nist_modulo po_nist_modulo g_nist_modulo)).add 66 (ioSem pi_nist_writer_advance_io po_nist_writer_advance_io 0 [(0, 0, none)] g_nist_writer_advance_io)).add 67 (typedSem pi_nist_mark po_nist_mark g_nist_mark))
theorem q_nist_Put_m (k : Nat) (d : Unit × ((Int × (Int × (Int × (Int × (Int × (Int × (Bool × Unit))))))) × Unit)) : evCode E_nist_Put (tab (L_nist_Put k)) c_nist_Put (bodyOf Tryz.f21) 0 (finK E_nist_Put po_nist_Put [.tmp 2, .tmp 3]) (startSt pi_nist_Put 84 d) = f_nist_Put_m () d := by kernel_rfl
def g_nist_Put (d : Unit × ((Int × (Int × (Int × (Int × (Int × (Int × (Bool × Unit))))))) × Unit)) : Option (Unit × ((ByteArray × Unit) × (((Option Int) × Unit) × Unit))) := f_nist_Put_m () d
theorem ok_nist_Put : FnOk Tryz.prog ET0 21 pi_nist_Put po_nist_Put g_nist_Put :=
  fn_of_body (E := E_nist_Put) (envOk_add (envOk_add (envOk_add (envOk_add (envOk_add (envOk_add (envOk_add (envOk_add (envOk_add e0_ok (typed_ok ok_nist_Check)) (typed_ok ok_day_Date)) (typed_ok ok_label_Clock)) (io_ok ok_nist_writer_text_io)) (typed_ok ok_mjd_Five)) (io_ok ok_nist_writer_put_io)) (typed_ok ok_nist_modulo)) (io_ok ok_nist_writer_advance_io)) (typed_ok ok_nist_mark)) (fn := Tryz.f21) Tryz.func21 (by kernel_rfl) (by kernel_rfl) [.tmp 2, .tmp 3] (by kernel_rfl) (by kernel_rfl) (by decide) rfl c_nist_Put L_nist_Put
    (by intro x hx; cases hx) (by intro k x hx; cases hx) (fun d out h => ⟨0, (q_nist_Put_m 0 d).trans h⟩)

/- horologe/horologelaw26.alive -/
@[reducible] def pi_law26_alive : PSh := ⟨[], []⟩
@[reducible] def po_law26_alive : PSh := ⟨[], [.mk false [.v .bool]]⟩
def f_law26_alive_m (T : Unit) (d : Unit × Unit) : Option (Unit × ((Bool × Unit) × Unit)) :=
  (g_nist_Put ((), (((20005 : Int), ((40333 : Int), ((50 : Int), ((0 : Int), ((0 : Int), ((500 : Int), (false, ()))))))), ()))).bind fun x1 =>
  bif x1.2.2.1.1.isNone then (
  let x2 : Bool := (x1.2.1.1.toList == (⟨#[10, 54, 48, 53, 57, 50, 32, 50, 52, 45, 49, 48, 45, 48, 57, 32, 49, 49, 58, 49, 50, 58, 49, 51, 32, 53, 48, 32, 48, 32, 48, 32, 32, 53, 48, 46, 48, 32, 85, 84, 67, 40, 78, 73, 83, 84, 41, 32, 42, 10]⟩ : ByteArray).toList)
  some ((), ((x2, ()), ())))
  else (
  some ((), ((false, ()), ())))
def c_law26_alive : List Nat := []
def L_law26_alive (_ : Nat) : Pts po_law26_alive.den := []
def E_law26_alive : Env := (E0.add 21 (typedSem pi_nist_Put po_nist_Put g_nist_Put))
theorem q_law26_alive_m (k : Nat) (d : Unit × Unit) : evCode E_law26_alive (tab (L_law26_alive k)) c_law26_alive (bodyOf Tryz.f5) 0 (finK E_law26_alive po_law26_alive [.tmp 0]) (startSt pi_law26_alive 14 d) = f_law26_alive_m () d := by kernel_rfl
def g_law26_alive (d : Unit × Unit) : Option (Unit × ((Bool × Unit) × Unit)) := f_law26_alive_m () d
theorem ok_law26_alive : FnOk Tryz.prog ET0 5 pi_law26_alive po_law26_alive g_law26_alive :=
  fn_of_body (E := E_law26_alive) (envOk_add e0_ok (typed_ok ok_nist_Put)) (fn := Tryz.f5) Tryz.func5 (by kernel_rfl) (by kernel_rfl) [.tmp 0] (by kernel_rfl) (by kernel_rfl) (by decide) rfl c_law26_alive L_law26_alive
    (by intro x hx; cases hx) (by intro k x hx; cases hx) (fun d out h => ⟨0, (q_law26_alive_m 0 d).trans h⟩)

/- horologe/horologelaw10.Long -/
@[reducible] def pi_law10_Long : PSh := ⟨[], [.mk true [.v (.sl (.pair (.int .i64) (.int .i64))), .v (.int .i64), .v (.int .i64)]]⟩
@[reducible] def po_law10_Long : PSh := ⟨[], [.mk false [.v .bool]]⟩
def f_law10_Long_m (T : Unit) (d : Unit × (((List (Int × Int)) × (Int × (Int × Unit))) × Unit)) : Option (Unit × ((Bool × Unit) × Unit)) :=
  let x1 : Int := (d.2.1.1.length : Int)
  let x2 : Bool := (decide (x1 > (296 : Int)))
  some ((), ((x2, ()), ()))
def c_law10_Long : List Nat := []
def L_law10_Long (_ : Nat) : Pts po_law10_Long.den := []
def E_law10_Long : Env := E0
theorem q_law10_Long_m (k : Nat) (d : Unit × (((List (Int × Int)) × (Int × (Int × Unit))) × Unit)) : evCode E_law10_Long (tab (L_law10_Long k)) c_law10_Long (bodyOf Tryz.f6) 0 (finK E_law10_Long po_law10_Long [.tmp 2]) (startSt pi_law10_Long 7 d) = f_law10_Long_m () d := by kernel_rfl
def g_law10_Long (d : Unit × (((List (Int × Int)) × (Int × (Int × Unit))) × Unit)) : Option (Unit × ((Bool × Unit) × Unit)) := f_law10_Long_m () d
theorem ok_law10_Long : FnOk Tryz.prog ET0 6 pi_law10_Long po_law10_Long g_law10_Long :=
  fn_of_body (E := E_law10_Long) e0_ok (fn := Tryz.f6) Tryz.func6 (by kernel_rfl) (by kernel_rfl) [.tmp 2] (by kernel_rfl) (by kernel_rfl) (by decide) rfl c_law10_Long L_law10_Long
    (by intro x hx; cases hx) (by intro k x hx; cases hx) (fun d out h => ⟨0, (q_law10_Long_m 0 d).trans h⟩)

/- horologe/scan.New[string] -/
@[reducible] def pi_scan_New_string : PSh := ⟨[], [.mk false [.v .str]]⟩
@[reducible] def po_scan_New_string : PSh := ⟨[.var 128 [.v .str, .v (.int .i64), .v .err]], [.mk false [.ref 0 0]]⟩
def f_scan_New_string_m (T : Unit) (d : Unit × ((ByteArray × Unit) × Unit)) : Option (((ByteArray × (Int × ((Option Int) × Unit))) × Unit) × (Unit × Unit)) :=
  some (((d.2.1.1, ((0 : Int), ((none : Option Int), ()))), ()), ((), ()))
def c_scan_New_string : List Nat := []
def L_scan_New_string (_ : Nat) : Pts po_scan_New_string.den := []
def E_scan_New_string : Env := E0
theorem q_scan_New_string_m (k : Nat) (d : Unit × ((ByteArray × Unit) × Unit)) : evCode E_scan_New_string (tab (L_scan_New_string k)) c_scan_New_string (bodyOf Tryz.f22) 0 (finK E_scan_New_string po_scan_New_string [.tmp 2]) (startSt pi_scan_New_string 6 d) = f_scan_New_string_m () d := by kernel_rfl
def g_scan_New_string (d : Unit × ((ByteArray × Unit) × Unit)) : Option (((ByteArray × (Int × ((Option Int) × Unit))) × Unit) × (Unit × Unit)) := f_scan_New_string_m () d
theorem ok_scan_New_string : FnOk Tryz.prog ET0 22 pi_scan_New_string po_scan_New_string g_scan_New_string :=
  fn_of_body (E := E_scan_New_string) e0_ok (fn := Tryz.f22) Tryz.func22 (by kernel_rfl) (by kernel_rfl) [.tmp 2] (by kernel_rfl) (by kernel_rfl) (by decide) rfl c_scan_New_string L_scan_New_string
    (by intro x hx; cases hx) (by intro k x hx; cases hx) (fun d out h => ⟨0, (q_scan_New_string_m 0 d).trans h⟩)

/- (*horologe/scan.Scanner[string]).rest -/
@[reducible] def pi_scan_Scanner_string_rest : PSh := ⟨[], [.mk false [.v (.nptr (.pair .str (.pair (.int .i64) .err)))]]⟩
@[reducible] def po_scan_Scanner_string_rest : PSh := ⟨[], [.mk false [.v .str]]⟩
def f_scan_Scanner_string_rest_m (T : Unit) (d : Unit × (((Option (ByteArray × (Int × (Option Int)))) × Unit) × Unit)) : Option (Unit × ((ByteArray × Unit) × Unit)) :=
  bif d.2.1.1.isNone then (
  some ((), (((⟨#[]⟩ : ByteArray), ()), ())))
  else (
  d.2.1.1.bind fun x1 =>
  let x2 : Bool := (!x1.2.2.isNone)
  bif x2 then (
  some ((), (((⟨#[]⟩ : ByteArray), ()), ())))
  else (
  d.2.1.1.bind fun x3 =>
  d.2.1.1.bind fun x4 =>
  bif decide ((0 : Int) ≤ x4.2.1) && decide (x4.2.1 ≤ (x3.1.size : Int)) && decide ((x3.1.size : Int) ≤ (x3.1.size : Int)) then (
  let x5 : ByteArray := (x3.1.extract (Int.toNat x4.2.1) (Int.toNat (x3.1.size : Int)))
  some ((), ((x5, ()), ())))
  else none))
def c_scan_Scanner_string_rest : List Nat := []
def L_scan_Scanner_string_rest (_ : Nat) : Pts po_scan_Scanner_string_rest.den := []
def E_scan_Scanner_string_rest : Env := E0
theorem q_scan_Scanner_string_rest_m (k : Nat) (d : Unit × (((Option (ByteArray × (Int × (Option Int)))) × Unit) × Unit)) : evCode E_scan_Scanner_string_rest (tab (L_scan_Scanner_string_rest k)) c_scan_Scanner_string_rest (bodyOf Tryz.f123) 0 (finK E_scan_Scanner_string_rest po_scan_Scanner_string_rest [.tmp 2]) (startSt pi_scan_Scanner_string_rest 21 d) = f_scan_Scanner_string_rest_m () d := by kernel_rfl
def g_scan_Scanner_string_rest (d : Unit × (((Option (ByteArray × (Int × (Option Int)))) × Unit) × Unit)) : Option (Unit × ((ByteArray × Unit) × Unit)) := f_scan_Scanner_string_rest_m () d
theorem ok_scan_Scanner_string_rest : FnOk Tryz.prog ET0 123 pi_scan_Scanner_string_rest po_scan_Scanner_string_rest g_scan_Scanner_string_rest :=
  fn_of_body (E := E_scan_Scanner_string_rest) e0_ok (fn := Tryz.f123) Tryz.func123 (by kernel_rfl) (by kernel_rfl) [.tmp 2] (by kernel_rfl) (by kernel_rfl) (by decide) rfl c_scan_Scanner_string_rest L_scan_Scanner_string_rest
    (by intro x hx; cases hx) (by intro k x hx; cases hx) (fun d out h => ⟨0, (q_scan_Scanner_string_rest_m 0 d).trans h⟩)

/- (*horologe/scan.Scanner[string]).Peek -/
@[reducible] def pi_scan_Scanner_string_Peek : PSh := ⟨[], [.mk false [.v (.nptr (.pair .str (.pair (.int .i64) .err)))]]⟩
@[reducible] def po_scan_Scanner_string_Peek : PSh := ⟨[], [.mk false [.v (.int .u8)], .mk false [.v .bool]]⟩
def f_scan_Scanner_string_Peek_m (T : Unit) (d : Unit × (((Option (ByteArray × (Int × (Option Int)))) × Unit) × Unit)) : Option (Unit × ((Int × Unit) × ((Bool × Unit) × Unit))) :=
  (g_scan_Scanner_string_rest ((), ((d.2.1.1, ()), ()))).bind fun x1 =>
  let x2 : Bool := (x1.2.1.1.toList == (⟨#[]⟩ : ByteArray).toList)
  bif x2 then (
  some ((), (((0 : Int), ()), ((false, ()), ()))))
  else (
  bif decide ((0 : Int) ≤ (0 : Int)) && decide ((0 : Int) < ((x1.2.1.1.size : Int) : Int)) then (
  let x3 : Int := (bt x1.2.1.1 (0 : Int))
  some ((), ((x3, ()), ((true, ()), ()))))
  else none)
def c_scan_Scanner_string_Peek : List Nat := []
def L_scan_Scanner_string_Peek (_ : Nat) : Pts po_scan_Scanner_string_Peek.den := []
def E_scan_Scanner_string_Peek : Env := (E0.add 123 (typedSem pi_scan_Scanner_string_rest po_scan_Scanner_string_rest g_scan_Scanner_string_rest))
theorem q_scan_Scanner_string_Peek_m (k : Nat) (d : Unit × (((Option (ByteArray × (Int × (Option Int)))) × Unit) × Unit)) : evCode E_scan_Scanner_string_Peek (tab (L_scan_Scanner_string_Peek k)) c_scan_Scanner_string_Peek (bodyOf Tryz.f72) 0 (finK E_scan_Scanner_string_Peek po_scan_Scanner_string_Peek [.tmp 2, .tmp 3]) (startSt pi_scan_Scanner_string_Peek 11 d) = f_scan_Scanner_string_Peek_m () d := by kernel_rfl
def g_scan_Scanner_string_Peek (d : Unit × (((Option (ByteArray × (Int × (Option Int)))) × Unit) × Unit)) : Option (Unit × ((Int × Unit) × ((Bool × Unit) × Unit))) := f_scan_Scanner_string_Peek_m () d
theorem ok_scan_Scanner_string_Peek : FnOk Tryz.prog ET0 72 pi_scan_Scanner_string_Peek po_scan_Scanner_string_Peek g_scan_Scanner_string_Peek :=
  fn_of_body (E := E_scan_Scanner_string_Peek) (envOk_add e0_ok (typed_ok ok_scan_Scanner_string_rest)) (fn := Tryz.f72) Tryz.func72 (by kernel_rfl) (by kernel_rfl) [.tmp 2, .tmp 3] (by kernel_rfl) (by kernel_rfl) (by decide) rfl c_scan_Scanner_string_Peek L_scan_Scanner_string_Peek
    (by intro x hx; cases hx) (by intro k x hx; cases hx) (fun d out h => ⟨0, (q_scan_Scanner_string_Peek_m 0 d).trans h⟩)

/- strings.Clone -/
@[reducible] def pi_strings_Clone : PSh := ⟨[], [.mk false [.v .str]]⟩
@[reducible] def po_strings_Clone : PSh := ⟨[], [.mk false [.v .str]]⟩
def f_strings_Clone_m (T : Unit) (d : Unit × ((ByteArray × Unit) × Unit)) : Option (Unit × ((ByteArray × Unit) × Unit)) :=
  (g_internal_stringslite_Clone ((), ((d.2.1.1, ()), ()))).bind fun x1 =>
  some ((), ((x1.2.1.1, ()), ()))
def c_strings_Clone : List Nat := []
def L_strings_Clone (_ : Nat) : Pts po_strings_Clone.den := []
def E_strings_Clone : Env := (E0.add 154 (typedSem pi_internal_stringslite_Clone po_internal_stringslite_Clone g_internal_stringslite_Clone))
theorem q_strings_Clone_m (k : Nat) (d : Unit × ((ByteArray × Unit) × Unit)) : evCode E_strings_Clone (tab (L_strings_Clone k)) c_strings_Clone (bodyOf Tryz.f126) 0 (finK E_strings_Clone po_strings_Clone [.tmp 2]) (startSt pi_strings_Clone 5 d) = f_strings_Clone_m () d := by kernel_rfl
def g_strings_Clone (d : Unit × ((ByteArray × Unit) × Unit)) : Option (Unit × ((ByteArray × Unit) × Unit)) := f_strings_Clone_m () d
theorem ok_strings_Clone : FnOk Tryz.prog ET0 126 pi_strings_Clone po_strings_Clone g_strings_Clone :=
  fn_of_body (E := E_strings_Clone) (envOk_add e0_ok (typed_ok ok_internal_stringslite_Clone)) (fn := Tryz.f126) Tryz.func126 (by kernel_rfl) (by kernel_rfl) [.tmp 2] (by kernel_rfl) (by kernel_rfl) (by decide) rfl c_strings_Clone L_strings_Clone
    (by intro x hx; cases hx) (by intro k x hx; cases hx) (fun d out h => ⟨0, (q_strings_Clone_m 0 d).trans h⟩)

/- (*horologe/scan.Scanner[string]).going -/
@[reducible] def pi_scan_Scanner_string_going : PSh := ⟨[], [.mk false [.v (.nptr (.pair .str (.pair (.int .i64) .err)))]]⟩
@[reducible] def po_scan_Scanner_string_going : PSh := ⟨[], [.mk false [.v .bool]]⟩
def f_scan_Scanner_string_going_m (T : Unit) (d : Unit × (((Option (ByteArray × (Int × (Option Int)))) × Unit) × Unit)) : Option (Unit × ((Bool × Unit) × Unit)) :=
  let x1 : Bool := (!d.2.1.1.isNone)
  bif x1 then (
  d.2.1.1.bind fun x2 =>
  some ((), ((x2.2.2.isNone, ()), ())))
  else (
  some ((), ((false, ()), ())))
def c_scan_Scanner_string_going : List Nat := []
def L_scan_Scanner_string_going (_ : Nat) : Pts po_scan_Scanner_string_going.den := []
def E_scan_Scanner_string_going : Env := E0
theorem q_scan_Scanner_string_going_m (k : Nat) (d : Unit × (((Option (ByteArray × (Int × (Option Int)))) × Unit) × Unit)) : evCode E_scan_Scanner_string_going (tab (L_scan_Scanner_string_going k)) c_scan_Scanner_string_going (bodyOf Tryz.f97) 0 (finK E_scan_Scanner_string_going po_scan_Scanner_string_going [.tmp 2]) (startSt pi_scan_Scanner_string_going 12 d) = f_scan_Scanner_string_going_m () d := by kernel_rfl
def g_scan_Scanner_string_going (d : Unit × (((Option (ByteArray × (Int × (Option Int)))) × Unit) × Unit)) : Option (Unit × ((Bool × Unit) × Unit)) := f_scan_Scanner_string_going_m () d
theorem ok_scan_Scanner_string_going : FnOk Tryz.prog ET0 97 pi_scan_Scanner_string_going po_scan_Scanner_string_going g_scan_Scanner_string_going :=
  fn_of_body (E := E_scan_Scanner_string_going) e0_ok (fn := Tryz.f97) Tryz.func97 (by kernel_rfl) (by kernel_rfl) [.tmp 2] (by kernel_rfl) (by kernel_rfl) (by decide) rfl c_scan_Scanner_string_going L_scan_Scanner_string_going
    (by intro x hx; cases hx) (by intro k x hx; cases hx) (fun d out h => ⟨0, (q_scan_Scanner_string_going_m 0 d).trans h⟩)

/- horologe/figures.Is -/
@[reducible] def pi_figures_Is : PSh := ⟨[], [.mk false [.v (.int .u8)]]⟩
@[reducible] def po_figures_Is : PSh := ⟨[], [.mk false [.v .bool]]⟩
def f_figures_Is_m (T : Unit) (d : Unit × ((Int × Unit) × Unit)) : Option (Unit × ((Bool × Unit) × Unit)) :=
  let x1 : Bool := (decide (d.2.1.1 ≥ (48 : Int)))
  bif x1 then (
  let x2 : Bool := (decide (d.2.1.1 ≤ (57 : Int)))
  some ((), ((x2, ()), ())))
  else (
  some ((), ((false, ()), ())))
def c_figures_Is : List Nat := []
def L_figures_Is (_ : Nat) : Pts po_figures_Is.den := []
def E_figures_Is : Env := E0
theorem q_figures_Is_m (k : Nat) (d : Unit × ((Int × Unit) × Unit)) : evCode E_figures_Is (tab (L_figures_Is k)) c_figures_Is (bodyOf Tryz.f180) 0 (finK E_figures_Is po_figures_Is [.tmp 2]) (startSt pi_figures_Is 9 d) = f_figures_Is_m () d := by kernel_rfl
def g_figures_Is (d : Unit × ((Int × Unit) × Unit)) : Option (Unit × ((Bool × Unit) × Unit)) := f_figures_Is_m () d
theorem ok_figures_Is : FnOk Tryz.prog ET0 180 pi_figures_Is po_figures_Is g_figures_Is :=
  fn_of_body (E := E_figures_Is) e0_ok (fn := Tryz.f180) Tryz.func180 (by kernel_rfl) (by kernel_rfl) [.tmp 2] (by kernel_rfl) (by kernel_rfl) (by decide) rfl c_figures_Is L_figures_Is
    (by intro x hx; cases hx) (by intro k x hx; cases hx) (fun d out h => ⟨0, (q_figures_Is_m 0 d).trans h⟩)

/- horologe/figures.run -/
@[reducible] def pi_figures_run : PSh := ⟨[], [.mk false [.v .str], .mk false [.v (.int .i64)]]⟩
@[reducible] def po_figures_run : PSh := ⟨[], [.mk false [.v (.int .i64)]]⟩
@[reducible] def TT_figures_run : Type := (((Unit × ((ByteArray × Unit) × ((Int × Unit) × ((Int × Unit) × Unit)))) → Option (Unit × ((Int × Unit) × Unit))) × Unit)
@[reducible] def sh_figures_run_3 : PSh := ⟨[], [.mk false [.v .str], .mk false [.v (.int .i64)], .any, .any, .any, .mk false [.v (.int .i64)], .any, .any, .any, .any, .any, .any, .any, .any, .any, .any, .any, .any, .any, .any, .any]⟩
def f_figures_run_p3 (T : TT_figures_run) (d : Unit × ((ByteArray × Unit) × ((Int × Unit) × ((Int × Unit) × Unit)))) : Option (Unit × ((Int × Unit) × Unit)) :=
  let x1 : Int := (d.2.1.1.size : Int)
  let x2 : Int := (if d.2.2.1.1 < x1 then d.2.2.1.1 else x1)
  let x3 : Bool := (decide (d.2.2.2.1.1 < x2))
  bif x3 then (
  bif decide ((0 : Int) ≤ d.2.2.2.1.1) && decide (d.2.2.2.1.1 < ((d.2.1.1.size : Int) : Int)) then (
  let x4 : Int := (bt d.2.1.1 d.2.2.2.1.1)
  (g_figures_Is ((), ((x4, ()), ()))).bind fun x5 =>
  bif x5.2.1.1 then (
  let x6 : Int := (iadd .i64 d.2.2.2.1.1 (1 : Int))
  (T.1 ((), ((d.2.1.1, ()), ((d.2.2.1.1, ()), ((x6, ()), ()))))))
  else (
  some ((), ((d.2.2.2.1.1, ()), ()))))
  else none)
  else (
  some ((), ((d.2.2.2.1.1, ()), ())))
def f_figures_run_t : Nat → TT_figures_run
  | 0 => (fun _ => none, ())
  | k + 1 => (f_figures_run_p3 (f_figures_run_t k), ())
theorem t_figures_run (k : Nat) : f_figures_run_t (k + 1) = (f_figures_run_p3 (f_figures_run_t k), ()) := rfl
def f_figures_run_m (T : TT_figures_run) (d : Unit × ((ByteArray × Unit) × ((Int × Unit) × Unit))) : Option (Unit × ((Int × Unit) × Unit)) :=
  (T.1 ((), ((d.2.1.1, ()), ((d.2.2.1.1, ()), (((0 : Int), ()), ())))))
def c_figures_run : List Nat := []
def L_figures_run (k : Nat) : Pts po_figures_run.den := [(3, ⟨sh_figures_run_3, (f_figures_run_t k).1⟩)]
def E_figures_run : Env := (E0.add 180 (typedSem pi_figures_Is po_figures_Is g_figures_Is))
theorem q_figures_run_3 (k : Nat) (d : Unit × ((ByteArray × Unit) × ((Int × Unit) × ((Int × Unit) × Unit)))) : evAt E_figures_run (tab (L_figures_run k)) c_figures_run 3 (bodyOf Tryz.f168) 0 (finK E_figures_run po_figures_run [.tmp 4]) (ptSt sh_figures_run_3 d) = f_figures_run_p3 (f_figures_run_t k) d := by kernel_rfl
theorem q_figures_run_m (k : Nat) (d : Unit × ((ByteArray × Unit) × ((Int × Unit) × Unit))) : evCode E_figures_run (tab (L_figures_run k)) c_figures_run (bodyOf Tryz.f168) 0 (finK E_figures_run po_figures_run [.tmp 4]) (startSt pi_figures_run 21 d) = f_figures_run_m (f_figures_run_t k) d := by kernel_rfl
theorem go_figures_run (F : Unit × ((ByteArray × Unit) × ((Int × Unit) × Unit)) → Option (Unit × ((Int × Unit) × Unit))) (hF : ∀ d out, F d = some out → ∃ k, f_figures_run_m (f_figures_run_t k) d = some out) : FnOk Tryz.prog ET0 168 pi_figures_run po_figures_run F :=
  fn_of_body (E := E_figures_run) (envOk_add e0_ok (typed_ok ok_figures_Is)) (fn := Tryz.f168) Tryz.func168 (by kernel_rfl) (by kernel_rfl) [.tmp 4] (by kernel_rfl) (by kernel_rfl) (by decide) rfl c_figures_run L_figures_run
    (by intro x hx d; simp only [L_figures_run, List.mem_cons, List.not_mem_nil, or_false] at hx; subst hx; rfl)
    (by intro k x hx d out h; simp only [L_figures_run, List.mem_cons, List.not_mem_nil, or_false] at hx; subst hx; exact (q_figures_run_3 k d).trans h)
    (by intro d out h; obtain ⟨k, hk⟩ := hF d out h; exact ⟨k, (q_figures_run_m k d).trans hk⟩)
def g_figures_run (d : Unit × ((ByteArray × Unit) × ((Int × Unit) × Unit))) : Option (Unit × ((Int × Unit) × Unit)) := lim fun k => f_figures_run_m (f_figures_run_t k) d
theorem ok_figures_run : FnOk Tryz.prog ET0 168 pi_figures_run po_figures_run g_figures_run := go_figures_run g_figures_run fun d out h => lim_some h

/- horologe/figures.value -/
@[reducible] def pi_figures_value : PSh := ⟨[], [.mk false [.v .str], .mk false [.v (.int .u64)]]⟩
@[reducible] def po_figures_value : PSh := ⟨[], [.mk false [.v (.int .u64)], .mk false [.v .err]]⟩
@[reducible] def TT_figures_value : Type := (((Unit × ((ByteArray × Unit) × ((Int × Unit) × ((Int × Unit) × ((Int × Unit) × ((Int × Unit) × Unit)))))) → Option (Unit × ((Int × Unit) × (((Option Int) × Unit) × Unit)))) × Unit)
@[reducible] def sh_figures_value_4 : PSh := ⟨[], [.mk false [.v .str], .mk false [.v (.int .u64)], .any, .any, .any, .any, .mk false [.v (.int .u64)], .any, .any, .any, .mk false [.v (.int .i64)], .mk false [.v (.int .i64)], .any, .any, .any, .any, .any, .any, .any, .any, .any, .any, .any, .any, .any, .any, .any, .any, .any, .any, .any, .any]⟩
def f_figures_value_p4 (T : TT_figures_value) (d : Unit × ((ByteArray × Unit) × ((Int × Unit) × ((Int × Unit) × ((Int × Unit) × ((Int × Unit) × Unit)))))) : Option (Unit × ((Int × Unit) × (((Option Int) × Unit) × Unit))) :=
  let x2 : Bool := (decide (d.2.2.2.2.2.1.1 < d.2.2.2.2.1.1))
  bif x2 then (
  bif decide ((0 : Int) ≤ d.2.2.2.2.2.1.1) && decide (d.2.2.2.2.2.1.1 < ((d.2.1.1.size : Int) : Int)) then (
  let x3 : Int := (bt d.2.1.1 d.2.2.2.2.2.1.1)
  let x4 : Int := (isub .u8 x3 (48 : Int))
  let x5 : Int := (iconv .u64 x4)
  let x6 : Int := (isub .u64 d.2.2.1.1 x5)
  let x7 : Int := (iquo .u64 x6 (10 : Int))
  let x8 : Bool := (decide (d.2.2.2.1.1 > x7))
  bif x8 then (
  let x9 : (Option Int) := (some (5 : Int))
  some ((), (((0 : Int), ()), ((x9, ()), ()))))
  else (
  let x10 : Int := (imul .u64 d.2.2.2.1.1 (10 : Int))
  let x11 : Int := (iadd .u64 x10 x5)
  let x12 : Int := (iadd .i64 d.2.2.2.2.2.1.1 (1 : Int))
  (T.1 ((), ((d.2.1.1, ()), ((d.2.2.1.1, ()), ((x11, ()), ((d.2.2.2.2.1.1, ()), ((x12, ()), ())))))))))
  else none)
  else (
  some ((), ((d.2.2.2.1.1, ()), (((none : Option Int), ()), ()))))
def f_figures_value_t : Nat → TT_figures_value
  | 0 => (fun _ => none, ())
  | k + 1 => (f_figures_value_p4 (f_figures_value_t k), ())
theorem t_figures_value (k : Nat) : f_figures_value_t (k + 1) = (f_figures_value_p4 (f_figures_value_t k), ()) := rfl
def f_figures_value_m (T : TT_figures_value) (d : Unit × ((ByteArray × Unit) × ((Int × Unit) × Unit))) : Option (Unit × ((Int × Unit) × (((Option Int) × Unit) × Unit))) :=
  let x1 : Int := (d.2.1.1.size : Int)
  (T.1 ((), ((d.2.1.1, ()), ((d.2.2.1.1, ()), (((0 : Int), ()), ((x1, ()), (((0 : Int), ()), ())))))))
def c_figures_value : List Nat := []
def L_figures_value (k : Nat) : Pts po_figures_value.den := [(4, ⟨sh_figures_value_4, (f_figures_value_t k).1⟩)]
def E_figures_value : Env := E0
theorem q_figures_value_4 (k : Nat) (d : Unit × ((ByteArray × Unit) × ((Int × Unit) × ((Int × Unit) × ((Int × Unit) × ((Int × Unit) × Unit)))))) : evAt E_figures_value (tab (L_figures_value k)) c_figures_value 4 (bodyOf Tryz.f169) 0 (finK E_figures_value po_figures_value [.tmp 4, .tmp 5]) (ptSt sh_figures_value_4 d) = f_figures_value_p4 (f_figures_value_t k) d := by kernel_rfl
theorem q_figures_value_m (k : Nat) (d : Unit × ((ByteArray × Unit) × ((Int × Unit) × Unit))) : evCode E_figures_value (tab (L_figures_value k)) c_figures_value (bodyOf Tryz.f169) 0 (finK E_figures_value po_figures_value [.tmp 4, .tmp 5]) (startSt pi_figures_value 32 d) = f_figures_value_m (f_figures_value_t k) d := by kernel_rfl
theorem go_figures_value (F : Unit × ((ByteArray × Unit) × ((Int × Unit) × Unit)) → Option (Unit × ((Int × Unit) × (((Option Int) × Unit) × Unit)))) (hF : ∀ d out, F d = some out → ∃ k, f_figures_value_m (f_figures_value_t k) d = some out) : FnOk Tryz.prog ET0 169 pi_figures_value po_figures_value F :=
  fn_of_body (E := E_figures_value) e0_ok (fn := Tryz.f169) Tryz.func169 (by kernel_rfl) (by kernel_rfl) [.tmp 4, .tmp 5] (by kernel_rfl) (by kernel_rfl) (by decide) rfl c_figures_value L_figures_value
    (by intro x hx d; simp only [L_figures_value, List.mem_cons, List.not_mem_nil, or_false] at hx; subst hx; rfl)
    (by intro k x hx d out h; simp only [L_figures_value, List.mem_cons, List.not_mem_nil, or_false] at hx; subst hx; exact (q_figures_value_4 k d).trans h)
    (by intro d out h; obtain ⟨k, hk⟩ := hF d out h; exact ⟨k, (q_figures_value_m k d).trans hk⟩)
def g_figures_value (d : Unit × ((ByteArray × Unit) × ((Int × Unit) × Unit))) : Option (Unit × ((Int × Unit) × (((Option Int) × Unit) × Unit))) := lim fun k => f_figures_value_m (f_figures_value_t k) d
theorem ok_figures_value : FnOk Tryz.prog ET0 169 pi_figures_value po_figures_value g_figures_value := go_figures_value g_figures_value fun d out h => lim_some h

/- horologe/figures.take -/
@[reducible] def pi_figures_take : PSh := ⟨[], [.mk false [.v .str], .mk false [.v (.int .i64)], .mk false [.v (.int .i64)], .mk false [.v (.int .u64)]]⟩
@[reducible] def po_figures_take : PSh := ⟨[], [.mk false [.v (.int .u64)], .mk false [.v (.int .i64)], .mk false [.v .err]]⟩
def f_figures_take_m (T : Unit) (d : Unit × ((ByteArray × Unit) × ((Int × Unit) × ((Int × Unit) × ((Int × Unit) × Unit))))) : Option (Unit × ((Int × Unit) × ((Int × Unit) × (((Option Int) × Unit) × Unit)))) :=
  let x1 : Bool := (decide (d.2.2.1.1 < (1 : Int)))
  bif x1 then (
  let x2 : (Option Int) := (some (1 : Int))
  some ((), (((0 : Int), ()), (((0 : Int), ()), ((x2, ()), ())))))
  else (
  let x3 : Bool := (decide (d.2.2.1.1 > d.2.2.2.1.1))
  bif x3 then (
  let x4 : (Option Int) := (some (1 : Int))
  some ((), (((0 : Int), ()), (((0 : Int), ()), ((x4, ()), ())))))
  else (
  let x5 : Bool := (decide (d.2.2.2.1.1 > (20 : Int)))
  bif x5 then (
  let x6 : (Option Int) := (some (1 : Int))
  some ((), (((0 : Int), ()), (((0 : Int), ()), ((x6, ()), ())))))
  else (
  (g_figures_run ((), ((d.2.1.1, ()), ((d.2.2.2.1.1, ()), ())))).bind fun x7 =>
  let x8 : Bool := (decide (x7.2.1.1 < d.2.2.1.1))
  bif x8 then (
  let x9 : (Option Int) := (some (2 : Int))
  some ((), (((0 : Int), ()), (((0 : Int), ()), ((x9, ()), ())))))
  else (
  bif decide ((0 : Int) ≤ (0 : Int)) && decide ((0 : Int) ≤ x7.2.1.1) && decide (x7.2.1.1 ≤ (d.2.1.1.size : Int)) then (
  let x10 : ByteArray := (d.2.1.1.extract (Int.toNat (0 : Int)) (Int.toNat x7.2.1.1))
  (g_figures_value ((), ((x10, ()), ((d.2.2.2.2.1.1, ()), ())))).bind fun x11 =>
  let x12 : Bool := (!x11.2.2.1.1.isNone)
  bif x12 then (
  some ((), (((0 : Int), ()), (((0 : Int), ()), ((x11.2.2.1.1, ()), ())))))
  else (
  some ((), ((x11.2.1.1, ()), ((x7.2.1.1, ()), (((none : Option Int), ()), ()))))))
  else none))))
def c_figures_take : List Nat := []
def L_figures_take (_ : Nat) : Pts po_figures_take.den := []
def E_figures_take : Env := ((E0.add 168 (typedSem pi_figures_run po_figures_run g_figures_run)).add 169 (typedSem pi_figures_value po_figures_value g_figures_value))
theorem q_figures_take_m (k : Nat) (d : Unit × ((ByteArray × Unit) × ((Int × Unit) × ((Int × Unit) × ((Int × Unit) × Unit))))) : evCode E_figures_take (tab (L_figures_take k)) c_figures_take (bodyOf Tryz.f151) 0 (finK E_figures_take po_figures_take [.tmp 8, .tmp 9, .tmp 10]) (startSt pi_figures_take 46 d) = f_figures_take_m () d := by kernel_rfl
def g_figures_take (d : Unit × ((ByteArray × Unit) × ((Int × Unit) × ((Int × Unit) × ((Int × Unit) × Unit))))) : Option (Unit × ((Int × Unit) × ((Int × Unit) × (((Option Int) × Unit) × Unit)))) := f_figures_take_m () d
theorem ok_figures_take : FnOk Tryz.prog ET0 151 pi_figures_take po_figures_take g_figures_take :=
  fn_of_body (E := E_figures_take) (envOk_add (envOk_add e0_ok (typed_ok ok_figures_run)) (typed_ok ok_figures_value)) (fn := Tryz.f151) Tryz.func151 (by kernel_rfl) (by kernel_rfl) [.tmp 8, .tmp 9, .tmp 10] (by kernel_rfl) (by kernel_rfl) (by decide) rfl c_figures_take L_figures_take
    (by intro x hx; cases hx) (by intro k x hx; cases hx) (fun d out h => ⟨0, (q_figures_take_m 0 d).trans h⟩)

/- horologe/figures.Take -/
@[reducible] def pi_figures_Take : PSh := ⟨[], [.mk false [.v .str], .mk false [.v (.int .i64)], .mk false [.v (.int .i64)]]⟩
@[reducible] def po_figures_Take : PSh := ⟨[], [.mk false [.v (.int .i64)], .mk false [.v (.int .i64)], .mk false [.v .err]]⟩
def f_figures_Take_m (T : Unit) (d : Unit × ((ByteArray × Unit) × ((Int × Unit) × ((Int × Unit) × Unit)))) : Option (Unit × ((Int × Unit) × ((Int × Unit) × (((Option Int) × Unit) × Unit)))) :=
  (g_figures_take ((), ((d.2.1.1, ()), ((d.2.2.1.1, ()), ((d.2.2.2.1.1, ()), (((9223372036854775807 : Int), ()), ())))))).bind fun x1 =>
  let x2 : Int := (iconv .i64 x1.2.1.1)
  some ((), ((x2, ()), ((x1.2.2.1.1, ()), ((x1.2.2.2.1.1, ()), ()))))
def c_figures_Take : List Nat := []
def L_figures_Take (_ : Nat) : Pts po_figures_Take.den := []
def E_figures_Take : Env := (E0.add 151 (typedSem pi_figures_take po_figures_take g_figures_take))
theorem q_figures_Take_m (k : Nat) (d : Unit × ((ByteArray × Unit) × ((Int × Unit) × ((Int × Unit) × Unit)))) : evCode E_figures_Take (tab (L_figures_Take k)) c_figures_Take (bodyOf Tryz.f122) 0 (finK E_figures_Take po_figures_Take [.tmp 6, .tmp 7, .tmp 8]) (startSt pi_figures_Take 24 d) = f_figures_Take_m () d := by kernel_rfl
def g_figures_Take (d : Unit × ((ByteArray × Unit) × ((Int × Unit) × ((Int × Unit) × Unit)))) : Option (Unit × ((Int × Unit) × ((Int × Unit) × (((Option Int) × Unit) × Unit)))) := f_figures_Take_m () d
theorem ok_figures_Take : FnOk Tryz.prog ET0 122 pi_figures_Take po_figures_Take g_figures_Take :=
  fn_of_body (E := E_figures_Take) (envOk_add e0_ok (typed_ok ok_figures_take)) (fn := Tryz.f122) Tryz.func122 (by kernel_rfl) (by kernel_rfl) [.tmp 6, .tmp 7, .tmp 8] (by kernel_rfl) (by kernel_rfl) (by decide) rfl c_figures_Take L_figures_Take
    (by intro x hx; cases hx) (by intro k x hx; cases hx) (fun d out h => ⟨0, (q_figures_Take_m 0 d).trans h⟩)

/- (*horologe/scan.Scanner[string]).At -/
@[reducible] def pi_scan_Scanner_string_At : PSh := ⟨[], [.mk false [.v (.nptr (.pair .str (.pair (.int .i64) .err)))]]⟩
@[reducible] def po_scan_Scanner_string_At : PSh := ⟨[], [.mk false [.v (.int .i64)]]⟩
def f_scan_Scanner_string_At_m (T : Unit) (d : Unit × (((Option (ByteArray × (Int × (Option Int)))) × Unit) × Unit)) : Option (Unit × ((Int × Unit) × Unit)) :=
  bif d.2.1.1.isNone then (
  some ((), (((0 : Int), ()), ())))
  else (
  d.2.1.1.bind fun x1 =>
  some ((), ((x1.2.1, ()), ())))
def c_scan_Scanner_string_At : List Nat := []
def L_scan_Scanner_string_At (_ : Nat) : Pts po_scan_Scanner_string_At.den := []
def E_scan_Scanner_string_At : Env := E0
theorem q_scan_Scanner_string_At_m (k : Nat) (d : Unit × (((Option (ByteArray × (Int × (Option Int)))) × Unit) × Unit)) : evCode E_scan_Scanner_string_At (tab (L_scan_Scanner_string_At k)) c_scan_Scanner_string_At (bodyOf Tryz.f69) 0 (finK E_scan_Scanner_string_At po_scan_Scanner_string_At [.tmp 2]) (startSt pi_scan_Scanner_string_At 9 d) = f_scan_Scanner_string_At_m () d := by kernel_rfl
def g_scan_Scanner_string_At (d : Unit × (((Option (ByteArray × (Int × (Option Int)))) × Unit) × Unit)) : Option (Unit × ((Int × Unit) × Unit)) := f_scan_Scanner_string_At_m () d
theorem ok_scan_Scanner_string_At : FnOk Tryz.prog ET0 69 pi_scan_Scanner_string_At po_scan_Scanner_string_At g_scan_Scanner_string_At :=
  fn_of_body (E := E_scan_Scanner_string_At) e0_ok (fn := Tryz.f69) Tryz.func69 (by kernel_rfl) (by kernel_rfl) [.tmp 2] (by kernel_rfl) (by kernel_rfl) (by decide) rfl c_scan_Scanner_string_At L_scan_Scanner_string_At
    (by intro x hx; cases hx) (by intro k x hx; cases hx) (fun d out h => ⟨0, (q_scan_Scanner_string_At_m 0 d).trans h⟩)

/- (*horologe/scan.Scanner[string]).Err -/
@[reducible] def pi_scan_Scanner_string_Err : PSh := ⟨[], [.mk false [.v (.nptr (.pair .str (.pair (.int .i64) .err)))]]⟩
@[reducible] def po_scan_Scanner_string_Err : PSh := ⟨[], [.mk false [.v .err]]⟩
def f_scan_Scanner_string_Err_m (T : Unit) (d : Unit × (((Option (ByteArray × (Int × (Option Int)))) × Unit) × Unit)) : Option (Unit × (((Option Int) × Unit) × Unit)) :=
  bif d.2.1.1.isNone then (
  let x1 : (Option Int) := (some (8 : Int))
  some ((), ((x1, ()), ())))
  else (
  d.2.1.1.bind fun x2 =>
  some ((), ((x2.2.2, ()), ())))
def c_scan_Scanner_string_Err : List Nat := []
def L_scan_Scanner_string_Err (_ : Nat) : Pts po_scan_Scanner_string_Err.den := []
def E_scan_Scanner_string_Err : Env := E0
theorem q_scan_Scanner_string_Err_m (k : Nat) (d : Unit × (((Option (ByteArray × (Int × (Option Int)))) × Unit) × Unit)) : evCode E_scan_Scanner_string_Err (tab (L_scan_Scanner_string_Err k)) c_scan_Scanner_string_Err (bodyOf Tryz.f74) 0 (finK E_scan_Scanner_string_Err po_scan_Scanner_string_Err [.tmp 2]) (startSt pi_scan_Scanner_string_Err 10 d) = f_scan_Scanner_string_Err_m () d := by kernel_rfl
def g_scan_Scanner_string_Err (d : Unit × (((Option (ByteArray × (Int × (Option Int)))) × Unit) × Unit)) : Option (Unit × (((Option Int) × Unit) × Unit)) := f_scan_Scanner_string_Err_m () d
theorem ok_scan_Scanner_string_Err : FnOk Tryz.prog ET0 74 pi_scan_Scanner_string_Err po_scan_Scanner_string_Err g_scan_Scanner_string_Err :=
  fn_of_body (E := E_scan_Scanner_string_Err) e0_ok (fn := Tryz.f74) Tryz.func74 (by kernel_rfl) (by kernel_rfl) [.tmp 2] (by kernel_rfl) (by kernel_rfl) (by decide) rfl c_scan_Scanner_string_Err L_scan_Scanner_string_Err
    (by intro x hx; cases hx) (by intro k x hx; cases hx) (fun d out h => ⟨0, (q_scan_Scanner_string_Err_m 0 d).trans h⟩)

/- (*horologe/scan.Scanner[string]).Left -/
@[reducible] def pi_scan_Scanner_string_Left : PSh := ⟨[], [.mk false [.v (.nptr (.pair .str (.pair (.int .i64) .err)))]]⟩
@[reducible] def po_scan_Scanner_string_Left : PSh := ⟨[], [.mk false [.v (.int .i64)]]⟩
def f_scan_Scanner_string_Left_m (T : Unit) (d : Unit × (((Option (ByteArray × (Int × (Option Int)))) × Unit) × Unit)) : Option (Unit × ((Int × Unit) × Unit)) :=
  (g_scan_Scanner_string_rest ((), ((d.2.1.1, ()), ()))).bind fun x1 =>
  let x2 : Int := (x1.2.1.1.size : Int)
  some ((), ((x2, ()), ()))
def c_scan_Scanner_string_Left : List Nat := []
def L_scan_Scanner_string_Left (_ : Nat) : Pts po_scan_Scanner_string_Left.den := []
def E_scan_Scanner_string_Left : Env := (E0.add 123 (typedSem pi_scan_Scanner_string_rest po_scan_Scanner_string_rest g_scan_Scanner_string_rest))
theorem q_scan_Scanner_string_Left_m (k : Nat) (d : Unit × (((Option (ByteArray × (Int × (Option Int)))) × Unit) × Unit)) : evCode E_scan_Scanner_string_Left (tab (L_scan_Scanner_string_Left k)) c_scan_Scanner_string_Left (bodyOf Tryz.f75) 0 (finK E_scan_Scanner_string_Left po_scan_Scanner_string_Left [.tmp 2]) (startSt pi_scan_Scanner_string_Left 6 d) = f_scan_Scanner_string_Left_m () d := by kernel_rfl
def g_scan_Scanner_string_Left (d : Unit × (((Option (ByteArray × (Int × (Option Int)))) × Unit) × Unit)) : Option (Unit × ((Int × Unit) × Unit)) := f_scan_Scanner_string_Left_m () d
theorem ok_scan_Scanner_string_Left : FnOk Tryz.prog ET0 75 pi_scan_Scanner_string_Left po_scan_Scanner_string_Left g_scan_Scanner_string_Left :=
  fn_of_body (E := E_scan_Scanner_string_Left) (envOk_add e0_ok (typed_ok ok_scan_Scanner_string_rest)) (fn := Tryz.f75) Tryz.func75 (by kernel_rfl) (by kernel_rfl) [.tmp 2] (by kernel_rfl) (by kernel_rfl) (by decide) rfl c_scan_Scanner_string_Left L_scan_Scanner_string_Left
    (by intro x hx; cases hx) (by intro k x hx; cases hx) (fun d out h => ⟨0, (q_scan_Scanner_string_Left_m 0 d).trans h⟩)

/- (*horologe/scan.Scanner[string]).End -/
@[reducible] def pi_scan_Scanner_string_End : PSh := ⟨[], [.mk false [.v (.nptr (.pair .str (.pair (.int .i64) .err)))]]⟩
@[reducible] def po_scan_Scanner_string_End : PSh := ⟨[], [.mk false [.v .err]]⟩
def f_scan_Scanner_string_End_m (T : Unit) (d : Unit × (((Option (ByteArray × (Int × (Option Int)))) × Unit) × Unit)) : Option (Unit × (((Option Int) × Unit) × Unit)) :=
  (g_scan_Scanner_string_Err ((), ((d.2.1.1, ()), ()))).bind fun x1 =>
  let x2 : Bool := (!x1.2.1.1.isNone)
  bif x2 then (
  some ((), ((x1.2.1.1, ()), ())))
  else (
  (g_scan_Scanner_string_Left ((), ((d.2.1.1, ()), ()))).bind fun x3 =>
  let x4 : Bool := (decide (x3.2.1.1 > (0 : Int)))
  bif x4 then (
  let x5 : (Option Int) := (some (2 : Int))
  some ((), ((x5, ()), ())))
  else (
  some ((), (((none : Option Int), ()), ()))))
def c_scan_Scanner_string_End : List Nat := []
def L_scan_Scanner_string_End (_ : Nat) : Pts po_scan_Scanner_string_End.den := []
def E_scan_Scanner_string_End : Env := ((E0.add 74 (typedSem pi_scan_Scanner_string_Err po_scan_Scanner_string_Err g_scan_Scanner_string_Err)).add 75 (typedSem pi_scan_Scanner_string_Left po_scan_Scanner_string_Left g_scan_Scanner_string_Left))
theorem q_scan_Scanner_string_End_m (k : Nat) (d : Unit × (((Option (ByteArray × (Int × (Option Int)))) × Unit) × Unit)) : evCode E_scan_Scanner_string_End (tab (L_scan_Scanner_string_End k)) c_scan_Scanner_string_End (bodyOf Tryz.f27) 0 (finK E_scan_Scanner_string_End po_scan_Scanner_string_End [.tmp 2]) (startSt pi_scan_Scanner_string_End 13 d) = f_scan_Scanner_string_End_m () d := by kernel_rfl
def g_scan_Scanner_string_End (d : Unit × (((Option (ByteArray × (Int × (Option Int)))) × Unit) × Unit)) : Option (Unit × (((Option Int) × Unit) × Unit)) := f_scan_Scanner_string_End_m () d
theorem ok_scan_Scanner_string_End : FnOk Tryz.prog ET0 27 pi_scan_Scanner_string_End po_scan_Scanner_string_End g_scan_Scanner_string_End :=
  fn_of_body (E := E_scan_Scanner_string_End) (envOk_add (envOk_add e0_ok (typed_ok ok_scan_Scanner_string_Err)) (typed_ok ok_scan_Scanner_string_Left)) (fn := Tryz.f27) Tryz.func27 (by kernel_rfl) (by kernel_rfl) [.tmp 2] (by kernel_rfl) (by kernel_rfl) (by decide) rfl c_scan_Scanner_string_End L_scan_Scanner_string_End
    (by intro x hx; cases hx) (by intro k x hx; cases hx) (fun d out h => ⟨0, (q_scan_Scanner_string_End_m 0 d).trans h⟩)

/- horologe/mjd.Day -/
@[reducible] def pi_mjd_Day : PSh := ⟨[], [.mk false [.v (.int .i64)], .mk false [.v (.int .i64)]]⟩
@[reducible] def po_mjd_Day : PSh := ⟨[], [.mk false [.v (.int .i64)], .mk false [.v .err]]⟩
def f_mjd_Day_m (T : Unit) (d : Unit × ((Int × Unit) × ((Int × Unit) × Unit))) : Option (Unit × ((Int × Unit) × (((Option Int) × Unit) × Unit))) :=
  (g_mjd_zero ((), ((d.2.1.1, ()), ()))).bind fun x1 =>
  let x2 : Bool := (!x1.2.2.1.1.isNone)
  bif x2 then (
  some ((), (((0 : Int), ()), ((x1.2.2.1.1, ()), ()))))
  else (
  (g_day_First ((), ())).bind fun x3 =>
  let x4 : Int := (iadd .i64 x3.2.1.1 x1.2.1.1)
  let x5 : Bool := (decide (d.2.2.1.1 < x4))
  bif x5 then (
  let x6 : (Option Int) := (some (13 : Int))
  some ((), (((0 : Int), ()), ((x6, ()), ()))))
  else (
  (g_day_Last ((), ())).bind fun x7 =>
  let x8 : Int := (iadd .i64 x7.2.1.1 x1.2.1.1)
  let x9 : Bool := (decide (d.2.2.1.1 > x8))
  bif x9 then (
  let x10 : (Option Int) := (some (13 : Int))
  some ((), (((0 : Int), ()), ((x10, ()), ()))))
  else (
  let x11 : Int := (isub .i64 d.2.2.1.1 x1.2.1.1)
  some ((), ((x11, ()), (((none : Option Int), ()), ()))))))
def c_mjd_Day : List Nat := []
def L_mjd_Day (_ : Nat) : Pts po_mjd_Day.den := []
def E_mjd_Day : Env := (((E0.add 115 (typedSem pi_day_First po_day_First g_day_First)).add 116 (typedSem pi_day_Last po_day_Last g_day_Last)).add 127 (typedSem pi_mjd_zero po_mjd_zero g_mjd_zero))
theorem q_mjd_Day_m (k : Nat) (d : Unit × ((Int × Unit) × ((Int × Unit) × Unit))) : evCode E_mjd_Day (tab (L_mjd_Day k)) c_mjd_Day (bodyOf Tryz.f76) 0 (finK E_mjd_Day po_mjd_Day [.tmp 4, .tmp 5]) (startSt pi_mjd_Day 34 d) = f_mjd_Day_m () d := by kernel_rfl
def g_mjd_Day (d : Unit × ((Int × Unit) × ((Int × Unit) × Unit))) : Option (Unit × ((Int × Unit) × (((Option Int) × Unit) × Unit))) := f_mjd_Day_m () d
theorem ok_mjd_Day : FnOk Tryz.prog ET0 76 pi_mjd_Day po_mjd_Day g_mjd_Day :=
  fn_of_body (E := E_mjd_Day) (envOk_add (envOk_add (envOk_add e0_ok (typed_ok ok_day_First)) (typed_ok ok_day_Last)) (typed_ok ok_mjd_zero)) (fn := Tryz.f76) Tryz.func76 (by kernel_rfl) (by kernel_rfl) [.tmp 4, .tmp 5] (by kernel_rfl) (by kernel_rfl) (by decide) rfl c_mjd_Day L_mjd_Day
    (by intro x hx; cases hx) (by intro k x hx; cases hx) (fun d out h => ⟨0, (q_mjd_Day_m 0 d).trans h⟩)

/- (horologe/nist.Line).told -/
@[reducible] def pi_nist_Line_told : PSh := ⟨[], [.mk true [.v (.int .i64), .v (.int .i64), .v (.int .i64), .v (.int .i64), .v (.int .i64), .v (.int .i64), .v .bool], .mk false [.v (.int .i64)], .mk true [.v (.int .i64), .v (.int .i64), .v (.int .i64)], .mk true [.v (.int .i64), .v (.int .i64), .v (.int .i64)]]⟩
@[reducible] def po_nist_Line_told : PSh := ⟨[], [.mk true [.v (.int .i64), .v (.int .i64), .v (.int .i64), .v (.int .i64), .v (.int .i64), .v (.int .i64), .v .bool], .mk false [.v .err]]⟩
def f_nist_Line_told_m (T : Unit) (d : Unit × ((Int × (Int × (Int × (Int × (Int × (Int × (Bool × Unit))))))) × ((Int × Unit) × ((Int × (Int × (Int × Unit))) × ((Int × (Int × (Int × Unit))) × Unit))))) : Option (Unit × ((Int × (Int × (Int × (Int × (Int × (Int × (Bool × Unit))))))) × (((Option Int) × Unit) × Unit))) :=
  (g_mjd_Day ((), (((1 : Int), ()), ((d.2.2.1.1, ()), ())))).bind fun x1 =>
  let x2 : Bool := (!x1.2.2.1.1.isNone)
  bif x2 then (
  some ((), (((0 : Int), ((0 : Int), ((0 : Int), ((0 : Int), ((0 : Int), ((0 : Int), (false, ()))))))), ((x1.2.2.1.1, ()), ()))))
  else (
  (g_day_Date ((), ((x1.2.1.1, ()), ()))).bind fun x3 =>
  let x4 : Bool := (!x3.2.2.2.2.1.1.isNone)
  bif x4 then (
  some ((), (((0 : Int), ((0 : Int), ((0 : Int), ((0 : Int), ((0 : Int), ((0 : Int), (false, ()))))))), ((x3.2.2.2.2.1.1, ()), ()))))
  else (
  (g_nist_modulo ((), ((x3.2.1.1, ()), (((100 : Int), ()), ())))).bind fun x5 =>
  let x6 : Bool := (!((d.2.2.2.1.1 == x5.2.1.1) && ((d.2.2.2.1.2.1 == x3.2.2.1.1) && ((d.2.2.2.1.2.2.1 == x3.2.2.2.1.1) && true))))
  bif x6 then (
  let x7 : (Option Int) := (some (10 : Int))
  some ((), (((0 : Int), ((0 : Int), ((0 : Int), ((0 : Int), ((0 : Int), ((0 : Int), (false, ()))))))), ((x7, ()), ()))))
  else (
  let x8 : Bool := (decide (d.2.2.2.2.1.1 > (23 : Int)))
  bif x8 then (
  let x9 : (Option Int) := (some (1 : Int))
  some ((), (((0 : Int), ((0 : Int), ((0 : Int), ((0 : Int), ((0 : Int), ((0 : Int), (false, ()))))))), ((x9, ()), ()))))
  else (
  let x10 : Bool := (decide (d.2.2.2.2.1.2.1 > (59 : Int)))
  bif x10 then (
  let x11 : (Option Int) := (some (1 : Int))
  some ((), (((0 : Int), ((0 : Int), ((0 : Int), ((0 : Int), ((0 : Int), ((0 : Int), (false, ()))))))), ((x11, ()), ()))))
  else (
  let x12 : Bool := (decide (d.2.2.2.2.1.2.2.1 > (60 : Int)))
  bif x12 then (
  let x13 : (Option Int) := (some (1 : Int))
  some ((), (((0 : Int), ((0 : Int), ((0 : Int), ((0 : Int), ((0 : Int), ((0 : Int), (false, ()))))))), ((x13, ()), ()))))
  else (
  let x14 : Bool := (decide (d.2.1.2.2.2.1 > (2 : Int)))
  bif x14 then (
  let x15 : (Option Int) := (some (1 : Int))
  some ((), (((0 : Int), ((0 : Int), ((0 : Int), ((0 : Int), ((0 : Int), ((0 : Int), (false, ()))))))), ((x15, ()), ()))))
  else (
  let x16 : Bool := (d.2.2.2.2.1.2.2.1 == (60 : Int))
  bif x16 then (
  let x17 : Bool := (d.2.2.2.2.1.1 != (23 : Int))
  bif x17 then (
  let x18 : (Option Int) := (some (12 : Int))
  some ((), (((0 : Int), ((0 : Int), ((0 : Int), ((0 : Int), ((0 : Int), ((0 : Int), (false, ()))))))), ((x18, ()), ()))))
  else (
  let x19 : Bool := (d.2.2.2.2.1.2.1 != (59 : Int))
  bif x19 then (
  let x20 : (Option Int) := (some (12 : Int))
  some ((), (((0 : Int), ((0 : Int), ((0 : Int), ((0 : Int), ((0 : Int), ((0 : Int), (false, ()))))))), ((x20, ()), ()))))
  else (
  let x21 : Int := (imul .i64 d.2.2.2.2.1.1 (60 : Int))
  let x22 : Int := (iadd .i64 x21 d.2.2.2.2.1.2.1)
  let x23 : Int := (imul .i64 x22 (60 : Int))
  let x24 : Int := (iadd .i64 x23 d.2.2.2.2.1.2.2.1)
  some ((), ((x1.2.1.1, (x24, (d.2.1.2.2.1, (d.2.1.2.2.2.1, (d.2.1.2.2.2.2.1, (d.2.1.2.2.2.2.2.1, (d.2.1.2.2.2.2.2.2.1, ()))))))), (((none : Option Int), ()), ()))))))
  else (
  let x25 : Int := (imul .i64 d.2.2.2.2.1.1 (60 : Int))
  let x26 : Int := (iadd .i64 x25 d.2.2.2.2.1.2.1)
  let x27 : Int := (imul .i64 x26 (60 : Int))
  let x28 : Int := (iadd .i64 x27 d.2.2.2.2.1.2.2.1)
  some ((), ((x1.2.1.1, (x28, (d.2.1.2.2.1, (d.2.1.2.2.2.1, (d.2.1.2.2.2.2.1, (d.2.1.2.2.2.2.2.1, (d.2.1.2.2.2.2.2.2.1, ()))))))), (((none : Option Int), ()), ())))))))))))
def c_nist_Line_told : List Nat := []
def L_nist_Line_told (_ : Nat) : Pts po_nist_Line_told.den := []
def E_nist_Line_told : Env := (((E0.add 60 (typedSem pi_day_Date po_day_Date g_day_Date)).add 65 (typedSem pi_nist_modulo po_nist_modulo g_nist_modulo)).add 76 (typedSem pi_mjd_Day po_mjd_Day g_mjd_Day))
theorem q_nist_Line_told_m (k : Nat) (d : Unit × ((Int × (Int × (Int × (Int × (Int × (Int × (Bool × Unit))))))) × ((Int × Unit) × ((Int × (Int × (Int × Unit))) × ((Int × (Int × (Int × Unit))) × Unit))))) : evCode E_nist_Line_told (tab (L_nist_Line_told k)) c_nist_Line_told (bodyOf Tryz.f28) 0 (finK E_nist_Line_told po_nist_Line_told [.cell 8 28, .tmp 9]) (startSt pi_nist_Line_told 96 d) = f_nist_Line_told_m () d := by kernel_rfl
def g_nist_Line_told (d : Unit × ((Int × (Int × (Int × (Int × (Int × (Int × (Bool × Unit))))))) × ((Int × Unit) × ((Int × (Int × (Int × Unit))) × ((Int × (Int × (Int × Unit))) × Unit))))) : Option (Unit × ((Int × (Int × (Int × (Int × (Int × (Int × (Bool × Unit))))))) × (((Option Int) × Unit) × Unit))) := f_nist_Line_told_m () d
theorem ok_nist_Line_told : FnOk Tryz.prog ET0 28 pi_nist_Line_told po_nist_Line_told g_nist_Line_told :=
  fn_of_body (E := E_nist_Line_told) (envOk_add (envOk_add (envOk_add e0_ok (typed_ok ok_day_Date)) (typed_ok ok_nist_modulo)) (typed_ok ok_mjd_Day)) (fn := Tryz.f28) Tryz.func28 (by kernel_rfl) (by kernel_rfl) [.cell 8 28, .tmp 9] (by kernel_rfl) (by kernel_rfl) (by decide) rfl c_nist_Line_told L_nist_Line_told
    (by intro x hx; cases hx) (by intro k x hx; cases hx) (fun d out h => ⟨0, (q_nist_Line_told_m 0 d).trans h⟩)

/- (*horologe/scan.Scanner[string]).take -/
@[reducible] def pi_scan_Scanner_string_take_io : PSh := ⟨[.var 128 [.v .str, .v (.int .i64), .v .err]], [.mk false [.ref 0 0], .mk false [.v (.int .i64)]]⟩
@[reducible] def po_scan_Scanner_string_take_io : PSh := ⟨[.var 128 [.v .str, .v (.int .i64), .v .err]], [.mk false [.v .str], .mk false [.ref 0 0]]⟩
def f_scan_Scanner_string_take_io_m (T : Unit) (d : ((ByteArray × (Int × ((Option Int) × Unit))) × Unit) × (Unit × ((Int × Unit) × Unit))) : Option (((ByteArray × (Int × ((Option Int) × Unit))) × Unit) × ((ByteArray × Unit) × (Unit × Unit))) :=
  (g_scan_Scanner_string_rest ((), (((some (d.1.1.1, (d.1.1.2.1, d.1.1.2.2.1))), ()), ()))).bind fun x1 =>
  bif decide ((0 : Int) ≤ (0 : Int)) && decide ((0 : Int) ≤ d.2.2.1.1) && decide (d.2.2.1.1 ≤ (x1.2.1.1.size : Int)) then (
  let x2 : ByteArray := (x1.2.1.1.extract (Int.toNat (0 : Int)) (Int.toNat d.2.2.1.1))
  let x3 : Bool := (decide (d.2.2.1.1 > (0 : Int)))
  bif x3 then (
  let x4 : Int := (iadd .i64 d.1.1.2.1 d.2.2.1.1)
  (g_strings_Clone ((), ((x2, ()), ()))).bind fun x5 =>
  some (((d.1.1.1, (x4, (d.1.1.2.2.1, ()))), ()), ((x5.2.1.1, ()), ((), ()))))
  else (
  (g_strings_Clone ((), ((x2, ()), ()))).bind fun x6 =>
  some (((d.1.1.1, (d.1.1.2.1, (d.1.1.2.2.1, ()))), ()), ((x6.2.1.1, ()), ((), ())))))
  else none
def c_scan_Scanner_string_take_io : List Nat := []
def L_scan_Scanner_string_take_io (_ : Nat) : Pts po_scan_Scanner_string_take_io.den := []
def E_scan_Scanner_string_take_io : Env := (((E0.add 123 (typedSem pi_scan_Scanner_string_rest po_scan_Scanner_string_rest g_scan_Scanner_string_rest)).add 126 (typedSem pi_strings_Clone po_strings_Clone g_strings_Clone)).kp [0])
theorem q_scan_Scanner_string_take_io_m (k : Nat) (d : ((ByteArray × (Int × ((Option Int) × Unit))) × Unit) × (Unit × ((Int × Unit) × Unit))) : evCode E_scan_Scanner_string_take_io (tab (L_scan_Scanner_string_take_io k)) c_scan_Scanner_string_take_io (bodyOf Tryz.f73) 0 (finKio E_scan_Scanner_string_take_io po_scan_Scanner_string_take_io [.tmp 4] [(0, none)]) (startSt pi_scan_Scanner_string_take_io 22 d) = f_scan_Scanner_string_take_io_m () d := by kernel_rfl
def g_scan_Scanner_string_take_io (d : ((ByteArray × (Int × ((Option Int) × Unit))) × Unit) × (Unit × ((Int × Unit) × Unit))) : Option (((ByteArray × (Int × ((Option Int) × Unit))) × Unit) × ((ByteArray × Unit) × (Unit × Unit))) := f_scan_Scanner_string_take_io_m () d
theorem ok_scan_Scanner_string_take_io : FnIo Tryz.prog ET0 73 pi_scan_Scanner_string_take_io po_scan_Scanner_string_take_io 1 [(0, 0, none)] g_scan_Scanner_string_take_io :=
  fn_of_bodyIo (E := E_scan_Scanner_string_take_io) (envOk_kp (envOk_add (envOk_add e0_ok (typed_ok ok_scan_Scanner_string_rest)) (typed_ok ok_strings_Clone))) (fn := Tryz.f73) Tryz.func73 (by kernel_rfl) (by kernel_rfl) [.tmp 4] [(0, none)] [(0, 0, none)] (by kernel_rfl) (by kernel_rfl) (by kernel_rfl) (by kernel_rfl) (by decide) (by decide) c_scan_Scanner_string_take_io L_scan_Scanner_string_take_io
    (by intro x hx; cases hx) (by intro k x hx; cases hx) (fun d out h => ⟨0, (q_scan_Scanner_string_take_io_m 0 d).trans h⟩)

/- (*horologe/scan.Scanner[string]).Take -/
@[reducible] def pi_scan_Scanner_string_Take_io : PSh := ⟨[.var 128 [.v .str, .v (.int .i64), .v .err]], [.mk false [.ref 0 0], .mk false [.v (.int .u8)]]⟩
@[reducible] def po_scan_Scanner_string_Take_io : PSh := ⟨[.var 128 [.v .str, .v (.int .i64), .v .err]], [.mk false [.v .bool], .mk false [.ref 0 0]]⟩
def f_scan_Scanner_string_Take_io_m (T : Unit) (d : ((ByteArray × (Int × ((Option Int) × Unit))) × Unit) × (Unit × ((Int × Unit) × Unit))) : Option (((ByteArray × (Int × ((Option Int) × Unit))) × Unit) × ((Bool × Unit) × (Unit × Unit))) :=
  (g_scan_Scanner_string_Peek ((), (((some (d.1.1.1, (d.1.1.2.1, d.1.1.2.2.1))), ()), ()))).bind fun x1 =>
  let x2 : Bool := (!x1.2.2.1.1)
  bif x2 then (
  some (((d.1.1.1, (d.1.1.2.1, (d.1.1.2.2.1, ()))), ()), ((false, ()), ((), ()))))
  else (
  let x3 : Bool := (x1.2.1.1 != d.2.2.1.1)
  bif x3 then (
  some (((d.1.1.1, (d.1.1.2.1, (d.1.1.2.2.1, ()))), ()), ((false, ()), ((), ()))))
  else (
  (g_scan_Scanner_string_take_io (((d.1.1.1, (d.1.1.2.1, (d.1.1.2.2.1, ()))), ()), ((), (((1 : Int), ()), ())))).bind fun x4 =>
  some (((x4.1.1.1, (x4.1.1.2.1, (x4.1.1.2.2.1, ()))), ()), ((true, ()), ((), ())))))
def c_scan_Scanner_string_Take_io : List Nat := []
def L_scan_Scanner_string_Take_io (_ : Nat) : Pts po_scan_Scanner_string_Take_io.den := []
def E_scan_Scanner_string_Take_io : Env := (((E0.add 72 (typedSem pi_scan_Scanner_string_Peek po_scan_Scanner_string_Peek g_scan_Scanner_string_Peek)).add 73 (ioSem pi_scan_Scanner_string_take_io po_scan_Scanner_string_take_io 1 [(0, 0, none)] g_scan_Scanner_string_take_io)).kp [0])
theorem q_scan_Scanner_string_Take_io_m (k : Nat) (d : ((ByteArray × (Int × ((Option Int) × Unit))) × Unit) × (Unit × ((Int × Unit) × Unit))) : evCode E_scan_Scanner_string_Take_io (tab (L_scan_Scanner_string_Take_io k)) c_scan_Scanner_string_Take_io (bodyOf Tryz.f26) 0 (finKio E_scan_Scanner_string_Take_io po_scan_Scanner_string_Take_io [.tmp 4] [(0, none)]) (startSt pi_scan_Scanner_string_Take_io 21 d) = f_scan_Scanner_string_Take_io_m () d := by kernel_rfl
def g_scan_Scanner_string_Take_io (d : ((ByteArray × (Int × ((Option Int) × Unit))) × Unit) × (Unit × ((Int × Unit) × Unit))) : Option (((ByteArray × (Int × ((Option Int) × Unit))) × Unit) × ((Bool × Unit) × (Unit × Unit))) := f_scan_Scanner_string_Take_io_m () d
theorem ok_scan_Scanner_string_Take_io : FnIo Tryz.prog ET0 26 pi_scan_Scanner_string_Take_io po_scan_Scanner_string_Take_io 1 [(0, 0, none)] g_scan_Scanner_string_Take_io :=
  fn_of_bodyIo (E := E_scan_Scanner_string_Take_io) (envOk_kp (envOk_add (envOk_add e0_ok (typed_ok ok_scan_Scanner_string_Peek)) (io_ok ok_scan_Scanner_string_take_io))) (fn := Tryz.f26) Tryz.func26 (by kernel_rfl) (by kernel_rfl) [.tmp 4] [(0, none)] [(0, 0, none)] (by kernel_rfl) (by kernel_rfl) (by kernel_rfl) (by kernel_rfl) (by decide) (by decide) c_scan_Scanner_string_Take_io L_scan_Scanner_string_Take_io
    (by intro x hx; cases hx) (by intro k x hx; cases hx) (fun d out h => ⟨0, (q_scan_Scanner_string_Take_io_m 0 d).trans h⟩)

/- (*horologe/scan.Scanner[string]).Fail -/
@[reducible] def pi_scan_Scanner_string_Fail_io : PSh := ⟨[.var 128 [.v .str, .v (.int .i64), .v .err]], [.mk false [.ref 0 0], .mk false [.v .err]]⟩
@[reducible] def po_scan_Scanner_string_Fail_io : PSh := ⟨[.var 128 [.v .str, .v (.int .i64), .v .err]], [.mk false [.ref 0 0]]⟩
def f_scan_Scanner_string_Fail_io_m (T : Unit) (d : ((ByteArray × (Int × ((Option Int) × Unit))) × Unit) × (Unit × (((Option Int) × Unit) × Unit))) : Option (((ByteArray × (Int × ((Option Int) × Unit))) × Unit) × (Unit × Unit)) :=
  (g_scan_Scanner_string_going ((), (((some (d.1.1.1, (d.1.1.2.1, d.1.1.2.2.1))), ()), ()))).bind fun x1 =>
  bif x1.2.1.1 then (
  some (((d.1.1.1, (d.1.1.2.1, (d.2.2.1.1, ()))), ()), ((), ())))
  else (
  some (((d.1.1.1, (d.1.1.2.1, (d.1.1.2.2.1, ()))), ()), ((), ())))
def c_scan_Scanner_string_Fail_io : List Nat := []
def L_scan_Scanner_string_Fail_io (_ : Nat) : Pts po_scan_Scanner_string_Fail_io.den := []
def E_scan_Scanner_string_Fail_io : Env := ((E0.add 97 (typedSem pi_scan_Scanner_string_going po_scan_Scanner_string_going g_scan_Scanner_string_going)).kp [0])
theorem q_scan_Scanner_string_Fail_io_m (k : Nat) (d : ((ByteArray × (Int × ((Option Int) × Unit))) × Unit) × (Unit × (((Option Int) × Unit) × Unit))) : evCode E_scan_Scanner_string_Fail_io (tab (L_scan_Scanner_string_Fail_io k)) c_scan_Scanner_string_Fail_io (bodyOf Tryz.f44) 0 (finKio E_scan_Scanner_string_Fail_io po_scan_Scanner_string_Fail_io [] [(0, none)]) (startSt pi_scan_Scanner_string_Fail_io 10 d) = f_scan_Scanner_string_Fail_io_m () d := by kernel_rfl
def g_scan_Scanner_string_Fail_io (d : ((ByteArray × (Int × ((Option Int) × Unit))) × Unit) × (Unit × (((Option Int) × Unit) × Unit))) : Option (((ByteArray × (Int × ((Option Int) × Unit))) × Unit) × (Unit × Unit)) := f_scan_Scanner_string_Fail_io_m () d
theorem ok_scan_Scanner_string_Fail_io : FnIo Tryz.prog ET0 44 pi_scan_Scanner_string_Fail_io po_scan_Scanner_string_Fail_io 0 [(0, 0, none)] g_scan_Scanner_string_Fail_io :=
  fn_of_bodyIo (E := E_scan_Scanner_string_Fail_io) (envOk_kp (envOk_add e0_ok (typed_ok ok_scan_Scanner_string_going))) (fn := Tryz.f44) Tryz.func44 (by kernel_rfl) (by kernel_rfl) [] [(0, none)] [(0, 0, none)] (by kernel_rfl) (by kernel_rfl) (by kernel_rfl) (by kernel_rfl) (by decide) (by decide) c_scan_Scanner_string_Fail_io L_scan_Scanner_string_Fail_io
    (by intro x hx; cases hx) (by intro k x hx; cases hx) (fun d out h => ⟨0, (q_scan_Scanner_string_Fail_io_m 0 d).trans h⟩)

/- (horologe/nist.reader).exact -/
@[reducible] def pi_nist_reader_exact_io : PSh := ⟨[.var 128 [.v .str, .v (.int .i64), .v .err]], [.mk true [.ref 0 0], .mk false [.v .str]]⟩
@[reducible] def po_nist_reader_exact_io : PSh := ⟨[.var 128 [.v .str, .v (.int .i64), .v .err]], [.mk false [.ref 0 0]]⟩
@[reducible] def TT_nist_reader_exact_io : Type := (((((ByteArray × (Int × ((Option Int) × Unit))) × (Unit × Unit)) × (Unit × ((ByteArray × Unit) × (Unit × ((Int × Unit) × ((Int × Unit) × Unit)))))) → Option (((ByteArray × (Int × ((Option Int) × Unit))) × Unit) × (Unit × Unit))) × Unit)
@[reducible] def sh_nist_reader_exact_io_2 : PSh := ⟨[.var 128 [.v .str, .v (.int .i64), .v .err], .var 64 [.ref 0 0]], [.mk true [.ref 0 0], .mk false [.v .str], .mk false [.ref 1 0], .any, .any, .any, .mk false [.v (.int .i64)], .mk false [.v (.int .i64)], .any, .any, .any, .any, .any, .any, .any, .any, .any, .any, .any, .any, .any, .any]⟩
def f_nist_reader_exact_io_p2 (T : TT_nist_reader_exact_io) (d : ((ByteArray × (Int × ((Option Int) × Unit))) × (Unit × Unit)) × (Unit × ((ByteArray × Unit) × (Unit × ((Int × Unit) × ((Int × Unit) × Unit)))))) : Option (((ByteArray × (Int × ((Option Int) × Unit))) × Unit) × (Unit × Unit)) :=
  let x2 : Bool := (decide (d.2.2.2.2.2.1.1 < d.2.2.2.2.1.1))
  bif x2 then (
  bif decide ((0 : Int) ≤ d.2.2.2.2.2.1.1) && decide (d.2.2.2.2.2.1.1 < ((d.2.2.1.1.size : Int) : Int)) then (
  let x3 : Int := (bt d.2.2.1.1 d.2.2.2.2.2.1.1)
  (g_scan_Scanner_string_Take_io (((d.1.1.1, (d.1.1.2.1, (d.1.1.2.2.1, ()))), ()), ((), ((x3, ()), ())))).bind fun x4 =>
  let x5 : Bool := (!x4.2.1.1)
  bif x5 then (
  let x6 : (Option Int) := (some (2 : Int))
  (g_scan_Scanner_string_Fail_io (((x4.1.1.1, (x4.1.1.2.1, (x4.1.1.2.2.1, ()))), ()), ((), ((x6, ()), ())))).bind fun x7 =>
  let x8 : Int := (iadd .i64 d.2.2.2.2.2.1.1 (1 : Int))
  (T.1 (((x7.1.1.1, (x7.1.1.2.1, (x7.1.1.2.2.1, ()))), ((), ())), ((), ((d.2.2.1.1, ()), ((), ((d.2.2.2.2.1.1, ()), ((x8, ()), ()))))))))
  else (
  let x9 : Int := (iadd .i64 d.2.2.2.2.2.1.1 (1 : Int))
  (T.1 (((x4.1.1.1, (x4.1.1.2.1, (x4.1.1.2.2.1, ()))), ((), ())), ((), ((d.2.2.1.1, ()), ((), ((d.2.2.2.2.1.1, ()), ((x9, ()), ())))))))))
  else none)
  else (
  some (((d.1.1.1, (d.1.1.2.1, (d.1.1.2.2.1, ()))), ()), ((), ())))
def f_nist_reader_exact_io_t : Nat → TT_nist_reader_exact_io
  | 0 => (fun _ => none, ())
  | k + 1 => (f_nist_reader_exact_io_p2 (f_nist_reader_exact_io_t k), ())
theorem t_nist_reader_exact_io (k : Nat) : f_nist_reader_exact_io_t (k + 1) = (f_nist_reader_exact_io_p2 (f_nist_reader_exact_io_t k), ()) := rfl
def f_nist_reader_exact_io_m (T : TT_nist_reader_exact_io) (d : ((ByteArray × (Int × ((Option Int) × Unit))) × Unit) × (Unit × ((ByteArray × Unit) × Unit))) : Option (((ByteArray × (Int × ((Option Int) × Unit))) × Unit) × (Unit × Unit)) :=
  let x1 : Int := (d.2.2.1.1.size : Int)
  (T.1 (((d.1.1.1, (d.1.1.2.1, (d.1.1.2.2.1, ()))), ((), ())), ((), ((d.2.2.1.1, ()), ((), ((x1, ()), (((0 : Int), ()), ())))))))
def c_nist_reader_exact_io : List Nat := []
def L_nist_reader_exact_io (k : Nat) : Pts po_nist_reader_exact_io.den := [(2, ⟨sh_nist_reader_exact_io_2, (f_nist_reader_exact_io_t k).1⟩)]
def E_nist_reader_exact_io : Env := (((E0.add 26 (ioSem pi_scan_Scanner_string_Take_io po_scan_Scanner_string_Take_io 1 [(0, 0, none)] g_scan_Scanner_string_Take_io)).add 44 (ioSem pi_scan_Scanner_string_Fail_io po_scan_Scanner_string_Fail_io 0 [(0, 0, none)] g_scan_Scanner_string_Fail_io)).kp [0])
theorem q_nist_reader_exact_io_2 (k : Nat) (d : ((ByteArray × (Int × ((Option Int) × Unit))) × (Unit × Unit)) × (Unit × ((ByteArray × Unit) × (Unit × ((Int × Unit) × ((Int × Unit) × Unit)))))) : evAt E_nist_reader_exact_io (tab (L_nist_reader_exact_io k)) c_nist_reader_exact_io 2 (bodyOf Tryz.f23) 0 (finKio E_nist_reader_exact_io po_nist_reader_exact_io [] [(0, some 0)]) (ptSt sh_nist_reader_exact_io_2 d) = f_nist_reader_exact_io_p2 (f_nist_reader_exact_io_t k) d := by kernel_rfl
theorem q_nist_reader_exact_io_m (k : Nat) (d : ((ByteArray × (Int × ((Option Int) × Unit))) × Unit) × (Unit × ((ByteArray × Unit) × Unit))) : evCode E_nist_reader_exact_io (tab (L_nist_reader_exact_io k)) c_nist_reader_exact_io (bodyOf Tryz.f23) 0 (finKio E_nist_reader_exact_io po_nist_reader_exact_io [] [(0, some 0)]) (startSt pi_nist_reader_exact_io 22 d) = f_nist_reader_exact_io_m (f_nist_reader_exact_io_t k) d := by kernel_rfl
theorem go_nist_reader_exact_io (F : ((ByteArray × (Int × ((Option Int) × Unit))) × Unit) × (Unit × ((ByteArray × Unit) × Unit)) → Option (((ByteArray × (Int × ((Option Int) × Unit))) × Unit) × (Unit × Unit))) (hF : ∀ d out, F d = some out → ∃ k, f_nist_reader_exact_io_m (f_nist_reader_exact_io_t k) d = some out) : FnIo Tryz.prog ET0 23 pi_nist_reader_exact_io po_nist_reader_exact_io 0 [(0, 0, some 0)] F :=
  fn_of_bodyIo (E := E_nist_reader_exact_io) (envOk_kp (envOk_add (envOk_add e0_ok (io_ok ok_scan_Scanner_string_Take_io)) (io_ok ok_scan_Scanner_string_Fail_io))) (fn := Tryz.f23) Tryz.func23 (by kernel_rfl) (by kernel_rfl) [] [(0, some 0)] [(0, 0, some 0)] (by kernel_rfl) (by kernel_rfl) (by kernel_rfl) (by kernel_rfl) (by decide) (by decide) c_nist_reader_exact_io L_nist_reader_exact_io
    (by intro x hx d; simp only [L_nist_reader_exact_io, List.mem_cons, List.not_mem_nil, or_false] at hx; subst hx; rfl)
    (by intro k x hx d out h; simp only [L_nist_reader_exact_io, List.mem_cons, List.not_mem_nil, or_false] at hx; subst hx; exact (q_nist_reader_exact_io_2 k d).trans h)
    (by intro d out h; obtain ⟨k, hk⟩ := hF d out h; exact ⟨k, (q_nist_reader_exact_io_m k d).trans hk⟩)
def g_nist_reader_exact_io (d : ((ByteArray × (Int × ((Option Int) × Unit))) × Unit) × (Unit × ((ByteArray × Unit) × Unit))) : Option (((ByteArray × (Int × ((Option Int) × Unit))) × Unit) × (Unit × Unit)) := lim fun k => f_nist_reader_exact_io_m (f_nist_reader_exact_io_t k) d
theorem ok_nist_reader_exact_io : FnIo Tryz.prog ET0 23 pi_nist_reader_exact_io po_nist_reader_exact_io 0 [(0, 0, some 0)] g_nist_reader_exact_io := go_nist_reader_exact_io g_nist_reader_exact_io fun d out h => lim_some h

/- (*horologe/scan.Scanner[string]).Figures -/
@[reducible] def pi_scan_Scanner_string_Figures_io : PSh := ⟨[.var 128 [.v .str, .v (.int .i64), .v .err]], [.mk false [.ref 0 0], .mk false [.v (.int .i64)], .mk false [.v (.int .i64)]]⟩
@[reducible] def po_scan_Scanner_string_Figures_io : PSh := ⟨[.var 128 [.v .str, .v (.int .i64), .v .err]], [.mk false [.v (.int .i64)], .mk false [.ref 0 0]]⟩
def f_scan_Scanner_string_Figures_io_m (T : Unit) (d : ((ByteArray × (Int × ((Option Int) × Unit))) × Unit) × (Unit × ((Int × Unit) × ((Int × Unit) × Unit)))) : Option (((ByteArray × (Int × ((Option Int) × Unit))) × Unit) × ((Int × Unit) × (Unit × Unit))) :=
  (g_scan_Scanner_string_going ((), (((some (d.1.1.1, (d.1.1.2.1, d.1.1.2.2.1))), ()), ()))).bind fun x1 =>
  let x2 : Bool := (!x1.2.1.1)
  bif x2 then (
  some (((d.1.1.1, (d.1.1.2.1, (d.1.1.2.2.1, ()))), ()), (((0 : Int), ()), ((), ()))))
  else (
  (g_scan_Scanner_string_rest ((), (((some (d.1.1.1, (d.1.1.2.1, d.1.1.2.2.1))), ()), ()))).bind fun x3 =>
  (g_figures_Take ((), ((x3.2.1.1, ()), ((d.2.2.1.1, ()), ((d.2.2.2.1.1, ()), ()))))).bind fun x4 =>
  let x5 : Bool := (!x4.2.2.2.1.1.isNone)
  bif x5 then (
  some (((d.1.1.1, (d.1.1.2.1, (x4.2.2.2.1.1, ()))), ()), (((0 : Int), ()), ((), ()))))
  else (
  (g_scan_Scanner_string_take_io (((d.1.1.1, (d.1.1.2.1, (d.1.1.2.2.1, ()))), ()), ((), ((x4.2.2.1.1, ()), ())))).bind fun x6 =>
  some (((x6.1.1.1, (x6.1.1.2.1, (x6.1.1.2.2.1, ()))), ()), ((x4.2.1.1, ()), ((), ())))))
def c_scan_Scanner_string_Figures_io : List Nat := []
def L_scan_Scanner_string_Figures_io (_ : Nat) : Pts po_scan_Scanner_string_Figures_io.den := []
def E_scan_Scanner_string_Figures_io : Env := (((((E0.add 73 (ioSem pi_scan_Scanner_string_take_io po_scan_Scanner_string_take_io 1 [(0, 0, none)] g_scan_Scanner_string_take_io)).add 97 (typedSem pi_scan_Scanner_string_going po_scan_Scanner_string_going g_scan_Scanner_string_going)).add 122 (typedSem pi_figures_Take po_figures_Take g_figures_Take)).add 123 (typedSem pi_scan_Scanner_string_rest po_scan_Scanner_string_rest g_scan_Scanner_string_rest)).kp [0])
theorem q_scan_Scanner_string_Figures_io_m (k : Nat) (d : ((ByteArray × (Int × ((Option Int) × Unit))) × Unit) × (Unit × ((Int × Unit) × ((Int × Unit) × Unit)))) : evCode E_scan_Scanner_string_Figures_io (tab (L_scan_Scanner_string_Figures_io k)) c_scan_Scanner_string_Figures_io (bodyOf Tryz.f68) 0 (finKio E_scan_Scanner_string_Figures_io po_scan_Scanner_string_Figures_io [.tmp 6] [(0, none)]) (startSt pi_scan_Scanner_string_Figures_io 32 d) = f_scan_Scanner_string_Figures_io_m () d := by kernel_rfl
def g_scan_Scanner_string_Figures_io (d : ((ByteArray × (Int × ((Option Int) × Unit))) × Unit) × (Unit × ((Int × Unit) × ((Int × Unit) × Unit)))) : Option (((ByteArray × (Int × ((Option Int) × Unit))) × Unit) × ((Int × Unit) × (Unit × Unit))) := f_scan_Scanner_string_Figures_io_m () d
theorem ok_scan_Scanner_string_Figures_io : FnIo Tryz.prog ET0 68 pi_scan_Scanner_string_Figures_io po_scan_Scanner_string_Figures_io 1 [(0, 0, none)] g_scan_Scanner_string_Figures_io :=
  fn_of_bodyIo (E := E_scan_Scanner_string_Figures_io) (envOk_kp (envOk_add (envOk_add (envOk_add (envOk_add e0_ok (io_ok ok_scan_Scanner_string_take_io)) (typed_ok ok_scan_Scanner_string_going)) (typed_ok ok_figures_Take)) (typed_ok ok_scan_Scanner_string_rest))) (fn := Tryz.f68) Tryz.func68 (by kernel_rfl) (by kernel_rfl) [.tmp 6] [(0, none)] [(0, 0, none)] (by kernel_rfl) (by kernel_rfl) (by kernel_rfl) (by kernel_rfl) (by decide) (by decide) c_scan_Scanner_string_Figures_io L_scan_Scanner_string_Figures_io
    (by intro x hx; cases hx) (by intro k x hx; cases hx) (fun d out h => ⟨0, (q_scan_Scanner_string_Figures_io_m 0 d).trans h⟩)

/- (horologe/nist.reader).number -/
@[reducible] def pi_nist_reader_number_io : PSh := ⟨[.var 128 [.v .str, .v (.int .i64), .v .err]], [.mk true [.ref 0 0], .mk false [.v .str], .mk false [.v (.int .i64)]]⟩
@[reducible] def po_nist_reader_number_io : PSh := ⟨[.var 128 [.v .str, .v (.int .i64), .v .err]], [.mk false [.v (.int .i64)], .mk false [.ref 0 0]]⟩
def f_nist_reader_number_io_m (T : Unit) (d : ((ByteArray × (Int × ((Option Int) × Unit))) × Unit) × (Unit × ((ByteArray × Unit) × ((Int × Unit) × Unit)))) : Option (((ByteArray × (Int × ((Option Int) × Unit))) × Unit) × ((Int × Unit) × (Unit × Unit))) :=
  (g_nist_reader_exact_io (((d.1.1.1, (d.1.1.2.1, (d.1.1.2.2.1, ()))), ()), ((), ((d.2.2.1.1, ()), ())))).bind fun x1 =>
  (g_scan_Scanner_string_Figures_io (((x1.1.1.1, (x1.1.1.2.1, (x1.1.1.2.2.1, ()))), ()), ((), ((d.2.2.2.1.1, ()), ((d.2.2.2.1.1, ()), ()))))).bind fun x2 =>
  some (((x2.1.1.1, (x2.1.1.2.1, (x2.1.1.2.2.1, ()))), ()), ((x2.2.1.1, ()), ((), ())))
def c_nist_reader_number_io : List Nat := []
def L_nist_reader_number_io (_ : Nat) : Pts po_nist_reader_number_io.den := []
def E_nist_reader_number_io : Env := (((E0.add 23 (ioSem pi_nist_reader_exact_io po_nist_reader_exact_io 0 [(0, 0, some 0)] g_nist_reader_exact_io)).add 68 (ioSem pi_scan_Scanner_string_Figures_io po_scan_Scanner_string_Figures_io 1 [(0, 0, none)] g_scan_Scanner_string_Figures_io)).kp [0])
theorem q_nist_reader_number_io_m (k : Nat) (d : ((ByteArray × (Int × ((Option Int) × Unit))) × Unit) × (Unit × ((ByteArray × Unit) × ((Int × Unit) × Unit)))) : evCode E_nist_reader_number_io (tab (L_nist_reader_number_io k)) c_nist_reader_number_io (bodyOf Tryz.f24) 0 (finKio E_nist_reader_number_io po_nist_reader_number_io [.tmp 6] [(0, some 0)]) (startSt pi_nist_reader_number_io 15 d) = f_nist_reader_number_io_m () d := by kernel_rfl
def g_nist_reader_number_io (d : ((ByteArray × (Int × ((Option Int) × Unit))) × Unit) × (Unit × ((ByteArray × Unit) × ((Int × Unit) × Unit)))) : Option (((ByteArray × (Int × ((Option Int) × Unit))) × Unit) × ((Int × Unit) × (Unit × Unit))) := f_nist_reader_number_io_m () d
theorem ok_nist_reader_number_io : FnIo Tryz.prog ET0 24 pi_nist_reader_number_io po_nist_reader_number_io 1 [(0, 0, some 0)] g_nist_reader_number_io :=
  fn_of_bodyIo (E := E_nist_reader_number_io) (envOk_kp (envOk_add (envOk_add e0_ok (io_ok ok_nist_reader_exact_io)) (io_ok ok_scan_Scanner_string_Figures_io))) (fn := Tryz.f24) Tryz.func24 (by kernel_rfl) (by kernel_rfl) [.tmp 6] [(0, some 0)] [(0, 0, some 0)] (by kernel_rfl) (by kernel_rfl) (by kernel_rfl) (by kernel_rfl) (by decide) (by decide) c_nist_reader_number_io L_nist_reader_number_io
    (by intro x hx; cases hx) (by intro k x hx; cases hx) (fun d out h => ⟨0, (q_nist_reader_number_io_m 0 d).trans h⟩)

/- (*horologe/scan.Scanner[string]).Run -/
@[reducible] def pi_scan_Scanner_string_Run_io : PSh := ⟨[.var 128 [.v .str, .v (.int .i64), .v .err]], [.mk false [.ref 0 0], .mk false [.v .str]]⟩
@[reducible] def po_scan_Scanner_string_Run_io : PSh := ⟨[.var 128 [.v .str, .v (.int .i64), .v .err]], [.mk false [.v .str], .mk false [.ref 0 0]]⟩
@[reducible] def TT_scan_Scanner_string_Run_io : Type := (((((ByteArray × (Int × ((Option Int) × Unit))) × Unit) × (Unit × ((ByteArray × Unit) × ((ByteArray × Unit) × ((Int × Unit) × Unit))))) → Option (((ByteArray × (Int × ((Option Int) × Unit))) × Unit) × ((ByteArray × Unit) × (Unit × Unit)))) × Unit)
@[reducible] def sh_scan_Scanner_string_Run_io_4 : PSh := ⟨[.var 128 [.v .str, .v (.int .i64), .v .err]], [.mk false [.ref 0 0], .mk false [.v .str], .any, .any, .any, .mk false [.v .str], .mk false [.v (.int .i64)], .any, .any, .any, .any, .any, .any, .any, .any, .any, .any, .any, .any, .any, .any, .any, .any, .any, .any, .any]⟩
def f_scan_Scanner_string_Run_io_p4 (T : TT_scan_Scanner_string_Run_io) (d : ((ByteArray × (Int × ((Option Int) × Unit))) × Unit) × (Unit × ((ByteArray × Unit) × ((ByteArray × Unit) × ((Int × Unit) × Unit))))) : Option (((ByteArray × (Int × ((Option Int) × Unit))) × Unit) × ((ByteArray × Unit) × (Unit × Unit))) :=
  let x2 : Int := (d.2.2.2.1.1.size : Int)
  let x3 : Bool := (decide (d.2.2.2.2.1.1 < x2))
  bif x3 then (
  bif decide ((0 : Int) ≤ d.2.2.2.2.1.1) && decide (d.2.2.2.2.1.1 < ((d.2.2.2.1.1.size : Int) : Int)) then (
  let x4 : Int := (bt d.2.2.2.1.1 d.2.2.2.2.1.1)
  (g_strings_IndexByte ((), ((d.2.2.1.1, ()), ((x4, ()), ())))).bind fun x5 =>
  let x6 : Bool := (decide (x5.2.1.1 ≥ (0 : Int)))
  bif x6 then (
  let x7 : Int := (iadd .i64 d.2.2.2.2.1.1 (1 : Int))
  (T.1 (((d.1.1.1, (d.1.1.2.1, (d.1.1.2.2.1, ()))), ()), ((), ((d.2.2.1.1, ()), ((d.2.2.2.1.1, ()), ((x7, ()), ())))))))
  else (
  (g_scan_Scanner_string_take_io (((d.1.1.1, (d.1.1.2.1, (d.1.1.2.2.1, ()))), ()), ((), ((d.2.2.2.2.1.1, ()), ())))).bind fun x8 =>
  some (((x8.1.1.1, (x8.1.1.2.1, (x8.1.1.2.2.1, ()))), ()), ((x8.2.1.1, ()), ((), ())))))
  else none)
  else (
  (g_scan_Scanner_string_take_io (((d.1.1.1, (d.1.1.2.1, (d.1.1.2.2.1, ()))), ()), ((), ((d.2.2.2.2.1.1, ()), ())))).bind fun x9 =>
  some (((x9.1.1.1, (x9.1.1.2.1, (x9.1.1.2.2.1, ()))), ()), ((x9.2.1.1, ()), ((), ()))))
def f_scan_Scanner_string_Run_io_t : Nat → TT_scan_Scanner_string_Run_io
  | 0 => (fun _ => none, ())
  | k + 1 => (f_scan_Scanner_string_Run_io_p4 (f_scan_Scanner_string_Run_io_t k), ())
theorem t_scan_Scanner_string_Run_io (k : Nat) : f_scan_Scanner_string_Run_io_t (k + 1) = (f_scan_Scanner_string_Run_io_p4 (f_scan_Scanner_string_Run_io_t k), ()) := rfl
def f_scan_Scanner_string_Run_io_m (T : TT_scan_Scanner_string_Run_io) (d : ((ByteArray × (Int × ((Option Int) × Unit))) × Unit) × (Unit × ((ByteArray × Unit) × Unit))) : Option (((ByteArray × (Int × ((Option Int) × Unit))) × Unit) × ((ByteArray × Unit) × (Unit × Unit))) :=
  (g_scan_Scanner_string_rest ((), (((some (d.1.1.1, (d.1.1.2.1, d.1.1.2.2.1))), ()), ()))).bind fun x1 =>
  (T.1 (((d.1.1.1, (d.1.1.2.1, (d.1.1.2.2.1, ()))), ()), ((), ((d.2.2.1.1, ()), ((x1.2.1.1, ()), (((0 : Int), ()), ()))))))
def c_scan_Scanner_string_Run_io : List Nat := []
def L_scan_Scanner_string_Run_io (k : Nat) : Pts po_scan_Scanner_string_Run_io.den := [(4, ⟨sh_scan_Scanner_string_Run_io_4, (f_scan_Scanner_string_Run_io_t k).1⟩)]
def E_scan_Scanner_string_Run_io : Env := ((((E0.add 73 (ioSem pi_scan_Scanner_string_take_io po_scan_Scanner_string_take_io 1 [(0, 0, none)] g_scan_Scanner_string_take_io)).add 123 (typedSem pi_scan_Scanner_string_rest po_scan_Scanner_string_rest g_scan_Scanner_string_rest)).add 124 (typedSem pi_strings_IndexByte po_strings_IndexByte g_strings_IndexByte)).kp [0])
theorem q_scan_Scanner_string_Run_io_4 (k : Nat) (d : ((ByteArray × (Int × ((Option Int) × Unit))) × Unit) × (Unit × ((ByteArray × Unit) × ((ByteArray × Unit) × ((Int × Unit) × Unit))))) : evAt E_scan_Scanner_string_Run_io (tab (L_scan_Scanner_string_Run_io k)) c_scan_Scanner_string_Run_io 4 (bodyOf Tryz.f70) 0 (finKio E_scan_Scanner_string_Run_io po_scan_Scanner_string_Run_io [.tmp 4] [(0, none)]) (ptSt sh_scan_Scanner_string_Run_io_4 d) = f_scan_Scanner_string_Run_io_p4 (f_scan_Scanner_string_Run_io_t k) d := by kernel_rfl
theorem q_scan_Scanner_string_Run_io_m (k : Nat) (d : ((ByteArray × (Int × ((Option Int) × Unit))) × Unit) × (Unit × ((ByteArray × Unit) × Unit))) : evCode E_scan_Scanner_string_Run_io (tab (L_scan_Scanner_string_Run_io k)) c_scan_Scanner_string_Run_io (bodyOf Tryz.f70) 0 (finKio E_scan_Scanner_string_Run_io po_scan_Scanner_string_Run_io [.tmp 4] [(0, none)]) (startSt pi_scan_Scanner_string_Run_io 26 d) = f_scan_Scanner_string_Run_io_m (f_scan_Scanner_string_Run_io_t k) d := by kernel_rfl
theorem go_scan_Scanner_string_Run_io (F : ((ByteArray × (Int × ((Option Int) × Unit))) × Unit) × (Unit × ((ByteArray × Unit) × Unit)) → Option (((ByteArray × (Int × ((Option Int) × Unit))) × Unit) × ((ByteArray × Unit) × (Unit × Unit)))) (hF : ∀ d out, F d = some out → ∃ k, f_scan_Scanner_string_Run_io_m (f_scan_Scanner_string_Run_io_t k) d = some out) : FnIo Tryz.prog ET0 70 pi_scan_Scanner_string_Run_io po_scan_Scanner_string_Run_io 1 [(0, 0, none)] F :=
  fn_of_bodyIo (E := E_scan_Scanner_string_Run_io) (envOk_kp (envOk_add (envOk_add (envOk_add e0_ok (io_ok ok_scan_Scanner_string_take_io)) (typed_ok ok_scan_Scanner_string_rest)) (typed_ok ok_strings_IndexByte))) (fn := Tryz.f70) Tryz.func70 (by kernel_rfl) (by kernel_rfl) [.tmp 4] [(0, none)] [(0, 0, none)] (by kernel_rfl) (by kernel_rfl) (by kernel_rfl) (by kernel_rfl) (by decide) (by decide) c_scan_Scanner_string_Run_io L_scan_Scanner_string_Run_io
    (by intro x hx d; simp only [L_scan_Scanner_string_Run_io, List.mem_cons, List.not_mem_nil, or_false] at hx; subst hx; rfl)
    (by intro k x hx d out h; simp only [L_scan_Scanner_string_Run_io, List.mem_cons, List.not_mem_nil, or_false] at hx; subst hx; exact (q_scan_Scanner_string_Run_io_4 k d).trans h)
    (by intro d out h; obtain ⟨k, hk⟩ := hF d out h; exact ⟨k, (q_scan_Scanner_string_Run_io_m k d).trans hk⟩)
def g_scan_Scanner_string_Run_io (d : ((ByteArray × (Int × ((Option Int) × Unit))) × Unit) × (Unit × ((ByteArray × Unit) × Unit))) : Option (((ByteArray × (Int × ((Option Int) × Unit))) × Unit) × ((ByteArray × Unit) × (Unit × Unit))) := lim fun k => f_scan_Scanner_string_Run_io_m (f_scan_Scanner_string_Run_io_t k) d
theorem ok_scan_Scanner_string_Run_io : FnIo Tryz.prog ET0 70 pi_scan_Scanner_string_Run_io po_scan_Scanner_string_Run_io 1 [(0, 0, none)] g_scan_Scanner_string_Run_io := go_scan_Scanner_string_Run_io g_scan_Scanner_string_Run_io fun d out h => lim_some h

/- (horologe/nist.reader).advance -/
@[reducible] def pi_nist_reader_advance_io : PSh := ⟨[.var 128 [.v .str, .v (.int .i64), .v .err]], [.mk true [.ref 0 0]]⟩
@[reducible] def po_nist_reader_advance_io : PSh := ⟨[.var 128 [.v .str, .v (.int .i64), .v .err]], [.mk false [.v (.int .i64)], .mk false [.ref 0 0]]⟩
def f_nist_reader_advance_io_m (T : Unit) (d : ((ByteArray × (Int × ((Option Int) × Unit))) × Unit) × (Unit × Unit)) : Option (((ByteArray × (Int × ((Option Int) × Unit))) × Unit) × ((Int × Unit) × (Unit × Unit))) :=
  (g_nist_reader_exact_io (((d.1.1.1, (d.1.1.2.1, (d.1.1.2.2.1, ()))), ()), ((), (((⟨#[32]⟩ : ByteArray), ()), ())))).bind fun x1 =>
  (g_scan_Scanner_string_At ((), (((some (x1.1.1.1, (x1.1.1.2.1, x1.1.1.2.2.1))), ()), ()))).bind fun x2 =>
  (g_scan_Scanner_string_Run_io (((x1.1.1.1, (x1.1.1.2.1, (x1.1.1.2.2.1, ()))), ()), ((), (((⟨#[32]⟩ : ByteArray), ()), ())))).bind fun x3 =>
  (g_scan_Scanner_string_Figures_io (((x3.1.1.1, (x3.1.1.2.1, (x3.1.1.2.2.1, ()))), ()), ((), (((1 : Int), ()), (((3 : Int), ()), ()))))).bind fun x4 =>
  (g_figures_Put ((), ((x4.2.1.1, ()), (((1 : Int), ()), ())))).bind fun x5 =>
  let x6 : Bool := (!x5.2.2.1.1.isNone)
  bif x6 then (
  let x7 : (Option Int) := (some (2 : Int))
  (g_scan_Scanner_string_Fail_io (((x4.1.1.1, (x4.1.1.2.1, (x4.1.1.2.2.1, ()))), ()), ((), ((x7, ()), ())))).bind fun x8 =>
  let x9 : Int := (imul .i64 x4.2.1.1 (10 : Int))
  (g_nist_reader_number_io (((x8.1.1.1, (x8.1.1.2.1, (x8.1.1.2.2.1, ()))), ()), ((), (((⟨#[46]⟩ : ByteArray), ()), (((1 : Int), ()), ()))))).bind fun x10 =>
  let x11 : Int := (iadd .i64 x9 x10.2.1.1)
  some (((x10.1.1.1, (x10.1.1.2.1, (x10.1.1.2.2.1, ()))), ()), ((x11, ()), ((), ()))))
  else (
  (g_scan_Scanner_string_At ((), (((some (x4.1.1.1, (x4.1.1.2.1, x4.1.1.2.2.1))), ()), ()))).bind fun x12 =>
  let x13 : Int := (isub .i64 x12.2.1.1 x2.2.1.1)
  let x14 : Bool := (x13 != (3 : Int))
  bif x14 then (
  let x15 : (Option Int) := (some (2 : Int))
  (g_scan_Scanner_string_Fail_io (((x4.1.1.1, (x4.1.1.2.1, (x4.1.1.2.2.1, ()))), ()), ((), ((x15, ()), ())))).bind fun x16 =>
  let x17 : Int := (imul .i64 x4.2.1.1 (10 : Int))
  (g_nist_reader_number_io (((x16.1.1.1, (x16.1.1.2.1, (x16.1.1.2.2.1, ()))), ()), ((), (((⟨#[46]⟩ : ByteArray), ()), (((1 : Int), ()), ()))))).bind fun x18 =>
  let x19 : Int := (iadd .i64 x17 x18.2.1.1)
  some (((x18.1.1.1, (x18.1.1.2.1, (x18.1.1.2.2.1, ()))), ()), ((x19, ()), ((), ()))))
  else (
  let x20 : Int := (x3.2.1.1.size : Int)
  let x21 : Int := (x5.2.1.1.size : Int)
  let x22 : Int := (iadd .i64 x20 x21)
  let x23 : Bool := (x22 != (3 : Int))
  bif x23 then (
  let x24 : (Option Int) := (some (2 : Int))
  (g_scan_Scanner_string_Fail_io (((x4.1.1.1, (x4.1.1.2.1, (x4.1.1.2.2.1, ()))), ()), ((), ((x24, ()), ())))).bind fun x25 =>
  let x26 : Int := (imul .i64 x4.2.1.1 (10 : Int))
  (g_nist_reader_number_io (((x25.1.1.1, (x25.1.1.2.1, (x25.1.1.2.2.1, ()))), ()), ((), (((⟨#[46]⟩ : ByteArray), ()), (((1 : Int), ()), ()))))).bind fun x27 =>
  let x28 : Int := (iadd .i64 x26 x27.2.1.1)
  some (((x27.1.1.1, (x27.1.1.2.1, (x27.1.1.2.2.1, ()))), ()), ((x28, ()), ((), ()))))
  else (
  let x29 : Int := (imul .i64 x4.2.1.1 (10 : Int))
  (g_nist_reader_number_io (((x4.1.1.1, (x4.1.1.2.1, (x4.1.1.2.2.1, ()))), ()), ((), (((⟨#[46]⟩ : ByteArray), ()), (((1 : Int), ()), ()))))).bind fun x30 =>
  let x31 : Int := (iadd .i64 x29 x30.2.1.1)
  some (((x30.1.1.1, (x30.1.1.2.1, (x30.1.1.2.2.1, ()))), ()), ((x31, ()), ((), ()))))))
def c_nist_reader_advance_io : List Nat := []
def L_nist_reader_advance_io (_ : Nat) : Pts po_nist_reader_advance_io.den := []
def E_nist_reader_advance_io : Env := ((((((((E0.add 23 (ioSem pi_nist_reader_exact_io po_nist_reader_exact_io 0 [(0, 0, some 0)] g_nist_reader_exact_io)).add 24 (ioSem pi_nist_reader_number_io po_nist_reader_number_io 1 [(0, 0, some 0)] g_nist_reader_number_io)).add 44 (ioSem pi_scan_Scanner_string_Fail_io po_scan_Scanner_string_Fail_io 0 [(0, 0, none)] g_scan_Scanner_string_Fail_io)).add 68 (ioSem pi_scan_Scanner_string_Figures_io po_scan_Scanner_string_Figures_io 1 [(0, 0, none)] g_scan_Scanner_string_Figures_io)).add 69 (typedSem pi_scan_Scanner_string_At po_scan_Scanner_string_At g_scan_Scanner_string_At)).add 70 (ioSem pi_scan_Scanner_string_Run_io po_scan_Scanner_string_Run_io 1 [(0, 0, none)] g_scan_Scanner_string_Run_io)).add 71 (typedSem pi_figures_Put po_figures_Put g_figures_Put)).kp [0])
theorem q_nist_reader_advance_io_m (k : Nat) (d : ((ByteArray × (Int × ((Option Int) × Unit))) × Unit) × (Unit × Unit)) : evCode E_nist_reader_advance_io (tab (L_nist_reader_advance_io k)) c_nist_reader_advance_io (bodyOf Tryz.f25) 0 (finKio E_nist_reader_advance_io po_nist_reader_advance_io [.tmp 2] [(0, some 0)]) (startSt pi_nist_reader_advance_io 51 d) = f_nist_reader_advance_io_m () d := by kernel_rfl
def g_nist_reader_advance_io (d : ((ByteArray × (Int × ((Option Int) × Unit))) × Unit) × (Unit × Unit)) : Option (((ByteArray × (Int × ((Option Int) × Unit))) × Unit) × ((Int × Unit) × (Unit × Unit))) := f_nist_reader_advance_io_m () d
theorem ok_nist_reader_advance_io : FnIo Tryz.prog ET0 25 pi_nist_reader_advance_io po_nist_reader_advance_io 1 [(0, 0, some 0)] g_nist_reader_advance_io :=
  fn_of_bodyIo (E := E_nist_reader_advance_io) (envOk_kp (envOk_add (envOk_add (envOk_add (envOk_add (envOk_add (envOk_add (envOk_add e0_ok (io_ok ok_nist_reader_exact_io)) (io_ok ok_nist_reader_number_io)) (io_ok ok_scan_Scanner_string_Fail_io)) (io_ok ok_scan_Scanner_string_Figures_io)) (typed_ok ok_scan_Scanner_string_At)) (io_ok ok_scan_Scanner_string_Run_io)) (typed_ok ok_figures_Put))) (fn := Tryz.f25) Tryz.func25 (by kernel_rfl) (by kernel_rfl) [.tmp 2] [(0, some 0)] [(0, 0, some 0)] (by kernel_rfl) (by kernel_rfl) (by kernel_rfl) (by kernel_rfl) (by decide) (by decide) c_nist_reader_advance_io L_nist_reader_advance_io
    (by intro x hx; cases hx) (by intro k x hx; cases hx) (fun d out h => ⟨0, (q_nist_reader_advance_io_m 0 d).trans h⟩)

/- horologe/nist.Parse -/
@[reducible] def pi_nist_Parse : PSh := ⟨[], [.mk false [.v .str]]⟩
@[reducible] def po_nist_Parse : PSh := ⟨[], [.mk true [.v (.int .i64), .v (.int .i64), .v (.int .i64), .v (.int .i64), .v (.int .i64), .v (.int .i64), .v .bool], .mk false [.v .err]]⟩
def f_nist_Parse_m (T : Unit) (d : Unit × ((ByteArray × Unit) × Unit)) : Option (Unit × ((Int × (Int × (Int × (Int × (Int × (Int × (Bool × Unit))))))) × (((Option Int) × Unit) × Unit))) :=
  (g_scan_New_string ((), ((d.2.1.1, ()), ()))).bind fun x1 =>
  (g_nist_reader_exact_io (((x1.1.1.1, (x1.1.1.2.1, (x1.1.1.2.2.1, ()))), ()), ((), (((⟨#[10]⟩ : ByteArray), ()), ())))).bind fun x2 =>
  (g_nist_reader_number_io (((x2.1.1.1, (x2.1.1.2.1, (x2.1.1.2.2.1, ()))), ()), ((), (((⟨#[]⟩ : ByteArray), ()), (((5 : Int), ()), ()))))).bind fun x3 =>
  (g_nist_reader_number_io (((x3.1.1.1, (x3.1.1.2.1, (x3.1.1.2.2.1, ()))), ()), ((), (((⟨#[32]⟩ : ByteArray), ()), (((2 : Int), ()), ()))))).bind fun x4 =>
  (g_nist_reader_number_io (((x4.1.1.1, (x4.1.1.2.1, (x4.1.1.2.2.1, ()))), ()), ((), (((⟨#[45]⟩ : ByteArray), ()), (((2 : Int), ()), ()))))).bind fun x5 =>
  (g_nist_reader_number_io (((x5.1.1.1, (x5.1.1.2.1, (x5.1.1.2.2.1, ()))), ()), ((), (((⟨#[45]⟩ : ByteArray), ()), (((2 : Int), ()), ()))))).bind fun x6 =>
  (g_nist_reader_number_io (((x6.1.1.1, (x6.1.1.2.1, (x6.1.1.2.2.1, ()))), ()), ((), (((⟨#[32]⟩ : ByteArray), ()), (((2 : Int), ()), ()))))).bind fun x7 =>
  (g_nist_reader_number_io (((x7.1.1.1, (x7.1.1.2.1, (x7.1.1.2.2.1, ()))), ()), ((), (((⟨#[58]⟩ : ByteArray), ()), (((2 : Int), ()), ()))))).bind fun x8 =>
  (g_nist_reader_number_io (((x8.1.1.1, (x8.1.1.2.1, (x8.1.1.2.2.1, ()))), ()), ((), (((⟨#[58]⟩ : ByteArray), ()), (((2 : Int), ()), ()))))).bind fun x9 =>
  (g_nist_reader_number_io (((x9.1.1.1, (x9.1.1.2.1, (x9.1.1.2.2.1, ()))), ()), ((), (((⟨#[32]⟩ : ByteArray), ()), (((2 : Int), ()), ()))))).bind fun x10 =>
  (g_nist_reader_number_io (((x10.1.1.1, (x10.1.1.2.1, (x10.1.1.2.2.1, ()))), ()), ((), (((⟨#[32]⟩ : ByteArray), ()), (((1 : Int), ()), ()))))).bind fun x11 =>
  (g_nist_reader_number_io (((x11.1.1.1, (x11.1.1.2.1, (x11.1.1.2.2.1, ()))), ()), ((), (((⟨#[32]⟩ : ByteArray), ()), (((1 : Int), ()), ()))))).bind fun x12 =>
  (g_nist_reader_advance_io (((x12.1.1.1, (x12.1.1.2.1, (x12.1.1.2.2.1, ()))), ()), ((), ()))).bind fun x13 =>
  (g_nist_reader_exact_io (((x13.1.1.1, (x13.1.1.2.1, (x13.1.1.2.2.1, ()))), ()), ((), (((⟨#[32, 85, 84, 67, 40, 78, 73, 83, 84, 41, 32]⟩ : ByteArray), ()), ())))).bind fun x14 =>
  (g_scan_Scanner_string_Take_io (((x14.1.1.1, (x14.1.1.2.1, (x14.1.1.2.2.1, ()))), ()), ((), (((35 : Int), ()), ())))).bind fun x15 =>
  let x16 : Bool := (!x15.2.1.1)
  bif x16 then (
  (g_nist_reader_exact_io (((x15.1.1.1, (x15.1.1.2.1, (x15.1.1.2.2.1, ()))), ()), ((), (((⟨#[42]⟩ : ByteArray), ()), ())))).bind fun x17 =>
  (g_nist_reader_exact_io (((x17.1.1.1, (x17.1.1.2.1, (x17.1.1.2.2.1, ()))), ()), ((), (((⟨#[10]⟩ : ByteArray), ()), ())))).bind fun x18 =>
  (g_scan_Scanner_string_End ((), (((some (x18.1.1.1, (x18.1.1.2.1, x18.1.1.2.2.1))), ()), ()))).bind fun x19 =>
  let x20 : Bool := (!x19.2.1.1.isNone)
  bif x20 then (
  let x21 : (Option Int) := (some (2 : Int))
  some ((), (((0 : Int), ((0 : Int), ((0 : Int), ((0 : Int), ((0 : Int), ((0 : Int), (false, ()))))))), ((x21, ()), ()))))
  else (
  (g_nist_Line_told ((), (((0 : Int), ((0 : Int), (x10.2.1.1, (x11.2.1.1, (x12.2.1.1, (x13.2.1.1, (x15.2.1.1, ()))))))), ((x3.2.1.1, ()), ((x4.2.1.1, (x5.2.1.1, (x6.2.1.1, ()))), ((x7.2.1.1, (x8.2.1.1, (x9.2.1.1, ()))), ())))))).bind fun x22 =>
  some ((), ((x22.2.1.1, (x22.2.1.2.1, (x22.2.1.2.2.1, (x22.2.1.2.2.2.1, (x22.2.1.2.2.2.2.1, (x22.2.1.2.2.2.2.2.1, (x22.2.1.2.2.2.2.2.2.1, ()))))))), ((x22.2.2.1.1, ()), ())))))
  else (
  (g_nist_reader_exact_io (((x15.1.1.1, (x15.1.1.2.1, (x15.1.1.2.2.1, ()))), ()), ((), (((⟨#[10]⟩ : ByteArray), ()), ())))).bind fun x23 =>
  (g_scan_Scanner_string_End ((), (((some (x23.1.1.1, (x23.1.1.2.1, x23.1.1.2.2.1))), ()), ()))).bind fun x24 =>
  let x25 : Bool := (!x24.2.1.1.isNone)
  bif x25 then (
  let x26 : (Option Int) := (some (2 : Int))
  some ((), (((0 : Int), ((0 : Int), ((0 : Int), ((0 : Int), ((0 : Int), ((0 : Int), (false, ()))))))), ((x26, ()), ()))))
  else (
  (g_nist_Line_told ((), (((0 : Int), ((0 : Int), (x10.2.1.1, (x11.2.1.1, (x12.2.1.1, (x13.2.1.1, (x15.2.1.1, ()))))))), ((x3.2.1.1, ()), ((x4.2.1.1, (x5.2.1.1, (x6.2.1.1, ()))), ((x7.2.1.1, (x8.2.1.1, (x9.2.1.1, ()))), ())))))).bind fun x27 =>
  some ((), ((x27.2.1.1, (x27.2.1.2.1, (x27.2.1.2.2.1, (x27.2.1.2.2.2.1, (x27.2.1.2.2.2.2.1, (x27.2.1.2.2.2.2.2.1, (x27.2.1.2.2.2.2.2.2.1, ()))))))), ((x27.2.2.1.1, ()), ())))))
def c_nist_Parse : List Nat := []
def L_nist_Parse (_ : Nat) : Pts po_nist_Parse.den := []
def E_nist_Parse : Env := (((((((E0.add 22 (typedSem pi_scan_New_string po_scan_New_string g_scan_New_string)).add 23 (ioSem pi_nist_reader_exact_io po_nist_reader_exact_io 0 [(0, 0, some 0)] g_nist_reader_exact_io)).add 24 (ioSem pi_nist_reader_number_io po_nist_reader_number_io 1 [(0, 0, some 0)] g_nist_reader_number_io)).add 25 (ioSem pi_nist_reader_advance_io po_nist_reader_advance_io 1 [(0, 0, some 0)] g_nist_reader_advance_io)).add 26 (ioSem pi_scan_Scanner_string_Take_io po_scan_Scanner_string_Take_io 1 [(0, 0, none)] g_scan_Scanner_string_Take_io)).add 27 (typedSem pi_scan_Scanner_string_End po_scan_Scanner_string_End g_scan_Scanner_string_End)).add 28 (typedSem pi_nist_Line_told po_nist_Line_told g_nist_Line_told))
theorem q_nist_Parse_m (k : Nat) (d : Unit × ((ByteArray × Unit) × Unit)) : evCode E_nist_Parse (tab (L_nist_Parse k)) c_nist_Parse (bodyOf Tryz.f7) 0 (finK E_nist_Parse po_nist_Parse [.cell 2 28, .tmp 3]) (startSt pi_nist_Parse 66 d) = f_nist_Parse_m () d := by kernel_rfl
def g_nist_Parse (d : Unit × ((ByteArray × Unit) × Unit)) : Option (Unit × ((Int × (Int × (Int × (Int × (Int × (Int × (Bool × Unit))))))) × (((Option Int) × Unit) × Unit))) := f_nist_Parse_m () d
theorem ok_nist_Parse : FnOk Tryz.prog ET0 7 pi_nist_Parse po_nist_Parse g_nist_Parse :=
  fn_of_body (E := E_nist_Parse) (envOk_add (envOk_add (envOk_add (envOk_add (envOk_add (envOk_add (envOk_add e0_ok (typed_ok ok_scan_New_string)) (io_ok ok_nist_reader_exact_io)) (io_ok ok_nist_reader_number_io)) (io_ok ok_nist_reader_advance_io)) (io_ok ok_scan_Scanner_string_Take_io)) (typed_ok ok_scan_Scanner_string_End)) (typed_ok ok_nist_Line_told)) (fn := Tryz.f7) Tryz.func7 (by kernel_rfl) (by kernel_rfl) [.cell 2 28, .tmp 3] (by kernel_rfl) (by kernel_rfl) (by decide) rfl c_nist_Parse L_nist_Parse
    (by intro x hx; cases hx) (by intro k x hx; cases hx) (fun d out h => ⟨0, (q_nist_Parse_m 0 d).trans h⟩)

/- horologe/horologeref02.Is -/
@[reducible] def pi_ref02_Is : PSh := ⟨[], [.mk false [.v (.int .u8)]]⟩
@[reducible] def po_ref02_Is : PSh := ⟨[], [.mk false [.v .bool]]⟩
@[reducible] def TT_ref02_Is : Type := (((Unit × ((Int × Unit) × ((Int × Unit) × Unit))) → Option (Unit × ((Bool × Unit) × Unit))) × Unit)
@[reducible] def sh_ref02_Is_3 : PSh := ⟨[], [.mk false [.v (.int .u8)], .any, .any, .mk false [.v (.int .u8)], .any, .any, .any, .any, .any, .any, .any]⟩
def f_ref02_Is_p3 (T : TT_ref02_Is) (d : Unit × ((Int × Unit) × ((Int × Unit) × Unit))) : Option (Unit × ((Bool × Unit) × Unit)) :=
  let x1 : Bool := (decide (d.2.2.1.1 ≤ (57 : Int)))
  bif x1 then (
  let x2 : Bool := (d.2.1.1 == d.2.2.1.1)
  bif x2 then (
  some ((), ((true, ()), ())))
  else (
  let x3 : Int := (iadd .u8 d.2.2.1.1 (1 : Int))
  (T.1 ((), ((d.2.1.1, ()), ((x3, ()), ()))))))
  else (
  some ((), ((false, ()), ())))
def f_ref02_Is_t : Nat → TT_ref02_Is
  | 0 => (fun _ => none, ())
  | k + 1 => (f_ref02_Is_p3 (f_ref02_Is_t k), ())
theorem t_ref02_Is (k : Nat) : f_ref02_Is_t (k + 1) = (f_ref02_Is_p3 (f_ref02_Is_t k), ()) := rfl
def f_ref02_Is_m (T : TT_ref02_Is) (d : Unit × ((Int × Unit) × Unit)) : Option (Unit × ((Bool × Unit) × Unit)) :=
  (T.1 ((), ((d.2.1.1, ()), (((48 : Int), ()), ()))))
def c_ref02_Is : List Nat := []
def L_ref02_Is (k : Nat) : Pts po_ref02_Is.den := [(3, ⟨sh_ref02_Is_3, (f_ref02_Is_t k).1⟩)]
def E_ref02_Is : Env := E0
theorem q_ref02_Is_3 (k : Nat) (d : Unit × ((Int × Unit) × ((Int × Unit) × Unit))) : evAt E_ref02_Is (tab (L_ref02_Is k)) c_ref02_Is 3 (bodyOf Tryz.f29) 0 (finK E_ref02_Is po_ref02_Is [.tmp 2]) (ptSt sh_ref02_Is_3 d) = f_ref02_Is_p3 (f_ref02_Is_t k) d := by kernel_rfl
theorem q_ref02_Is_m (k : Nat) (d : Unit × ((Int × Unit) × Unit)) : evCode E_ref02_Is (tab (L_ref02_Is k)) c_ref02_Is (bodyOf Tryz.f29) 0 (finK E_ref02_Is po_ref02_Is [.tmp 2]) (startSt pi_ref02_Is 11 d) = f_ref02_Is_m (f_ref02_Is_t k) d := by kernel_rfl
theorem go_ref02_Is (F : Unit × ((Int × Unit) × Unit) → Option (Unit × ((Bool × Unit) × Unit))) (hF : ∀ d out, F d = some out → ∃ k, f_ref02_Is_m (f_ref02_Is_t k) d = some out) : FnOk Tryz.prog ET0 29 pi_ref02_Is po_ref02_Is F :=
  fn_of_body (E := E_ref02_Is) e0_ok (fn := Tryz.f29) Tryz.func29 (by kernel_rfl) (by kernel_rfl) [.tmp 2] (by kernel_rfl) (by kernel_rfl) (by decide) rfl c_ref02_Is L_ref02_Is
    (by intro x hx d; simp only [L_ref02_Is, List.mem_cons, List.not_mem_nil, or_false] at hx; subst hx; rfl)
    (by intro k x hx d out h; simp only [L_ref02_Is, List.mem_cons, List.not_mem_nil, or_false] at hx; subst hx; exact (q_ref02_Is_3 k d).trans h)
    (by intro d out h; obtain ⟨k, hk⟩ := hF d out h; exact ⟨k, (q_ref02_Is_m k d).trans hk⟩)
def g_ref02_Is (d : Unit × ((Int × Unit) × Unit)) : Option (Unit × ((Bool × Unit) × Unit)) := lim fun k => f_ref02_Is_m (f_ref02_Is_t k) d
theorem ok_ref02_Is : FnOk Tryz.prog ET0 29 pi_ref02_Is po_ref02_Is g_ref02_Is := go_ref02_Is g_ref02_Is fun d out h => lim_some h

/- horologe/horologeref26.number -/
@[reducible] def pi_ref26_number : PSh := ⟨[], [.mk false [.v .str], .mk false [.v (.int .i64)], .mk false [.v (.int .i64)]]⟩
@[reducible] def po_ref26_number : PSh := ⟨[], [.mk false [.v (.int .i64)]]⟩
@[reducible] def TT_ref26_number : Type := (((Unit × ((ByteArray × Unit) × ((Int × Unit) × ((Int × Unit) × ((Int × Unit) × ((Int × Unit) × Unit)))))) → Option (Unit × ((Int × Unit) × Unit))) × Unit)
@[reducible] def sh_ref26_number_4 : PSh := ⟨[], [.mk false [.v .str], .mk false [.v (.int .i64)], .mk false [.v (.int .i64)], .any, .any, .any, .any, .mk false [.v (.int .i64)], .mk false [.v (.int .i64)], .any, .any, .any, .any, .any, .any, .any, .any, .any, .any, .any, .any, .any, .any, .any, .any, .any]⟩
def f_ref26_number_p4 (T : TT_ref26_number) (d : Unit × ((ByteArray × Unit) × ((Int × Unit) × ((Int × Unit) × ((Int × Unit) × ((Int × Unit) × Unit)))))) : Option (Unit × ((Int × Unit) × Unit)) :=
  let x1 : Int := (iadd .i64 d.2.2.1.1 d.2.2.2.1.1)
  let x2 : Bool := (decide (d.2.2.2.2.2.1.1 < x1))
  bif x2 then (
  let x3 : Int := (imul .i64 d.2.2.2.2.1.1 (10 : Int))
  bif decide ((0 : Int) ≤ d.2.2.2.2.2.1.1) && decide (d.2.2.2.2.2.1.1 < ((d.2.1.1.size : Int) : Int)) then (
  let x4 : Int := (bt d.2.1.1 d.2.2.2.2.2.1.1)
  let x5 : Int := (isub .u8 x4 (48 : Int))
  let x6 : Int := (iconv .i64 x5)
  let x7 : Int := (iadd .i64 x3 x6)
  let x8 : Int := (iadd .i64 d.2.2.2.2.2.1.1 (1 : Int))
  (T.1 ((), ((d.2.1.1, ()), ((d.2.2.1.1, ()), ((d.2.2.2.1.1, ()), ((x7, ()), ((x8, ()), ()))))))))
  else none)
  else (
  some ((), ((d.2.2.2.2.1.1, ()), ())))
def f_ref26_number_t : Nat → TT_ref26_number
  | 0 => (fun _ => none, ())
  | k + 1 => (f_ref26_number_p4 (f_ref26_number_t k), ())
theorem t_ref26_number (k : Nat) : f_ref26_number_t (k + 1) = (f_ref26_number_p4 (f_ref26_number_t k), ()) := rfl
def f_ref26_number_m (T : TT_ref26_number) (d : Unit × ((ByteArray × Unit) × ((Int × Unit) × ((Int × Unit) × Unit)))) : Option (Unit × ((Int × Unit) × Unit)) :=
  (T.1 ((), ((d.2.1.1, ()), ((d.2.2.1.1, ()), ((d.2.2.2.1.1, ()), (((0 : Int), ()), ((d.2.2.1.1, ()), ())))))))
def c_ref26_number : List Nat := []
def L_ref26_number (k : Nat) : Pts po_ref26_number.den := [(4, ⟨sh_ref26_number_4, (f_ref26_number_t k).1⟩)]
def E_ref26_number : Env := E0
theorem q_ref26_number_4 (k : Nat) (d : Unit × ((ByteArray × Unit) × ((Int × Unit) × ((Int × Unit) × ((Int × Unit) × ((Int × Unit) × Unit)))))) : evAt E_ref26_number (tab (L_ref26_number k)) c_ref26_number 4 (bodyOf Tryz.f30) 0 (finK E_ref26_number po_ref26_number [.tmp 6]) (ptSt sh_ref26_number_4 d) = f_ref26_number_p4 (f_ref26_number_t k) d := by kernel_rfl
theorem q_ref26_number_m (k : Nat) (d : Unit × ((ByteArray × Unit) × ((Int × Unit) × ((Int × Unit) × Unit)))) : evCode E_ref26_number (tab (L_ref26_number k)) c_ref26_number (bodyOf Tryz.f30) 0 (finK E_ref26_number po_ref26_number [.tmp 6]) (startSt pi_ref26_number 26 d) = f_ref26_number_m (f_ref26_number_t k) d := by kernel_rfl
theorem go_ref26_number (F : Unit × ((ByteArray × Unit) × ((Int × Unit) × ((Int × Unit) × Unit))) → Option (Unit × ((Int × Unit) × Unit))) (hF : ∀ d out, F d = some out → ∃ k, f_ref26_number_m (f_ref26_number_t k) d = some out) : FnOk Tryz.prog ET0 30 pi_ref26_number po_ref26_number F :=
  fn_of_body (E := E_ref26_number) e0_ok (fn := Tryz.f30) Tryz.func30 (by kernel_rfl) (by kernel_rfl) [.tmp 6] (by kernel_rfl) (by kernel_rfl) (by decide) rfl c_ref26_number L_ref26_number
    (by intro x hx d; simp only [L_ref26_number, List.mem_cons, List.not_mem_nil, or_false] at hx; subst hx; rfl)
    (by intro k x hx d out h; simp only [L_ref26_number, List.mem_cons, List.not_mem_nil, or_false] at hx; subst hx; exact (q_ref26_number_4 k d).trans h)
    (by intro d out h; obtain ⟨k, hk⟩ := hF d out h; exact ⟨k, (q_ref26_number_m k d).trans hk⟩)
def g_ref26_number (d : Unit × ((ByteArray × Unit) × ((Int × Unit) × ((Int × Unit) × Unit)))) : Option (Unit × ((Int × Unit) × Unit)) := lim fun k => f_ref26_number_m (f_ref26_number_t k) d
theorem ok_ref26_number : FnOk Tryz.prog ET0 30 pi_ref26_number po_ref26_number g_ref26_number := go_ref26_number g_ref26_number fun d out h => lim_some h

/- horologe/horologeref02.Raw -/
@[reducible] def pi_ref02_Raw : PSh := ⟨[], [.mk false [.v (.int .i64)], .mk false [.v (.int .i64)]]⟩
@[reducible] def po_ref02_Raw : PSh := ⟨[], [.mk false [.v .str]]⟩
@[reducible] def TT_ref02_Raw : Type := (((Unit × ((Int × Unit) × ((Int × Unit) × ((ByteArray × Unit) × Unit)))) → Option (Unit × ((ByteArray × Unit) × Unit))) × (((Unit × ((Int × Unit) × ((ByteArray × Unit) × Unit))) → Option (Unit × ((ByteArray × Unit) × Unit))) × Unit))
@[reducible] def sh_ref02_Raw_3 : PSh := ⟨[], [.mk false [.v (.int .i64)], .mk false [.v (.int .i64)], .any, .any, .any, .mk false [.v .str], .any, .any, .any, .any, .any, .any, .any, .any, .any, .any, .any, .any, .any, .any, .any, .any, .any, .any, .any, .any, .any, .any, .any, .any]⟩
@[reducible] def sh_ref02_Raw_8 : PSh := ⟨[], [.any, .mk false [.v (.int .i64)], .any, .any, .any, .mk false [.v .str], .any, .any, .any, .any, .any, .any, .any, .any, .any, .any, .any, .any, .any, .any, .any, .any, .any, .any, .any, .any, .any, .any, .any, .any]⟩
def f_ref02_Raw_p3 (T : TT_ref02_Raw) (d : Unit × ((Int × Unit) × ((Int × Unit) × ((ByteArray × Unit) × Unit)))) : Option (Unit × ((ByteArray × Unit) × Unit)) :=
  let x1 : Bool := (decide (d.2.1.1 > (0 : Int)))
  bif x1 then (
  let x2 : Int := (Int.tmod d.2.1.1 (10 : Int))
  let x3 : Int := (iadd .i64 (48 : Int) x2)
  let x4 : Int := (iconv .u8 x3)
  let x5 : (List Int) := ([x4] : List Int)
  let x6 : ByteArray := (strOf x5)
  bif fitsS x6 d.2.2.2.1.1 then (
  let x7 : ByteArray := (x6 ++ d.2.2.2.1.1)
  let x8 : Int := (iquo .i64 d.2.1.1 (10 : Int))
  (T.1 ((), ((x8, ()), ((d.2.2.1.1, ()), ((x7, ()), ()))))))
  else none)
  else (
  (T.2.1 ((), ((d.2.2.1.1, ()), ((d.2.2.2.1.1, ()), ())))))
def f_ref02_Raw_p8 (T : TT_ref02_Raw) (d : Unit × ((Int × Unit) × ((ByteArray × Unit) × Unit))) : Option (Unit × ((ByteArray × Unit) × Unit)) :=
  let x9 : Int := (d.2.2.1.1.size : Int)
  let x10 : Bool := (decide (x9 < d.2.1.1))
  bif x10 then (
  bif fitsS (⟨#[48]⟩ : ByteArray) d.2.2.1.1 then (
  let x11 : ByteArray := ((⟨#[48]⟩ : ByteArray) ++ d.2.2.1.1)
  (T.2.1 ((), ((d.2.1.1, ()), ((x11, ()), ())))))
  else none)
  else (
  let x12 : Int := (d.2.2.1.1.size : Int)
  let x13 : Bool := (x12 == (0 : Int))
  bif x13 then (
  bif fitsS (⟨#[48]⟩ : ByteArray) d.2.2.1.1 then (
  let x14 : ByteArray := ((⟨#[48]⟩ : ByteArray) ++ d.2.2.1.1)
  (T.2.1 ((), ((d.2.1.1, ()), ((x14, ()), ())))))
  else none)
  else (
  some ((), ((d.2.2.1.1, ()), ()))))
def f_ref02_Raw_t : Nat → TT_ref02_Raw
  | 0 => (fun _ => none, (fun _ => none, ()))
  | k + 1 => (f_ref02_Raw_p3 (f_ref02_Raw_t k), (f_ref02_Raw_p8 (f_ref02_Raw_t k), ()))
theorem t_ref02_Raw (k : Nat) : f_ref02_Raw_t (k + 1) = (f_ref02_Raw_p3 (f_ref02_Raw_t k), (f_ref02_Raw_p8 (f_ref02_Raw_t k), ())) := rfl
def f_ref02_Raw_m (T : TT_ref02_Raw) (d : Unit × ((Int × Unit) × ((Int × Unit) × Unit))) : Option (Unit × ((ByteArray × Unit) × Unit)) :=
  (T.1 ((), ((d.2.1.1, ()), ((d.2.2.1.1, ()), (((⟨#[]⟩ : ByteArray), ()), ())))))
def c_ref02_Raw : List Nat := []
def L_ref02_Raw (k : Nat) : Pts po_ref02_Raw.den := [(3, ⟨sh_ref02_Raw_3, (f_ref02_Raw_t k).1⟩), (8, ⟨sh_ref02_Raw_8, (f_ref02_Raw_t k).2.1⟩)]
def E_ref02_Raw : Env := E0
theorem q_ref02_Raw_3 (k : Nat) (d : Unit × ((Int × Unit) × ((Int × Unit) × ((ByteArray × Unit) × Unit)))) : evAt E_ref02_Raw (tab (L_ref02_Raw k)) c_ref02_Raw 3 (bodyOf Tryz.f77) 0 (finK E_ref02_Raw po_ref02_Raw [.tmp 4]) (ptSt sh_ref02_Raw_3 d) = f_ref02_Raw_p3 (f_ref02_Raw_t k) d := by kernel_rfl
theorem q_ref02_Raw_8 (k : Nat) (d : Unit × ((Int × Unit) × ((ByteArray × Unit) × Unit))) : evAt E_ref02_Raw (tab (L_ref02_Raw k)) c_ref02_Raw 8 (bodyOf Tryz.f77) 0 (finK E_ref02_Raw po_ref02_Raw [.tmp 4]) (ptSt sh_ref02_Raw_8 d) = f_ref02_Raw_p8 (f_ref02_Raw_t k) d := by kernel_rfl
theorem q_ref02_Raw_m (k : Nat) (d : Unit × ((Int × Unit) × ((Int × Unit) × Unit))) : evCode E_ref02_Raw (tab (L_ref02_Raw k)) c_ref02_Raw (bodyOf Tryz.f77) 0 (finK E_ref02_Raw po_ref02_Raw [.tmp 4]) (startSt pi_ref02_Raw 30 d) = f_ref02_Raw_m (f_ref02_Raw_t k) d := by kernel_rfl
theorem go_ref02_Raw (F : Unit × ((Int × Unit) × ((Int × Unit) × Unit)) → Option (Unit × ((ByteArray × Unit) × Unit))) (hF : ∀ d out, F d = some out → ∃ k, f_ref02_Raw_m (f_ref02_Raw_t k) d = some out) : FnOk Tryz.prog ET0 77 pi_ref02_Raw po_ref02_Raw F :=
  fn_of_body (E := E_ref02_Raw) e0_ok (fn := Tryz.f77) Tryz.func77 (by kernel_rfl) (by kernel_rfl) [.tmp 4] (by kernel_rfl) (by kernel_rfl) (by decide) rfl c_ref02_Raw L_ref02_Raw
    (by intro x hx d; simp only [L_ref02_Raw, List.mem_cons, List.not_mem_nil, or_false] at hx; rcases hx with rfl | rfl; rfl; rfl)
    (by intro k x hx d out h; simp only [L_ref02_Raw, List.mem_cons, List.not_mem_nil, or_false] at hx; rcases hx with rfl | rfl; exact (q_ref02_Raw_3 k d).trans h; exact (q_ref02_Raw_8 k d).trans h)
    (by intro d out h; obtain ⟨k, hk⟩ := hF d out h; exact ⟨k, (q_ref02_Raw_m k d).trans hk⟩)
def g_ref02_Raw (d : Unit × ((Int × Unit) × ((Int × Unit) × Unit))) : Option (Unit × ((ByteArray × Unit) × Unit)) := lim fun k => f_ref02_Raw_m (f_ref02_Raw_t k) d
theorem ok_ref02_Raw : FnOk Tryz.prog ET0 77 pi_ref02_Raw po_ref02_Raw g_ref02_Raw := go_ref02_Raw g_ref02_Raw fun d out h => lim_some h

/- horologe/horologeref26.raw -/
@[reducible] def pi_ref26_raw : PSh := ⟨[], [.mk false [.v (.int .i64)], .mk false [.v (.int .i64)]]⟩
@[reducible] def po_ref26_raw : PSh := ⟨[], [.mk false [.v .str]]⟩
def f_ref26_raw_m (T : Unit) (d : Unit × ((Int × Unit) × ((Int × Unit) × Unit))) : Option (Unit × ((ByteArray × Unit) × Unit)) :=
  (g_ref02_Raw ((), ((d.2.1.1, ()), ((d.2.2.1.1, ()), ())))).bind fun x1 =>
  some ((), ((x1.2.1.1, ()), ()))
def c_ref26_raw : List Nat := []
def L_ref26_raw (_ : Nat) : Pts po_ref26_raw.den := []
def E_ref26_raw : Env := (E0.add 77 (typedSem pi_ref02_Raw po_ref02_Raw g_ref02_Raw))
theorem q_ref26_raw_m (k : Nat) (d : Unit × ((Int × Unit) × ((Int × Unit) × Unit))) : evCode E_ref26_raw (tab (L_ref26_raw k)) c_ref26_raw (bodyOf Tryz.f31) 0 (finK E_ref26_raw po_ref26_raw [.tmp 4]) (startSt pi_ref26_raw 8 d) = f_ref26_raw_m () d := by kernel_rfl
def g_ref26_raw (d : Unit × ((Int × Unit) × ((Int × Unit) × Unit))) : Option (Unit × ((ByteArray × Unit) × Unit)) := f_ref26_raw_m () d
theorem ok_ref26_raw : FnOk Tryz.prog ET0 31 pi_ref26_raw po_ref26_raw g_ref26_raw :=
  fn_of_body (E := E_ref26_raw) (envOk_add e0_ok (typed_ok ok_ref02_Raw)) (fn := Tryz.f31) Tryz.func31 (by kernel_rfl) (by kernel_rfl) [.tmp 4] (by kernel_rfl) (by kernel_rfl) (by decide) rfl c_ref26_raw L_ref26_raw
    (by intro x hx; cases hx) (by intro k x hx; cases hx) (fun d out h => ⟨0, (q_ref26_raw_m 0 d).trans h⟩)

/- horologe/horologeref26.advance -/
@[reducible] def pi_ref26_advance : PSh := ⟨[], [.mk false [.v (.int .i64)]]⟩
@[reducible] def po_ref26_advance : PSh := ⟨[], [.mk false [.v .str]]⟩
@[reducible] def TT_ref26_advance : Type := (((Unit × ((Int × Unit) × ((ByteArray × Unit) × Unit))) → Option (Unit × ((ByteArray × Unit) × Unit))) × Unit)
@[reducible] def sh_ref26_advance_3 : PSh := ⟨[], [.mk false [.v (.int .i64)], .any, .any, .mk false [.v .str], .any, .any, .any, .any, .any, .any, .any, .any, .any, .any, .any, .any, .any, .any]⟩
def f_ref26_advance_p3 (T : TT_ref26_advance) (d : Unit × ((Int × Unit) × ((ByteArray × Unit) × Unit))) : Option (Unit × ((ByteArray × Unit) × Unit)) :=
  let x3 : Int := (d.2.2.1.1.size : Int)
  let x4 : Bool := (decide (x3 < (3 : Int)))
  bif x4 then (
  bif fitsS (⟨#[32]⟩ : ByteArray) d.2.2.1.1 then (
  let x5 : ByteArray := ((⟨#[32]⟩ : ByteArray) ++ d.2.2.1.1)
  (T.1 ((), ((d.2.1.1, ()), ((x5, ()), ())))))
  else none)
  else (
  bif fitsS d.2.2.1.1 (⟨#[46]⟩ : ByteArray) then (
  let x6 : ByteArray := (d.2.2.1.1 ++ (⟨#[46]⟩ : ByteArray))
  let x7 : Int := (Int.tmod d.2.1.1 (10 : Int))
  (g_ref26_raw ((), ((x7, ()), (((1 : Int), ()), ())))).bind fun x8 =>
  bif fitsS x6 x8.2.1.1 then (
  let x9 : ByteArray := (x6 ++ x8.2.1.1)
  some ((), ((x9, ()), ())))
  else none)
  else none)
def f_ref26_advance_t : Nat → TT_ref26_advance
  | 0 => (fun _ => none, ())
  | k + 1 => (f_ref26_advance_p3 (f_ref26_advance_t k), ())
theorem t_ref26_advance (k : Nat) : f_ref26_advance_t (k + 1) = (f_ref26_advance_p3 (f_ref26_advance_t k), ()) := rfl
def f_ref26_advance_m (T : TT_ref26_advance) (d : Unit × ((Int × Unit) × Unit)) : Option (Unit × ((ByteArray × Unit) × Unit)) :=
  let x1 : Int := (iquo .i64 d.2.1.1 (10 : Int))
  (g_ref26_raw ((), ((x1, ()), (((1 : Int), ()), ())))).bind fun x2 =>
  (T.1 ((), ((d.2.1.1, ()), ((x2.2.1.1, ()), ()))))
def c_ref26_advance : List Nat := []
def L_ref26_advance (k : Nat) : Pts po_ref26_advance.den := [(3, ⟨sh_ref26_advance_3, (f_ref26_advance_t k).1⟩)]
def E_ref26_advance : Env := (E0.add 31 (typedSem pi_ref26_raw po_ref26_raw g_ref26_raw))
theorem q_ref26_advance_3 (k : Nat) (d : Unit × ((Int × Unit) × ((ByteArray × Unit) × Unit))) : evAt E_ref26_advance (tab (L_ref26_advance k)) c_ref26_advance 3 (bodyOf Tryz.f32) 0 (finK E_ref26_advance po_ref26_advance [.tmp 2]) (ptSt sh_ref26_advance_3 d) = f_ref26_advance_p3 (f_ref26_advance_t k) d := by kernel_rfl
theorem q_ref26_advance_m (k : Nat) (d : Unit × ((Int × Unit) × Unit)) : evCode E_ref26_advance (tab (L_ref26_advance k)) c_ref26_advance (bodyOf Tryz.f32) 0 (finK E_ref26_advance po_ref26_advance [.tmp 2]) (startSt pi_ref26_advance 18 d) = f_ref26_advance_m (f_ref26_advance_t k) d := by kernel_rfl
theorem go_ref26_advance (F : Unit × ((Int × Unit) × Unit) → Option (Unit × ((ByteArray × Unit) × Unit))) (hF : ∀ d out, F d = some out → ∃ k, f_ref26_advance_m (f_ref26_advance_t k) d = some out) : FnOk Tryz.prog ET0 32 pi_ref26_advance po_ref26_advance F :=
  fn_of_body (E := E_ref26_advance) (envOk_add e0_ok (typed_ok ok_ref26_raw)) (fn := Tryz.f32) Tryz.func32 (by kernel_rfl) (by kernel_rfl) [.tmp 2] (by kernel_rfl) (by kernel_rfl) (by decide) rfl c_ref26_advance L_ref26_advance
    (by intro x hx d; simp only [L_ref26_advance, List.mem_cons, List.not_mem_nil, or_false] at hx; subst hx; rfl)
    (by intro k x hx d out h; simp only [L_ref26_advance, List.mem_cons, List.not_mem_nil, or_false] at hx; subst hx; exact (q_ref26_advance_3 k d).trans h)
    (by intro d out h; obtain ⟨k, hk⟩ := hF d out h; exact ⟨k, (q_ref26_advance_m k d).trans hk⟩)
def g_ref26_advance (d : Unit × ((Int × Unit) × Unit)) : Option (Unit × ((ByteArray × Unit) × Unit)) := lim fun k => f_ref26_advance_m (f_ref26_advance_t k) d
theorem ok_ref26_advance : FnOk Tryz.prog ET0 32 pi_ref26_advance po_ref26_advance g_ref26_advance := go_ref26_advance g_ref26_advance fun d out h => lim_some h

/- horologe/horologeref05.Leap -/
@[reducible] def pi_ref05_Leap : PSh := ⟨[], [.mk false [.v (.int .i64)]]⟩
@[reducible] def po_ref05_Leap : PSh := ⟨[], [.mk false [.v .bool]]⟩
def f_ref05_Leap_m (T : Unit) (d : Unit × ((Int × Unit) × Unit)) : Option (Unit × ((Bool × Unit) × Unit)) :=
  let x1 : Int := (Int.tmod d.2.1.1 (400 : Int))
  let x2 : Bool := (x1 == (0 : Int))
  bif x2 then (
  some ((), ((true, ()), ())))
  else (
  let x3 : Int := (Int.tmod d.2.1.1 (4 : Int))
  let x4 : Bool := (x3 == (0 : Int))
  bif x4 then (
  let x5 : Int := (Int.tmod d.2.1.1 (100 : Int))
  let x6 : Bool := (x5 != (0 : Int))
  some ((), ((x6, ()), ())))
  else (
  some ((), ((false, ()), ()))))
def c_ref05_Leap : List Nat := []
def L_ref05_Leap (_ : Nat) : Pts po_ref05_Leap.den := []
def E_ref05_Leap : Env := E0
theorem q_ref05_Leap_m (k : Nat) (d : Unit × ((Int × Unit) × Unit)) : evCode E_ref05_Leap (tab (L_ref05_Leap k)) c_ref05_Leap (bodyOf Tryz.f128) 0 (finK E_ref05_Leap po_ref05_Leap [.tmp 2]) (startSt pi_ref05_Leap 14 d) = f_ref05_Leap_m () d := by kernel_rfl
def g_ref05_Leap (d : Unit × ((Int × Unit) × Unit)) : Option (Unit × ((Bool × Unit) × Unit)) := f_ref05_Leap_m () d
theorem ok_ref05_Leap : FnOk Tryz.prog ET0 128 pi_ref05_Leap po_ref05_Leap g_ref05_Leap :=
  fn_of_body (E := E_ref05_Leap) e0_ok (fn := Tryz.f128) Tryz.func128 (by kernel_rfl) (by kernel_rfl) [.tmp 2] (by kernel_rfl) (by kernel_rfl) (by decide) rfl c_ref05_Leap L_ref05_Leap
    (by intro x hx; cases hx) (by intro k x hx; cases hx) (fun d out h => ⟨0, (q_ref05_Leap_m 0 d).trans h⟩)

/- horologe/horologeref05.Days -/
@[reducible] def pi_ref05_Days : PSh := ⟨[], [.mk false [.v (.int .i64)]]⟩
@[reducible] def po_ref05_Days : PSh := ⟨[], [.mk false [.v (.int .i64)]]⟩
def f_ref05_Days_m (T : Unit) (d : Unit × ((Int × Unit) × Unit)) : Option (Unit × ((Int × Unit) × Unit)) :=
  (g_ref05_Leap ((), ((d.2.1.1, ()), ()))).bind fun x1 =>
  bif x1.2.1.1 then (
  some ((), (((366 : Int), ()), ())))
  else (
  some ((), (((365 : Int), ()), ())))
def c_ref05_Days : List Nat := []
def L_ref05_Days (_ : Nat) : Pts po_ref05_Days.den := []
def E_ref05_Days : Env := (E0.add 128 (typedSem pi_ref05_Leap po_ref05_Leap g_ref05_Leap))
theorem q_ref05_Days_m (k : Nat) (d : Unit × ((Int × Unit) × Unit)) : evCode E_ref05_Days (tab (L_ref05_Days k)) c_ref05_Days (bodyOf Tryz.f78) 0 (finK E_ref05_Days po_ref05_Days [.tmp 2]) (startSt pi_ref05_Days 5 d) = f_ref05_Days_m () d := by kernel_rfl
def g_ref05_Days (d : Unit × ((Int × Unit) × Unit)) : Option (Unit × ((Int × Unit) × Unit)) := f_ref05_Days_m () d
theorem ok_ref05_Days : FnOk Tryz.prog ET0 78 pi_ref05_Days po_ref05_Days g_ref05_Days :=
  fn_of_body (E := E_ref05_Days) (envOk_add e0_ok (typed_ok ok_ref05_Leap)) (fn := Tryz.f78) Tryz.func78 (by kernel_rfl) (by kernel_rfl) [.tmp 2] (by kernel_rfl) (by kernel_rfl) (by decide) rfl c_ref05_Days L_ref05_Days
    (by intro x hx; cases hx) (by intro k x hx; cases hx) (fun d out h => ⟨0, (q_ref05_Days_m 0 d).trans h⟩)

/- horologe/horologeref05.Month -/
@[reducible] def pi_ref05_Month : PSh := ⟨[], [.mk false [.v (.int .i64)], .mk false [.v (.int .i64)]]⟩
@[reducible] def po_ref05_Month : PSh := ⟨[], [.mk false [.v (.int .i64)]]⟩
def f_ref05_Month_m (T : Unit) (d : Unit × ((Int × Unit) × ((Int × Unit) × Unit))) : Option (Unit × ((Int × Unit) × Unit)) :=
  let x1 : (List Int) := ([(31 : Int), (28 : Int), (31 : Int), (30 : Int), (31 : Int), (30 : Int), (31 : Int), (31 : Int), (30 : Int), (31 : Int), (30 : Int), (31 : Int)] : List Int)
  let x2 : Bool := (d.2.2.1.1 == (2 : Int))
  bif x2 then (
  (g_ref05_Leap ((), ((d.2.1.1, ()), ()))).bind fun x3 =>
  bif x3.2.1.1 then (
  some ((), (((29 : Int), ()), ())))
  else (
  let x4 : Int := (isub .i64 d.2.2.1.1 (1 : Int))
  bif decide ((0 : Int) ≤ x4) && decide (x4 < (x1.length : Int)) then (
  some ((), (((gd (.int .i64) x1 x4), ()), ())))
  else none))
  else (
  let x5 : Int := (isub .i64 d.2.2.1.1 (1 : Int))
  bif decide ((0 : Int) ≤ x5) && decide (x5 < (x1.length : Int)) then (
  some ((), (((gd (.int .i64) x1 x5), ()), ())))
  else none)
def c_ref05_Month : List Nat := []
def L_ref05_Month (_ : Nat) : Pts po_ref05_Month.den := []
def E_ref05_Month : Env := (E0.add 128 (typedSem pi_ref05_Leap po_ref05_Leap g_ref05_Leap))
theorem q_ref05_Month_m (k : Nat) (d : Unit × ((Int × Unit) × ((Int × Unit) × Unit))) : evCode E_ref05_Month (tab (L_ref05_Month k)) c_ref05_Month (bodyOf Tryz.f79) 0 (finK E_ref05_Month po_ref05_Month [.tmp 4]) (startSt pi_ref05_Month 18 d) = f_ref05_Month_m () d := by kernel_rfl
def g_ref05_Month (d : Unit × ((Int × Unit) × ((Int × Unit) × Unit))) : Option (Unit × ((Int × Unit) × Unit)) := f_ref05_Month_m () d
theorem ok_ref05_Month : FnOk Tryz.prog ET0 79 pi_ref05_Month po_ref05_Month g_ref05_Month :=
  fn_of_body (E := E_ref05_Month) (envOk_add e0_ok (typed_ok ok_ref05_Leap)) (fn := Tryz.f79) Tryz.func79 (by kernel_rfl) (by kernel_rfl) [.tmp 4] (by kernel_rfl) (by kernel_rfl) (by decide) rfl c_ref05_Month L_ref05_Month
    (by intro x hx; cases hx) (by intro k x hx; cases hx) (fun d out h => ⟨0, (q_ref05_Month_m 0 d).trans h⟩)

/- horologe/horologeref05.Date -/
@[reducible] def pi_ref05_Date : PSh := ⟨[], [.mk false [.v (.int .i64)]]⟩
@[reducible] def po_ref05_Date : PSh := ⟨[], [.mk false [.v (.int .i64)], .mk false [.v (.int .i64)], .mk false [.v (.int .i64)]]⟩
@[reducible] def TT_ref05_Date : Type := (((Unit × ((Int × Unit) × ((Int × Unit) × Unit))) → Option (Unit × ((Int × Unit) × ((Int × Unit) × ((Int × Unit) × Unit))))) × (((Unit × ((Int × Unit) × ((Int × Unit) × Unit))) → Option (Unit × ((Int × Unit) × ((Int × Unit) × ((Int × Unit) × Unit))))) × (((Unit × ((Int × Unit) × ((Int × Unit) × Unit))) → Option (Unit × ((Int × Unit) × ((Int × Unit) × ((Int × Unit) × Unit))))) × (((Unit × ((Int × Unit) × ((Int × Unit) × ((Int × Unit) × Unit)))) → Option (Unit × ((Int × Unit) × ((Int × Unit) × ((Int × Unit) × Unit))))) × Unit))))
@[reducible] def sh_ref05_Date_3 : PSh := ⟨[], [.mk false [.v (.int .i64)], .any, .any, .any, .any, .mk false [.v (.int .i64)], .any, .any, .any, .any, .any, .any, .any, .any, .any, .any, .any, .any, .any, .any, .any, .any, .any, .any, .any, .any, .any, .any, .any, .any, .any, .any, .any, .any, .any, .any, .any, .any, .any, .any, .any, .any, .any, .any, .any]⟩
@[reducible] def sh_ref05_Date_8 : PSh := ⟨[], [.mk false [.v (.int .i64)], .any, .any, .any, .any, .mk false [.v (.int .i64)], .any, .any, .any, .any, .any, .any, .any, .any, .any, .any, .any, .any, .any, .any, .any, .any, .any, .any, .any, .any, .any, .any, .any, .any, .any, .any, .any, .any, .any, .any, .any, .any, .any, .any, .any, .any, .any, .any, .any]⟩
@[reducible] def sh_ref05_Date_13 : PSh := ⟨[], [.mk false [.v (.int .i64)], .any, .any, .any, .any, .mk false [.v (.int .i64)], .any, .any, .any, .any, .any, .any, .any, .any, .any, .any, .any, .any, .any, .any, .any, .any, .any, .any, .any, .any, .any, .any, .any, .any, .any, .any, .any, .any, .any, .any, .any, .any, .any, .any, .any, .any, .any, .any, .any]⟩
@[reducible] def sh_ref05_Date_19 : PSh := ⟨[], [.mk false [.v (.int .i64)], .any, .any, .any, .any, .mk false [.v (.int .i64)], .mk false [.v (.int .i64)], .any, .any, .any, .any, .any, .any, .any, .any, .any, .any, .any, .any, .any, .any, .any, .any, .any, .any, .any, .any, .any, .any, .any, .any, .any, .any, .any, .any, .any, .any, .any, .any, .any, .any, .any, .any, .any, .any]⟩
def f_ref05_Date_p3 (T : TT_ref05_Date) (d : Unit × ((Int × Unit) × ((Int × Unit) × Unit))) : Option (Unit × ((Int × Unit) × ((Int × Unit) × ((Int × Unit) × Unit)))) :=
  let x1 : Bool := (decide (d.2.1.1 < (0 : Int)))
  bif x1 then (
  let x2 : Int := (iadd .i64 d.2.1.1 (146097 : Int))
  let x3 : Int := (isub .i64 d.2.2.1.1 (400 : Int))
  (T.1 ((), ((x2, ()), ((x3, ()), ())))))
  else (
  (T.2.1 ((), ((d.2.1.1, ()), ((d.2.2.1.1, ()), ())))))
def f_ref05_Date_p8 (T : TT_ref05_Date) (d : Unit × ((Int × Unit) × ((Int × Unit) × Unit))) : Option (Unit × ((Int × Unit) × ((Int × Unit) × ((Int × Unit) × Unit)))) :=
  let x4 : Bool := (decide (d.2.1.1 ≥ (146097 : Int)))
  bif x4 then (
  let x5 : Int := (isub .i64 d.2.1.1 (146097 : Int))
  let x6 : Int := (iadd .i64 d.2.2.1.1 (400 : Int))
  (T.2.1 ((), ((x5, ()), ((x6, ()), ())))))
  else (
  (T.2.2.1 ((), ((d.2.1.1, ()), ((d.2.2.1.1, ()), ())))))
def f_ref05_Date_p13 (T : TT_ref05_Date) (d : Unit × ((Int × Unit) × ((Int × Unit) × Unit))) : Option (Unit × ((Int × Unit) × ((Int × Unit) × ((Int × Unit) × Unit)))) :=
  (g_ref05_Days ((), ((d.2.2.1.1, ()), ()))).bind fun x7 =>
  let x8 : Bool := (decide (d.2.1.1 ≥ x7.2.1.1))
  bif x8 then (
  (g_ref05_Days ((), ((d.2.2.1.1, ()), ()))).bind fun x9 =>
  let x10 : Int := (isub .i64 d.2.1.1 x9.2.1.1)
  let x11 : Int := (iadd .i64 d.2.2.1.1 (1 : Int))
  (T.2.2.1 ((), ((x10, ()), ((x11, ()), ())))))
  else (
  (T.2.2.2.1 ((), ((d.2.1.1, ()), ((d.2.2.1.1, ()), (((1 : Int), ()), ()))))))
def f_ref05_Date_p19 (T : TT_ref05_Date) (d : Unit × ((Int × Unit) × ((Int × Unit) × ((Int × Unit) × Unit)))) : Option (Unit × ((Int × Unit) × ((Int × Unit) × ((Int × Unit) × Unit)))) :=
  (g_ref05_Month ((), ((d.2.2.1.1, ()), ((d.2.2.2.1.1, ()), ())))).bind fun x12 =>
  let x13 : Bool := (decide (d.2.1.1 ≥ x12.2.1.1))
  bif x13 then (
  (g_ref05_Month ((), ((d.2.2.1.1, ()), ((d.2.2.2.1.1, ()), ())))).bind fun x14 =>
  let x15 : Int := (isub .i64 d.2.1.1 x14.2.1.1)
  let x16 : Int := (iadd .i64 d.2.2.2.1.1 (1 : Int))
  (T.2.2.2.1 ((), ((x15, ()), ((d.2.2.1.1, ()), ((x16, ()), ()))))))
  else (
  let x17 : Int := (iadd .i64 d.2.1.1 (1 : Int))
  some ((), ((d.2.2.1.1, ()), ((d.2.2.2.1.1, ()), ((x17, ()), ())))))
def f_ref05_Date_t : Nat → TT_ref05_Date
  | 0 => (fun _ => none, (fun _ => none, (fun _ => none, (fun _ => none, ()))))
  | k + 1 => (f_ref05_Date_p3 (f_ref05_Date_t k), (f_ref05_Date_p8 (f_ref05_Date_t k), (f_ref05_Date_p13 (f_ref05_Date_t k), (f_ref05_Date_p19 (f_ref05_Date_t k), ()))))
theorem t_ref05_Date (k : Nat) : f_ref05_Date_t (k + 1) = (f_ref05_Date_p3 (f_ref05_Date_t k), (f_ref05_Date_p8 (f_ref05_Date_t k), (f_ref05_Date_p13 (f_ref05_Date_t k), (f_ref05_Date_p19 (f_ref05_Date_t k), ())))) := rfl
def f_ref05_Date_m (T : TT_ref05_Date) (d : Unit × ((Int × Unit) × Unit)) : Option (Unit × ((Int × Unit) × ((Int × Unit) × ((Int × Unit) × Unit)))) :=
  (T.1 ((), ((d.2.1.1, ()), (((1970 : Int), ()), ()))))
def c_ref05_Date : List Nat := []
def L_ref05_Date (k : Nat) : Pts po_ref05_Date.den := [(3, ⟨sh_ref05_Date_3, (f_ref05_Date_t k).1⟩), (8, ⟨sh_ref05_Date_8, (f_ref05_Date_t k).2.1⟩), (13, ⟨sh_ref05_Date_13, (f_ref05_Date_t k).2.2.1⟩), (19, ⟨sh_ref05_Date_19, (f_ref05_Date_t k).2.2.2.1⟩)]
def E_ref05_Date : Env := ((E0.add 78 (typedSem pi_ref05_Days po_ref05_Days g_ref05_Days)).add 79 (typedSem pi_ref05_Month po_ref05_Month g_ref05_Month))
theorem q_ref05_Date_3 (k : Nat) (d : Unit × ((Int × Unit) × ((Int × Unit) × Unit))) : evAt E_ref05_Date (tab (L_ref05_Date k)) c_ref05_Date 3 (bodyOf Tryz.f33) 0 (finK E_ref05_Date po_ref05_Date [.tmp 2, .tmp 3, .tmp 4]) (ptSt sh_ref05_Date_3 d) = f_ref05_Date_p3 (f_ref05_Date_t k) d := by kernel_rfl
theorem q_ref05_Date_8 (k : Nat) (d : Unit × ((Int × Unit) × ((Int × Unit) × Unit))) : evAt E_ref05_Date (tab (L_ref05_Date k)) c_ref05_Date 8 (bodyOf Tryz.f33) 0 (finK E_ref05_Date po_ref05_Date [.tmp 2, .tmp 3, .tmp 4]) (ptSt sh_ref05_Date_8 d) = f_ref05_Date_p8 (f_ref05_Date_t k) d := by kernel_rfl
theorem q_ref05_Date_13 (k : Nat) (d : Unit × ((Int × Unit) × ((Int × Unit) × Unit))) : evAt E_ref05_Date (tab (L_ref05_Date k)) c_ref05_Date 13 (bodyOf Tryz.f33) 0 (finK E_ref05_Date po_ref05_Date [.tmp 2, .tmp 3, .tmp 4]) (ptSt sh_ref05_Date_13 d) = f_ref05_Date_p13 (f_ref05_Date_t k) d := by kernel_rfl
theorem q_ref05_Date_19 (k : Nat) (d : Unit × ((Int × Unit) × ((Int × Unit) × ((Int × Unit) × Unit)))) : evAt E_ref05_Date (tab (L_ref05_Date k)) c_ref05_Date 19 (bodyOf Tryz.f33) 0 (finK E_ref05_Date po_ref05_Date [.tmp 2, .tmp 3, .tmp 4]) (ptSt sh_ref05_Date_19 d) = f_ref05_Date_p19 (f_ref05_Date_t k) d := by kernel_rfl
theorem q_ref05_Date_m (k : Nat) (d : Unit × ((Int × Unit) × Unit)) : evCode E_ref05_Date (tab (L_ref05_Date k)) c_ref05_Date (bodyOf Tryz.f33) 0 (finK E_ref05_Date po_ref05_Date [.tmp 2, .tmp 3, .tmp 4]) (startSt pi_ref05_Date 45 d) = f_ref05_Date_m (f_ref05_Date_t k) d := by kernel_rfl
theorem go_ref05_Date (F : Unit × ((Int × Unit) × Unit) → Option (Unit × ((Int × Unit) × ((Int × Unit) × ((Int × Unit) × Unit))))) (hF : ∀ d out, F d = some out → ∃ k, f_ref05_Date_m (f_ref05_Date_t k) d = some out) : FnOk Tryz.prog ET0 33 pi_ref05_Date po_ref05_Date F :=
  fn_of_body (E := E_ref05_Date) (envOk_add (envOk_add e0_ok (typed_ok ok_ref05_Days)) (typed_ok ok_ref05_Month)) (fn := Tryz.f33) Tryz.func33 (by kernel_rfl) (by kernel_rfl) [.tmp 2, .tmp 3, .tmp 4] (by kernel_rfl) (by kernel_rfl) (by decide) rfl c_ref05_Date L_ref05_Date
    (by intro x hx d; simp only [L_ref05_Date, List.mem_cons, List.not_mem_nil, or_false] at hx; rcases hx with rfl | rfl | rfl | rfl; rfl; rfl; rfl; rfl)
    (by intro k x hx d out h; simp only [L_ref05_Date, List.mem_cons, List.not_mem_nil, or_false] at hx; rcases hx with rfl | rfl | rfl | rfl; exact (q_ref05_Date_3 k d).trans h; exact (q_ref05_Date_8 k d).trans h; exact (q_ref05_Date_13 k d).trans h; exact (q_ref05_Date_19 k d).trans h)
    (by intro d out h; obtain ⟨k, hk⟩ := hF d out h; exact ⟨k, (q_ref05_Date_m k d).trans hk⟩)
def g_ref05_Date (d : Unit × ((Int × Unit) × Unit)) : Option (Unit × ((Int × Unit) × ((Int × Unit) × ((Int × Unit) × Unit)))) := lim fun k => f_ref05_Date_m (f_ref05_Date_t k) d
theorem ok_ref05_Date : FnOk Tryz.prog ET0 33 pi_ref05_Date po_ref05_Date g_ref05_Date := go_ref05_Date g_ref05_Date fun d out h => lim_some h

/- horologe/horologeref26.Parse -/
@[reducible] def pi_ref26_Parse : PSh := ⟨[], [.mk false [.v .str]]⟩
@[reducible] def po_ref26_Parse : PSh := ⟨[], [.mk true [.v (.int .i64), .v (.int .i64), .v (.int .i64), .v (.int .i64), .v (.int .i64), .v (.int .i64), .v .bool], .mk false [.v (.int .i64)]]⟩
@[reducible] def TT_ref26_Parse : Type := (((((Int × (Int × (Int × (Int × (Int × (Int × (Bool × Unit))))))) × Unit) × ((ByteArray × Unit) × (Unit × ((ByteArray × Unit) × ((Int × Unit) × Unit))))) → Option (Unit × ((Int × (Int × (Int × (Int × (Int × (Int × (Bool × Unit))))))) × ((Int × Unit) × Unit)))) × (((((Int × (Int × (Int × (Int × (Int × (Int × (Bool × Unit))))))) × Unit) × ((ByteArray × Unit) × (Unit × ((ByteArray × Unit) × ((Int × Unit) × ((Int × Unit) × ((Bool × Unit) × Unit))))))) → Option (Unit × ((Int × (Int × (Int × (Int × (Int × (Int × (Bool × Unit))))))) × ((Int × Unit) × Unit)))) × (((((Int × (Int × (Int × (Int × (Int × (Int × (Bool × Unit))))))) × ((Int × (Int × (Int × (Int × (Int × (Int × (Bool × Unit))))))) × Unit)) × ((ByteArray × Unit) × (Unit × (Unit × ((Bool × Unit) × ((Int × Unit) × Unit)))))) → Option (Unit × ((Int × (Int × (Int × (Int × (Int × (Int × (Bool × Unit))))))) × ((Int × Unit) × Unit)))) × Unit)))
@[reducible] def sh_ref26_Parse_7 : PSh := ⟨[.var 33 [.v (.int .i64), .v (.int .i64), .v (.int .i64), .v (.int .i64), .v (.int .i64), .v (.int .i64), .v .bool]], [.mk false [.v .str], .any, .mk false [.ref 0 0], .any, .mk false [.v .str], .mk false [.v (.int .i64)], .any, .any, .any, .any, .any, .any, .any, .any, .any, .any, .any, .any, .any, .any, .any, .any, .any, .any, .any, .any, .any, .any, .any, .any, .any, .any, .any, .any, .any, .any, .any, .any, .any, .any, .any, .any, .any, .any, .any, .any, .any, .any, .any, .any, .any, .any, .any, .any, .any, .any, .any, .any, .any, .any, .any, .any, .any, .any, .any, .any, .any, .any, .any, .any, .any, .any, .any, .any, .any, .any, .any, .any, .any, .any, .any, .any, .any, .any, .any, .any, .any, .any, .any, .any, .any, .any, .any, .any, .any, .any, .any, .any, .any, .any, .any, .any, .any, .any, .any, .any, .any, .any, .any, .any, .any, .any, .any, .any, .any, .any, .any, .any, .any, .any, .any, .any, .any, .any, .any, .any, .any, .any, .any, .any, .any, .any, .any, .any, .any, .any, .any, .any, .any, .any, .any, .any, .any, .any, .any, .any, .any, .any, .any, .any, .any, .any, .any, .any, .any, .any, .any, .any, .any, .any, .any, .any, .any, .any, .any, .any, .any, .any, .any, .any, .any, .any, .any, .any, .any]⟩
@[reducible] def sh_ref26_Parse_15 : PSh := ⟨[.var 33 [.v (.int .i64), .v (.int .i64), .v (.int .i64), .v (.int .i64), .v (.int .i64), .v (.int .i64), .v .bool]], [.mk false [.v .str], .any, .mk false [.ref 0 0], .any, .mk false [.v .str], .mk false [.v (.int .i64)], .mk false [.v (.int .u8)], .mk false [.v .bool], .any, .any, .any, .any, .any, .any, .any, .any, .any, .any, .any, .any, .any, .any, .any, .any, .any, .any, .any, .any, .any, .any, .any, .any, .any, .any, .any, .any, .any, .any, .any, .any, .any, .any, .any, .any, .any, .any, .any, .any, .any, .any, .any, .any, .any, .any, .any, .any, .any, .any, .any, .any, .any, .any, .any, .any, .any, .any, .any, .any, .any, .any, .any, .any, .any, .any, .any, .any, .any, .any, .any, .any, .any, .any, .any, .any, .any, .any, .any, .any, .any, .any, .any, .any, .any, .any, .any, .any, .any, .any, .any, .any, .any, .any, .any, .any, .any, .any, .any, .any, .any, .any, .any, .any, .any, .any, .any, .any, .any, .any, .any, .any, .any, .any, .any, .any, .any, .any, .any, .any, .any, .any, .any, .any, .any, .any, .any, .any, .any, .any, .any, .any, .any, .any, .any, .any, .any, .any, .any, .any, .any, .any, .any, .any, .any, .any, .any, .any, .any, .any, .any, .any, .any, .any, .any, .any, .any, .any, .any, .any, .any, .any, .any, .any, .any, .any, .any]⟩
@[reducible] def sh_ref26_Parse_25 : PSh := ⟨[.var 33 [.v (.int .i64), .v (.int .i64), .v (.int .i64), .v (.int .i64), .v (.int .i64), .v (.int .i64), .v .bool], .var 33 [.v (.int .i64), .v (.int .i64), .v (.int .i64), .v (.int .i64), .v (.int .i64), .v (.int .i64), .v .bool]], [.mk false [.v .str], .any, .mk false [.ref 0 0], .any, .any, .any, .any, .any, .mk false [.ref 1 0], .mk false [.v .bool], .mk false [.v (.int .i64)], .any, .any, .any, .any, .any, .any, .any, .any, .any, .any, .any, .any, .any, .any, .any, .any, .any, .any, .any, .any, .any, .any, .any, .any, .any, .any, .any, .any, .any, .any, .any, .any, .any, .any, .any, .any, .any, .any, .any, .any, .any, .any, .any, .any, .any, .any, .any, .any, .any, .any, .any, .any, .any, .any, .any, .any, .any, .any, .any, .any, .any, .any, .any, .any, .any, .any, .any, .any, .any, .any, .any, .any, .any, .any, .any, .any, .any, .any, .any, .any, .any, .any, .any, .any, .any, .any, .any, .any, .any, .any, .any, .any, .any, .any, .any, .any, .any, .any, .any, .any, .any, .any, .any, .any, .any, .any, .any, .any, .any, .any, .any, .any, .any, .any, .any, .any, .any, .any, .any, .any, .any, .any, .any, .any, .any, .any, .any, .any, .any, .any, .any, .any, .any, .any, .any, .any, .any, .any, .any, .any, .any, .any, .any, .any, .any, .any, .any, .any, .any, .any, .any, .any, .any, .any, .any, .any, .any, .any, .any, .any, .any, .any, .any, .any]⟩
def f_ref26_Parse_p7 (T : TT_ref26_Parse) (d : ((Int × (Int × (Int × (Int × (Int × (Int × (Bool × Unit))))))) × Unit) × ((ByteArray × Unit) × (Unit × ((ByteArray × Unit) × ((Int × Unit) × Unit))))) : Option (Unit × ((Int × (Int × (Int × (Int × (Int × (Int × (Bool × Unit))))))) × ((Int × Unit) × Unit))) :=
  let x4 : Int := (d.2.1.1.size : Int)
  let x5 : Bool := (decide (d.2.2.2.2.1.1 < x4))
  bif x5 then (
  bif decide ((0 : Int) ≤ d.2.2.2.2.1.1) && decide (d.2.2.2.2.1.1 < ((d.2.2.2.1.1.size : Int) : Int)) then (
  let x6 : Int := (bt d.2.2.2.1.1 d.2.2.2.2.1.1)
  bif decide ((0 : Int) ≤ d.2.2.2.2.1.1) && decide (d.2.2.2.2.1.1 < ((d.2.1.1.size : Int) : Int)) then (
  let x7 : Int := (bt d.2.1.1 d.2.2.2.2.1.1)
  let x8 : Bool := (x7 == x6)
  let x9 : Bool := (x6 == (48 : Int))
  bif x9 then (
  bif decide ((0 : Int) ≤ d.2.2.2.2.1.1) && decide (d.2.2.2.2.1.1 < ((d.2.1.1.size : Int) : Int)) then (
  let x10 : Int := (bt d.2.1.1 d.2.2.2.2.1.1)
  (g_ref02_Is ((), ((x10, ()), ()))).bind fun x11 =>
  let x12 : Bool := (x6 == (42 : Int))
  bif x12 then (
  bif decide ((0 : Int) ≤ d.2.2.2.2.1.1) && decide (d.2.2.2.2.1.1 < ((d.2.1.1.size : Int) : Int)) then (
  let x13 : Int := (bt d.2.1.1 d.2.2.2.2.1.1)
  (g_ref02_Is ((), ((x13, ()), ()))).bind fun x14 =>
  bif x14.2.1.1 then (
  (T.2.1 (((d.1.1.1, (d.1.1.2.1, (d.1.1.2.2.1, (d.1.1.2.2.2.1, (d.1.1.2.2.2.2.1, (d.1.1.2.2.2.2.2.1, (d.1.1.2.2.2.2.2.2.1, ()))))))), ()), ((d.2.1.1, ()), ((), ((d.2.2.2.1.1, ()), ((d.2.2.2.2.1.1, ()), ((x6, ()), ((true, ()), ())))))))))
  else (
  bif decide ((0 : Int) ≤ d.2.2.2.2.1.1) && decide (d.2.2.2.2.1.1 < ((d.2.1.1.size : Int) : Int)) then (
  let x15 : Int := (bt d.2.1.1 d.2.2.2.2.1.1)
  let x16 : Bool := (x15 == (32 : Int))
  (T.2.1 (((d.1.1.1, (d.1.1.2.1, (d.1.1.2.2.1, (d.1.1.2.2.2.1, (d.1.1.2.2.2.2.1, (d.1.1.2.2.2.2.2.1, (d.1.1.2.2.2.2.2.2.1, ()))))))), ()), ((d.2.1.1, ()), ((), ((d.2.2.2.1.1, ()), ((d.2.2.2.2.1.1, ()), ((x6, ()), ((x16, ()), ())))))))))
  else none))
  else none)
  else (
  (T.2.1 (((d.1.1.1, (d.1.1.2.1, (d.1.1.2.2.1, (d.1.1.2.2.2.1, (d.1.1.2.2.2.2.1, (d.1.1.2.2.2.2.2.1, (d.1.1.2.2.2.2.2.2.1, ()))))))), ()), ((d.2.1.1, ()), ((), ((d.2.2.2.1.1, ()), ((d.2.2.2.2.1.1, ()), ((x6, ()), ((x11.2.1.1, ()), ()))))))))))
  else none)
  else (
  let x17 : Bool := (x6 == (42 : Int))
  bif x17 then (
  bif decide ((0 : Int) ≤ d.2.2.2.2.1.1) && decide (d.2.2.2.2.1.1 < ((d.2.1.1.size : Int) : Int)) then (
  let x18 : Int := (bt d.2.1.1 d.2.2.2.2.1.1)
  (g_ref02_Is ((), ((x18, ()), ()))).bind fun x19 =>
  bif x19.2.1.1 then (
  (T.2.1 (((d.1.1.1, (d.1.1.2.1, (d.1.1.2.2.1, (d.1.1.2.2.2.1, (d.1.1.2.2.2.2.1, (d.1.1.2.2.2.2.2.1, (d.1.1.2.2.2.2.2.2.1, ()))))))), ()), ((d.2.1.1, ()), ((), ((d.2.2.2.1.1, ()), ((d.2.2.2.2.1.1, ()), ((x6, ()), ((true, ()), ())))))))))
  else (
  bif decide ((0 : Int) ≤ d.2.2.2.2.1.1) && decide (d.2.2.2.2.1.1 < ((d.2.1.1.size : Int) : Int)) then (
  let x20 : Int := (bt d.2.1.1 d.2.2.2.2.1.1)
  let x21 : Bool := (x20 == (32 : Int))
  (T.2.1 (((d.1.1.1, (d.1.1.2.1, (d.1.1.2.2.1, (d.1.1.2.2.2.1, (d.1.1.2.2.2.2.1, (d.1.1.2.2.2.2.2.1, (d.1.1.2.2.2.2.2.2.1, ()))))))), ()), ((d.2.1.1, ()), ((), ((d.2.2.2.1.1, ()), ((d.2.2.2.2.1.1, ()), ((x6, ()), ((x21, ()), ())))))))))
  else none))
  else none)
  else (
  (T.2.1 (((d.1.1.1, (d.1.1.2.1, (d.1.1.2.2.1, (d.1.1.2.2.2.1, (d.1.1.2.2.2.2.1, (d.1.1.2.2.2.2.2.1, (d.1.1.2.2.2.2.2.2.1, ()))))))), ()), ((d.2.1.1, ()), ((), ((d.2.2.2.1.1, ()), ((d.2.2.2.2.1.1, ()), ((x6, ()), ((x8, ()), ())))))))))))
  else none)
  else none)
  else (
  (g_ref26_number ((), ((d.2.1.1, ()), (((25 : Int), ()), (((2 : Int), ()), ()))))).bind fun x22 =>
  (g_ref26_number ((), ((d.2.1.1, ()), (((28 : Int), ()), (((1 : Int), ()), ()))))).bind fun x23 =>
  (g_ref26_number ((), ((d.2.1.1, ()), (((30 : Int), ()), (((1 : Int), ()), ()))))).bind fun x24 =>
  let x25 : Int := (d.2.1.1.size : Int)
  let x26 : Int := (isub .i64 x25 (2 : Int))
  bif decide ((0 : Int) ≤ x26) && decide (x26 < ((d.2.1.1.size : Int) : Int)) then (
  let x27 : Int := (bt d.2.1.1 x26)
  let x28 : Bool := (x27 == (35 : Int))
  (T.2.2.1 (((d.1.1.1, (d.1.1.2.1, (d.1.1.2.2.1, (d.1.1.2.2.2.1, (d.1.1.2.2.2.2.1, (d.1.1.2.2.2.2.2.1, (d.1.1.2.2.2.2.2.2.1, ()))))))), (((0 : Int), ((0 : Int), (x22.2.1.1, (x23.2.1.1, (x24.2.1.1, ((0 : Int), (x28, ()))))))), ())), ((d.2.1.1, ()), ((), ((), ((false, ()), (((0 : Int), ()), ()))))))))
  else none)
def f_ref26_Parse_p15 (T : TT_ref26_Parse) (d : ((Int × (Int × (Int × (Int × (Int × (Int × (Bool × Unit))))))) × Unit) × ((ByteArray × Unit) × (Unit × ((ByteArray × Unit) × ((Int × Unit) × ((Int × Unit) × ((Bool × Unit) × Unit))))))) : Option (Unit × ((Int × (Int × (Int × (Int × (Int × (Int × (Bool × Unit))))))) × ((Int × Unit) × Unit))) :=
  let x29 : Bool := (d.2.2.2.2.2.1.1 == (33 : Int))
  bif x29 then (
  bif decide ((0 : Int) ≤ d.2.2.2.2.1.1) && decide (d.2.2.2.2.1.1 < ((d.2.1.1.size : Int) : Int)) then (
  let x30 : Int := (bt d.2.1.1 d.2.2.2.2.1.1)
  let x31 : Bool := (x30 == (35 : Int))
  bif x31 then (
  let x32 : Int := (iadd .i64 d.2.2.2.2.1.1 (1 : Int))
  (T.1 (((d.1.1.1, (d.1.1.2.1, (d.1.1.2.2.1, (d.1.1.2.2.2.1, (d.1.1.2.2.2.2.1, (d.1.1.2.2.2.2.2.1, (d.1.1.2.2.2.2.2.2.1, ()))))))), ()), ((d.2.1.1, ()), ((), ((d.2.2.2.1.1, ()), ((x32, ()), ())))))))
  else (
  bif decide ((0 : Int) ≤ d.2.2.2.2.1.1) && decide (d.2.2.2.2.1.1 < ((d.2.1.1.size : Int) : Int)) then (
  let x33 : Int := (bt d.2.1.1 d.2.2.2.2.1.1)
  let x34 : Bool := (x33 == (42 : Int))
  let x35 : Bool := (!x34)
  bif x35 then (
  some ((), (((0 : Int), ((0 : Int), ((0 : Int), ((0 : Int), ((0 : Int), ((0 : Int), (false, ()))))))), (((2 : Int), ()), ()))))
  else (
  let x36 : Int := (iadd .i64 d.2.2.2.2.1.1 (1 : Int))
  (T.1 (((d.1.1.1, (d.1.1.2.1, (d.1.1.2.2.1, (d.1.1.2.2.2.1, (d.1.1.2.2.2.2.1, (d.1.1.2.2.2.2.2.1, (d.1.1.2.2.2.2.2.2.1, ()))))))), ()), ((d.2.1.1, ()), ((), ((d.2.2.2.1.1, ()), ((x36, ()), ()))))))))
  else none))
  else none)
  else (
  let x37 : Bool := (!d.2.2.2.2.2.2.1.1)
  bif x37 then (
  some ((), (((0 : Int), ((0 : Int), ((0 : Int), ((0 : Int), ((0 : Int), ((0 : Int), (false, ()))))))), (((2 : Int), ()), ()))))
  else (
  let x38 : Int := (iadd .i64 d.2.2.2.2.1.1 (1 : Int))
  (T.1 (((d.1.1.1, (d.1.1.2.1, (d.1.1.2.2.1, (d.1.1.2.2.2.1, (d.1.1.2.2.2.2.1, (d.1.1.2.2.2.2.2.1, (d.1.1.2.2.2.2.2.2.1, ()))))))), ()), ((d.2.1.1, ()), ((), ((d.2.2.2.1.1, ()), ((x38, ()), ()))))))))
def f_ref26_Parse_p25 (T : TT_ref26_Parse) (d : ((Int × (Int × (Int × (Int × (Int × (Int × (Bool × Unit))))))) × ((Int × (Int × (Int × (Int × (Int × (Int × (Bool × Unit))))))) × Unit)) × ((ByteArray × Unit) × (Unit × (Unit × ((Bool × Unit) × ((Int × Unit) × Unit)))))) : Option (Unit × ((Int × (Int × (Int × (Int × (Int × (Int × (Bool × Unit))))))) × ((Int × Unit) × Unit))) :=
  let x39 : Bool := (decide (d.2.2.2.2.2.1.1 ≤ (9999 : Int)))
  bif x39 then (
  bif decide ((37 : Int) ≤ (d.2.1.1.size : Int)) then (
  let x40 : ByteArray := (d.2.1.1.extract (Int.toNat (36 : Int)) (Int.toNat (37 : Int)))
  let x41 : Int := (Int.tmod d.2.2.2.2.2.1.1 (10 : Int))
  (g_ref26_raw ((), ((x41, ()), (((1 : Int), ()), ())))).bind fun x42 =>
  let x43 : Bool := (x40.toList == x42.2.1.1.toList)
  bif x43 then (
  (g_ref26_advance ((), ((d.2.2.2.2.2.1.1, ()), ()))).bind fun x44 =>
  bif decide ((37 : Int) ≤ (d.2.1.1.size : Int)) then (
  let x45 : ByteArray := (d.2.1.1.extract (Int.toNat (32 : Int)) (Int.toNat (37 : Int)))
  let x46 : Bool := (x44.2.1.1.toList == x45.toList)
  bif x46 then (
  let x47 : Int := (iadd .i64 d.2.2.2.2.2.1.1 (1 : Int))
  (T.2.2.1 (((d.1.1.1, (d.1.1.2.1, (d.1.1.2.2.1, (d.1.1.2.2.2.1, (d.1.1.2.2.2.2.1, (d.1.1.2.2.2.2.2.1, (d.1.1.2.2.2.2.2.2.1, ()))))))), ((d.1.2.1.1, (d.1.2.1.2.1, (d.1.2.1.2.2.1, (d.1.2.1.2.2.2.1, (d.1.2.1.2.2.2.2.1, (d.2.2.2.2.2.1.1, (d.1.2.1.2.2.2.2.2.2.1, ()))))))), ())), ((d.2.1.1, ()), ((), ((), ((true, ()), ((x47, ()), ()))))))))
  else (
  let x48 : Int := (iadd .i64 d.2.2.2.2.2.1.1 (1 : Int))
  (T.2.2.1 (((d.1.1.1, (d.1.1.2.1, (d.1.1.2.2.1, (d.1.1.2.2.2.1, (d.1.1.2.2.2.2.1, (d.1.1.2.2.2.2.2.1, (d.1.1.2.2.2.2.2.2.1, ()))))))), ((d.1.2.1.1, (d.1.2.1.2.1, (d.1.2.1.2.2.1, (d.1.2.1.2.2.2.1, (d.1.2.1.2.2.2.2.1, (d.1.2.1.2.2.2.2.2.1, (d.1.2.1.2.2.2.2.2.2.1, ()))))))), ())), ((d.2.1.1, ()), ((), ((), ((d.2.2.2.2.1.1, ()), ((x48, ()), ())))))))))
  else none)
  else (
  let x49 : Int := (iadd .i64 d.2.2.2.2.2.1.1 (1 : Int))
  (T.2.2.1 (((d.1.1.1, (d.1.1.2.1, (d.1.1.2.2.1, (d.1.1.2.2.2.1, (d.1.1.2.2.2.2.1, (d.1.1.2.2.2.2.2.1, (d.1.1.2.2.2.2.2.2.1, ()))))))), ((d.1.2.1.1, (d.1.2.1.2.1, (d.1.2.1.2.2.1, (d.1.2.1.2.2.2.1, (d.1.2.1.2.2.2.2.1, (d.1.2.1.2.2.2.2.2.1, (d.1.2.1.2.2.2.2.2.2.1, ()))))))), ())), ((d.2.1.1, ()), ((), ((), ((d.2.2.2.2.1.1, ()), ((x49, ()), ())))))))))
  else none)
  else (
  let x50 : Bool := (!d.2.2.2.2.1.1)
  bif x50 then (
  some ((), (((0 : Int), ((0 : Int), ((0 : Int), ((0 : Int), ((0 : Int), ((0 : Int), (false, ()))))))), (((2 : Int), ()), ()))))
  else (
  (g_ref26_number ((), ((d.2.1.1, ()), (((1 : Int), ()), (((5 : Int), ()), ()))))).bind fun x51 =>
  let x52 : Int := (isub .i64 x51.2.1.1 (40587 : Int))
  (g_ref05_Date ((), ((x52, ()), ()))).bind fun x53 =>
  (g_ref26_number ((), ((d.2.1.1, ()), (((7 : Int), ()), (((2 : Int), ()), ()))))).bind fun x54 =>
  let x55 : Int := (Int.tmod x53.2.1.1 (100 : Int))
  let x56 : Bool := (x54.2.1.1 != x55)
  bif x56 then (
  some ((), (((0 : Int), ((0 : Int), ((0 : Int), ((0 : Int), ((0 : Int), ((0 : Int), (false, ()))))))), (((10 : Int), ()), ()))))
  else (
  (g_ref26_number ((), ((d.2.1.1, ()), (((10 : Int), ()), (((2 : Int), ()), ()))))).bind fun x57 =>
  let x58 : Bool := (x57.2.1.1 != x53.2.2.1.1)
  bif x58 then (
  some ((), (((0 : Int), ((0 : Int), ((0 : Int), ((0 : Int), ((0 : Int), ((0 : Int), (false, ()))))))), (((10 : Int), ()), ()))))
  else (
  (g_ref26_number ((), ((d.2.1.1, ()), (((13 : Int), ()), (((2 : Int), ()), ()))))).bind fun x59 =>
  let x60 : Bool := (x59.2.1.1 != x53.2.2.2.1.1)
  bif x60 then (
  some ((), (((0 : Int), ((0 : Int), ((0 : Int), ((0 : Int), ((0 : Int), ((0 : Int), (false, ()))))))), (((10 : Int), ()), ()))))
  else (
  (g_ref26_number ((), ((d.2.1.1, ()), (((16 : Int), ()), (((2 : Int), ()), ()))))).bind fun x61 =>
  (g_ref26_number ((), ((d.2.1.1, ()), (((19 : Int), ()), (((2 : Int), ()), ()))))).bind fun x62 =>
  (g_ref26_number ((), ((d.2.1.1, ()), (((22 : Int), ()), (((2 : Int), ()), ()))))).bind fun x63 =>
  let x64 : Bool := (decide (x61.2.1.1 > (23 : Int)))
  bif x64 then (
  some ((), (((0 : Int), ((0 : Int), ((0 : Int), ((0 : Int), ((0 : Int), ((0 : Int), (false, ()))))))), (((1 : Int), ()), ()))))
  else (
  let x65 : Bool := (decide (x62.2.1.1 > (59 : Int)))
  bif x65 then (
  some ((), (((0 : Int), ((0 : Int), ((0 : Int), ((0 : Int), ((0 : Int), ((0 : Int), (false, ()))))))), (((1 : Int), ()), ()))))
  else (
  let x66 : Bool := (decide (x63.2.1.1 > (60 : Int)))
  bif x66 then (
  some ((), (((0 : Int), ((0 : Int), ((0 : Int), ((0 : Int), ((0 : Int), ((0 : Int), (false, ()))))))), (((1 : Int), ()), ()))))
  else (
  let x67 : Bool := (decide (d.1.2.1.2.2.2.1 > (2 : Int)))
  bif x67 then (
  some ((), (((0 : Int), ((0 : Int), ((0 : Int), ((0 : Int), ((0 : Int), ((0 : Int), (false, ()))))))), (((1 : Int), ()), ()))))
  else (
  let x68 : Bool := (x63.2.1.1 == (60 : Int))
  bif x68 then (
  let x69 : Int := (imul .i64 x61.2.1.1 (60 : Int))
  let x70 : Int := (iadd .i64 x69 x62.2.1.1)
  let x71 : Bool := (x70 != (1439 : Int))
  bif x71 then (
  some ((), (((0 : Int), ((0 : Int), ((0 : Int), ((0 : Int), ((0 : Int), ((0 : Int), (false, ()))))))), (((12 : Int), ()), ()))))
  else (
  let x72 : Int := (imul .i64 x61.2.1.1 (3600 : Int))
  let x73 : Int := (imul .i64 x62.2.1.1 (60 : Int))
  let x74 : Int := (iadd .i64 x72 x73)
  let x75 : Int := (iadd .i64 x74 x63.2.1.1)
  some ((), ((x52, (x75, (d.1.2.1.2.2.1, (d.1.2.1.2.2.2.1, (d.1.2.1.2.2.2.2.1, (d.1.2.1.2.2.2.2.2.1, (d.1.2.1.2.2.2.2.2.2.1, ()))))))), (((0 : Int), ()), ())))))
  else (
  let x76 : Int := (imul .i64 x61.2.1.1 (3600 : Int))
  let x77 : Int := (imul .i64 x62.2.1.1 (60 : Int))
  let x78 : Int := (iadd .i64 x76 x77)
  let x79 : Int := (iadd .i64 x78 x63.2.1.1)
  some ((), ((x52, (x79, (d.1.2.1.2.2.1, (d.1.2.1.2.2.2.1, (d.1.2.1.2.2.2.2.1, (d.1.2.1.2.2.2.2.2.1, (d.1.2.1.2.2.2.2.2.2.1, ()))))))), (((0 : Int), ()), ())))))))))))))
def f_ref26_Parse_t : Nat → TT_ref26_Parse
  | 0 => (fun _ => none, (fun _ => none, (fun _ => none, ())))
  | k + 1 => (f_ref26_Parse_p7 (f_ref26_Parse_t k), (f_ref26_Parse_p15 (f_ref26_Parse_t k), (f_ref26_Parse_p25 (f_ref26_Parse_t k), ())))
theorem t_ref26_Parse (k : Nat) : f_ref26_Parse_t (k + 1) = (f_ref26_Parse_p7 (f_ref26_Parse_t k), (f_ref26_Parse_p15 (f_ref26_Parse_t k), (f_ref26_Parse_p25 (f_ref26_Parse_t k), ()))) := rfl
def f_ref26_Parse_m (T : TT_ref26_Parse) (d : Unit × ((ByteArray × Unit) × Unit)) : Option (Unit × ((Int × (Int × (Int × (Int × (Int × (Int × (Bool × Unit))))))) × ((Int × Unit) × Unit))) :=
  let x1 : Int := (d.2.1.1.size : Int)
  let x2 : Int := ((⟨#[10, 48, 48, 48, 48, 48, 32, 48, 48, 45, 48, 48, 45, 48, 48, 32, 48, 48, 58, 48, 48, 58, 48, 48, 32, 48, 48, 32, 48, 32, 48, 32, 42, 42, 42, 46, 48, 32, 85, 84, 67, 40, 78, 73, 83, 84, 41, 32, 33, 10]⟩ : ByteArray).size : Int)
  let x3 : Bool := (x1 != x2)
  bif x3 then (
  some ((), (((0 : Int), ((0 : Int), ((0 : Int), ((0 : Int), ((0 : Int), ((0 : Int), (false, ()))))))), (((2 : Int), ()), ()))))
  else (
  (T.1 ((((0 : Int), ((0 : Int), ((0 : Int), ((0 : Int), ((0 : Int), ((0 : Int), (false, ()))))))), ()), ((d.2.1.1, ()), ((), (((⟨#[10, 48, 48, 48, 48, 48, 32, 48, 48, 45, 48, 48, 45, 48, 48, 32, 48, 48, 58, 48, 48, 58, 48, 48, 32, 48, 48, 32, 48, 32, 48, 32, 42, 42, 42, 46, 48, 32, 85, 84, 67, 40, 78, 73, 83, 84, 41, 32, 33, 10]⟩ : ByteArray), ()), (((0 : Int), ()), ())))))))
def c_ref26_Parse : List Nat := [15]
def L_ref26_Parse (k : Nat) : Pts po_ref26_Parse.den := [(7, ⟨sh_ref26_Parse_7, (f_ref26_Parse_t k).1⟩), (15, ⟨sh_ref26_Parse_15, (f_ref26_Parse_t k).2.1⟩), (25, ⟨sh_ref26_Parse_25, (f_ref26_Parse_t k).2.2.1⟩)]
def E_ref26_Parse : Env := (((((E0.add 29 (typedSem pi_ref02_Is po_ref02_Is g_ref02_Is)).add 30 (typedSem pi_ref26_number po_ref26_number g_ref26_number)).add 31 (typedSem pi_ref26_raw po_ref26_raw g_ref26_raw)).add 32 (typedSem pi_ref26_advance po_ref26_advance g_ref26_advance)).add 33 (typedSem pi_ref05_Date po_ref05_Date g_ref05_Date))
theorem q_ref26_Parse_7 (k : Nat) (d : ((Int × (Int × (Int × (Int × (Int × (Int × (Bool × Unit))))))) × Unit) × ((ByteArray × Unit) × (Unit × ((ByteArray × Unit) × ((Int × Unit) × Unit))))) : evAt E_ref26_Parse (tab (L_ref26_Parse k)) c_ref26_Parse 7 (bodyOf Tryz.f8) 0 (finK E_ref26_Parse po_ref26_Parse [.cell 2 33, .tmp 3]) (ptSt sh_ref26_Parse_7 d) = f_ref26_Parse_p7 (f_ref26_Parse_t k) d := by kernel_rfl
theorem q_ref26_Parse_15 (k : Nat) (d : ((Int × (Int × (Int × (Int × (Int × (Int × (Bool × Unit))))))) × Unit) × ((ByteArray × Unit) × (Unit × ((ByteArray × Unit) × ((Int × Unit) × ((Int × Unit) × ((Bool × Unit) × Unit))))))) : evAt E_ref26_Parse (tab (L_ref26_Parse k)) c_ref26_Parse 15 (bodyOf Tryz.f8) 0 (finK E_ref26_Parse po_ref26_Parse [.cell 2 33, .tmp 3]) (ptSt sh_ref26_Parse_15 d) = f_ref26_Parse_p15 (f_ref26_Parse_t k) d := by kernel_rfl
theorem q_ref26_Parse_25 (k : Nat) (d : ((Int × (Int × (Int × (Int × (Int × (Int × (Bool × Unit))))))) × ((Int × (Int × (Int × (Int × (Int × (Int × (Bool × Unit))))))) × Unit)) × ((ByteArray × Unit) × (Unit × (Unit × ((Bool × Unit) × ((Int × Unit) × Unit)))))) : evAt E_ref26_Parse (tab (L_ref26_Parse k)) c_ref26_Parse 25 (bodyOf Tryz.f8) 0 (finK E_ref26_Parse po_ref26_Parse [.cell 2 33, .tmp 3]) (ptSt sh_ref26_Parse_25 d) = f_ref26_Parse_p25 (f_ref26_Parse_t k) d := by kernel_rfl
theorem q_ref26_Parse_m (k : Nat) (d : Unit × ((ByteArray × Unit) × Unit)) : evCode E_ref26_Parse (tab (L_ref26_Parse k)) c_ref26_Parse (bodyOf Tryz.f8) 0 (finK E_ref26_Parse po_ref26_Parse [.cell 2 33, .tmp 3]) (startSt pi_ref26_Parse 175 d) = f_ref26_Parse_m (f_ref26_Parse_t k) d := by kernel_rfl
theorem go_ref26_Parse (F : Unit × ((ByteArray × Unit) × Unit) → Option (Unit × ((Int × (Int × (Int × (Int × (Int × (Int × (Bool × Unit))))))) × ((Int × Unit) × Unit)))) (hF : ∀ d out, F d = some out → ∃ k, f_ref26_Parse_m (f_ref26_Parse_t k) d = some out) : FnOk Tryz.prog ET0 8 pi_ref26_Parse po_ref26_Parse F :=
  fn_of_body (E := E_ref26_Parse) (envOk_add (envOk_add (envOk_add (envOk_add (envOk_add e0_ok (typed_ok ok_ref02_Is)) (typed_ok ok_ref26_number)) (typed_ok ok_ref26_raw)) (typed_ok ok_ref26_advance)) (typed_ok ok_ref05_Date)) (fn := Tryz.f8) Tryz.func8 (by kernel_rfl) (by kernel_rfl) [.cell 2 33, .tmp 3] (by kernel_rfl) (by kernel_rfl) (by decide) rfl c_ref26_Parse L_ref26_Parse
    (by intro x hx d; simp only [L_ref26_Parse, List.mem_cons, List.not_mem_nil, or_false] at hx; rcases hx with rfl | rfl | rfl; rfl; rfl; rfl)
    (by intro k x hx d out h; simp only [L_ref26_Parse, List.mem_cons, List.not_mem_nil, or_false] at hx; rcases hx with rfl | rfl | rfl; exact (q_ref26_Parse_7 k d).trans h; exact (q_ref26_Parse_15 k d).trans h; exact (q_ref26_Parse_25 k d).trans h)
    (by intro d out h; obtain ⟨k, hk⟩ := hF d out h; exact ⟨k, (q_ref26_Parse_m k d).trans hk⟩)
def g_ref26_Parse (d : Unit × ((ByteArray × Unit) × Unit)) : Option (Unit × ((Int × (Int × (Int × (Int × (Int × (Int × (Bool × Unit))))))) × ((Int × Unit) × Unit))) := lim fun k => f_ref26_Parse_m (f_ref26_Parse_t k) d
theorem ok_ref26_Parse : FnOk Tryz.prog ET0 8 pi_ref26_Parse po_ref26_Parse g_ref26_Parse := go_ref26_Parse g_ref26_Parse fun d out h => lim_some h

/- horologe/horologelaw26.Document -/
@[reducible] def pi_law26_Document : PSh := ⟨[], [.mk true [.v (.int .i64), .v (.int .i64), .v (.int .i64), .v (.int .i64), .v (.int .i64), .v (.int .i64), .v .bool]]⟩
@[reducible] def po_law26_Document : PSh := ⟨[], [.mk true [.v (.int .i64), .v (.int .i64), .v (.int .i64), .v (.int .i64), .v (.int .i64), .v (.int .i64), .v .bool]]⟩
def f_law26_Document_m (T : Unit) (d : Unit × ((Int × (Int × (Int × (Int × (Int × (Int × (Bool × Unit))))))) × Unit)) : Option (Unit × ((Int × (Int × (Int × (Int × (Int × (Int × (Bool × Unit))))))) × Unit)) :=
  some ((), ((d.2.1.1, (d.2.1.2.1, (d.2.1.2.2.1, (d.2.1.2.2.2.1, (d.2.1.2.2.2.2.1, (d.2.1.2.2.2.2.2.1, (d.2.1.2.2.2.2.2.2.1, ()))))))), ()))
def c_law26_Document : List Nat := []
def L_law26_Document (_ : Nat) : Pts po_law26_Document.den := []
def E_law26_Document : Env := E0
theorem q_law26_Document_m (k : Nat) (d : Unit × ((Int × (Int × (Int × (Int × (Int × (Int × (Bool × Unit))))))) × Unit)) : evCode E_law26_Document (tab (L_law26_Document k)) c_law26_Document (bodyOf Tryz.f9) 0 (finK E_law26_Document po_law26_Document [.cell 2 33]) (startSt pi_law26_Document 18 d) = f_law26_Document_m () d := by kernel_rfl
def g_law26_Document (d : Unit × ((Int × (Int × (Int × (Int × (Int × (Int × (Bool × Unit))))))) × Unit)) : Option (Unit × ((Int × (Int × (Int × (Int × (Int × (Int × (Bool × Unit))))))) × Unit)) := f_law26_Document_m () d
theorem ok_law26_Document : FnOk Tryz.prog ET0 9 pi_law26_Document po_law26_Document g_law26_Document :=
  fn_of_body (E := E_law26_Document) e0_ok (fn := Tryz.f9) Tryz.func9 (by kernel_rfl) (by kernel_rfl) [.cell 2 33] (by kernel_rfl) (by kernel_rfl) (by decide) rfl c_law26_Document L_law26_Document
    (by intro x hx; cases hx) (by intro k x hx; cases hx) (fun d out h => ⟨0, (q_law26_Document_m 0 d).trans h⟩)

/- horologe/horologenum.Num -/
@[reducible] def pi_hnum_Num : PSh := ⟨[], [.mk false [.v .err]]⟩
@[reducible] def po_hnum_Num : PSh := ⟨[], [.mk false [.v (.int .i64)]]⟩
def f_hnum_Num_m (T : Unit) (d : Unit × (((Option Int) × Unit) × Unit)) : Option (Unit × ((Int × Unit) × Unit)) :=
  bif d.2.1.1.isNone then (
  some ((), (((0 : Int), ()), ())))
  else (
  bif d.2.1.1.isSome then (
  let x1 : Bool := ((d.2.1.1.getD 0) != (0 : Int))
  bif x1 then (
  some ((), (((d.2.1.1.getD 0), ()), ())))
  else (
  some ((), (((-1 : Int), ()), ()))))
  else (
  some ((), (((-1 : Int), ()), ()))))
def c_hnum_Num : List Nat := []
def L_hnum_Num (_ : Nat) : Pts po_hnum_Num.den := []
def E_hnum_Num : Env := E0
theorem q_hnum_Num_m (k : Nat) (d : Unit × (((Option Int) × Unit) × Unit)) : evCode E_hnum_Num (tab (L_hnum_Num k)) c_hnum_Num (bodyOf Tryz.f10) 0 (finK E_hnum_Num po_hnum_Num [.tmp 2]) (startSt pi_hnum_Num 18 d) = f_hnum_Num_m () d := by kernel_rfl
def g_hnum_Num (d : Unit × (((Option Int) × Unit) × Unit)) : Option (Unit × ((Int × Unit) × Unit)) := f_hnum_Num_m () d
theorem ok_hnum_Num : FnOk Tryz.prog ET0 10 pi_hnum_Num po_hnum_Num g_hnum_Num :=
  fn_of_body (E := E_hnum_Num) e0_ok (fn := Tryz.f10) Tryz.func10 (by kernel_rfl) (by kernel_rfl) [.tmp 2] (by kernel_rfl) (by kernel_rfl) (by decide) rfl c_hnum_Num L_hnum_Num
    (by intro x hx; cases hx) (by intro k x hx; cases hx) (fun d out h => ⟨0, (q_hnum_Num_m 0 d).trans h⟩)

/- horologe/horologeref05.Start -/
@[reducible] def pi_ref05_Start : PSh := ⟨[], [.mk false [.v (.int .i64)]]⟩
@[reducible] def po_ref05_Start : PSh := ⟨[], [.mk false [.v (.int .i64)]]⟩
@[reducible] def TT_ref05_Start : Type := (((Unit × ((Int × Unit) × ((Int × Unit) × Unit))) → Option (Unit × ((Int × Unit) × Unit))) × (((Unit × ((Int × Unit) × ((Int × Unit) × Unit))) → Option (Unit × ((Int × Unit) × Unit))) × (((Unit × ((Int × Unit) × ((Int × Unit) × ((Int × Unit) × Unit)))) → Option (Unit × ((Int × Unit) × Unit))) × Unit)))
@[reducible] def sh_ref05_Start_3 : PSh := ⟨[], [.mk false [.v (.int .i64)], .any, .any, .mk false [.v (.int .i64)], .any, .any, .any, .any, .any, .any, .any, .any, .any, .any, .any, .any, .any, .any, .any, .any, .any, .any, .any, .any, .any, .any, .any]⟩
@[reducible] def sh_ref05_Start_8 : PSh := ⟨[], [.mk false [.v (.int .i64)], .any, .any, .mk false [.v (.int .i64)], .any, .any, .any, .any, .any, .any, .any, .any, .any, .any, .any, .any, .any, .any, .any, .any, .any, .any, .any, .any, .any, .any, .any]⟩
@[reducible] def sh_ref05_Start_14 : PSh := ⟨[], [.mk false [.v (.int .i64)], .any, .any, .mk false [.v (.int .i64)], .mk false [.v (.int .i64)], .any, .any, .any, .any, .any, .any, .any, .any, .any, .any, .any, .any, .any, .any, .any, .any, .any, .any, .any, .any, .any, .any]⟩
def f_ref05_Start_p3 (T : TT_ref05_Start) (d : Unit × ((Int × Unit) × ((Int × Unit) × Unit))) : Option (Unit × ((Int × Unit) × Unit)) :=
  let x1 : Bool := (decide (d.2.1.1 < (1970 : Int)))
  bif x1 then (
  let x2 : Int := (iadd .i64 d.2.1.1 (400 : Int))
  let x3 : Int := (isub .i64 d.2.2.1.1 (146097 : Int))
  (T.1 ((), ((x2, ()), ((x3, ()), ())))))
  else (
  (T.2.1 ((), ((d.2.1.1, ()), ((d.2.2.1.1, ()), ())))))
def f_ref05_Start_p8 (T : TT_ref05_Start) (d : Unit × ((Int × Unit) × ((Int × Unit) × Unit))) : Option (Unit × ((Int × Unit) × Unit)) :=
  let x4 : Bool := (decide (d.2.1.1 ≥ (2370 : Int)))
  bif x4 then (
  let x5 : Int := (isub .i64 d.2.1.1 (400 : Int))
  let x6 : Int := (iadd .i64 d.2.2.1.1 (146097 : Int))
  (T.2.1 ((), ((x5, ()), ((x6, ()), ())))))
  else (
  (T.2.2.1 ((), ((d.2.1.1, ()), ((d.2.2.1.1, ()), (((1970 : Int), ()), ()))))))
def f_ref05_Start_p14 (T : TT_ref05_Start) (d : Unit × ((Int × Unit) × ((Int × Unit) × ((Int × Unit) × Unit)))) : Option (Unit × ((Int × Unit) × Unit)) :=
  let x7 : Bool := (decide (d.2.2.2.1.1 < d.2.1.1))
  bif x7 then (
  (g_ref05_Days ((), ((d.2.2.2.1.1, ()), ()))).bind fun x8 =>
  let x9 : Int := (iadd .i64 d.2.2.1.1 x8.2.1.1)
  let x10 : Int := (iadd .i64 d.2.2.2.1.1 (1 : Int))
  (T.2.2.1 ((), ((d.2.1.1, ()), ((x9, ()), ((x10, ()), ()))))))
  else (
  some ((), ((d.2.2.1.1, ()), ())))
def f_ref05_Start_t : Nat → TT_ref05_Start
  | 0 => (fun _ => none, (fun _ => none, (fun _ => none, ())))
  | k + 1 => (f_ref05_Start_p3 (f_ref05_Start_t k), (f_ref05_Start_p8 (f_ref05_Start_t k), (f_ref05_Start_p14 (f_ref05_Start_t k), ())))
theorem t_ref05_Start (k : Nat) : f_ref05_Start_t (k + 1) = (f_ref05_Start_p3 (f_ref05_Start_t k), (f_ref05_Start_p8 (f_ref05_Start_t k), (f_ref05_Start_p14 (f_ref05_Start_t k), ()))) := rfl
def f_ref05_Start_m (T : TT_ref05_Start) (d : Unit × ((Int × Unit) × Unit)) : Option (Unit × ((Int × Unit) × Unit)) :=
  (T.1 ((), ((d.2.1.1, ()), (((0 : Int), ()), ()))))
def c_ref05_Start : List Nat := []
def L_ref05_Start (k : Nat) : Pts po_ref05_Start.den := [(3, ⟨sh_ref05_Start_3, (f_ref05_Start_t k).1⟩), (8, ⟨sh_ref05_Start_8, (f_ref05_Start_t k).2.1⟩), (14, ⟨sh_ref05_Start_14, (f_ref05_Start_t k).2.2.1⟩)]
def E_ref05_Start : Env := (E0.add 78 (typedSem pi_ref05_Days po_ref05_Days g_ref05_Days))
theorem q_ref05_Start_3 (k : Nat) (d : Unit × ((Int × Unit) × ((Int × Unit) × Unit))) : evAt E_ref05_Start (tab (L_ref05_Start k)) c_ref05_Start 3 (bodyOf Tryz.f36) 0 (finK E_ref05_Start po_ref05_Start [.tmp 2]) (ptSt sh_ref05_Start_3 d) = f_ref05_Start_p3 (f_ref05_Start_t k) d := by kernel_rfl
theorem q_ref05_Start_8 (k : Nat) (d : Unit × ((Int × Unit) × ((Int × Unit) × Unit))) : evAt E_ref05_Start (tab (L_ref05_Start k)) c_ref05_Start 8 (bodyOf Tryz.f36) 0 (finK E_ref05_Start po_ref05_Start [.tmp 2]) (ptSt sh_ref05_Start_8 d) = f_ref05_Start_p8 (f_ref05_Start_t k) d := by kernel_rfl
theorem q_ref05_Start_14 (k : Nat) (d : Unit × ((Int × Unit) × ((Int × Unit) × ((Int × Unit) × Unit)))) : evAt E_ref05_Start (tab (L_ref05_Start k)) c_ref05_Start 14 (bodyOf Tryz.f36) 0 (finK E_ref05_Start po_ref05_Start [.tmp 2]) (ptSt sh_ref05_Start_14 d) = f_ref05_Start_p14 (f_ref05_Start_t k) d := by kernel_rfl
theorem q_ref05_Start_m (k : Nat) (d : Unit × ((Int × Unit) × Unit)) : evCode E_ref05_Start (tab (L_ref05_Start k)) c_ref05_Start (bodyOf Tryz.f36) 0 (finK E_ref05_Start po_ref05_Start [.tmp 2]) (startSt pi_ref05_Start 27 d) = f_ref05_Start_m (f_ref05_Start_t k) d := by kernel_rfl
theorem go_ref05_Start (F : Unit × ((Int × Unit) × Unit) → Option (Unit × ((Int × Unit) × Unit))) (hF : ∀ d out, F d = some out → ∃ k, f_ref05_Start_m (f_ref05_Start_t k) d = some out) : FnOk Tryz.prog ET0 36 pi_ref05_Start po_ref05_Start F :=
  fn_of_body (E := E_ref05_Start) (envOk_add e0_ok (typed_ok ok_ref05_Days)) (fn := Tryz.f36) Tryz.func36 (by kernel_rfl) (by kernel_rfl) [.tmp 2] (by kernel_rfl) (by kernel_rfl) (by decide) rfl c_ref05_Start L_ref05_Start
    (by intro x hx d; simp only [L_ref05_Start, List.mem_cons, List.not_mem_nil, or_false] at hx; rcases hx with rfl | rfl | rfl; rfl; rfl; rfl)
    (by intro k x hx d out h; simp only [L_ref05_Start, List.mem_cons, List.not_mem_nil, or_false] at hx; rcases hx with rfl | rfl | rfl; exact (q_ref05_Start_3 k d).trans h; exact (q_ref05_Start_8 k d).trans h; exact (q_ref05_Start_14 k d).trans h)
    (by intro d out h; obtain ⟨k, hk⟩ := hF d out h; exact ⟨k, (q_ref05_Start_m k d).trans hk⟩)
def g_ref05_Start (d : Unit × ((Int × Unit) × Unit)) : Option (Unit × ((Int × Unit) × Unit)) := lim fun k => f_ref05_Start_m (f_ref05_Start_t k) d
theorem ok_ref05_Start : FnOk Tryz.prog ET0 36 pi_ref05_Start po_ref05_Start g_ref05_Start := go_ref05_Start g_ref05_Start fun d out h => lim_some h

/- horologe/horologeref05.Last -/
@[reducible] def pi_ref05_Last : PSh := ⟨[], []⟩
@[reducible] def po_ref05_Last : PSh := ⟨[], [.mk false [.v (.int .i64)]]⟩
def f_ref05_Last_m (T : Unit) (d : Unit × Unit) : Option (Unit × ((Int × Unit) × Unit)) :=
  (g_ref05_Start ((), (((10000 : Int), ()), ()))).bind fun x1 =>
  let x2 : Int := (isub .i64 x1.2.1.1 (1 : Int))
  some ((), ((x2, ()), ()))
def c_ref05_Last : List Nat := []
def L_ref05_Last (_ : Nat) : Pts po_ref05_Last.den := []
def E_ref05_Last : Env := (E0.add 36 (typedSem pi_ref05_Start po_ref05_Start g_ref05_Start))
theorem q_ref05_Last_m (k : Nat) (d : Unit × Unit) : evCode E_ref05_Last (tab (L_ref05_Last k)) c_ref05_Last (bodyOf Tryz.f37) 0 (finK E_ref05_Last po_ref05_Last [.tmp 0]) (startSt pi_ref05_Last 3 d) = f_ref05_Last_m () d := by kernel_rfl
def g_ref05_Last (d : Unit × Unit) : Option (Unit × ((Int × Unit) × Unit)) := f_ref05_Last_m () d
theorem ok_ref05_Last : FnOk Tryz.prog ET0 37 pi_ref05_Last po_ref05_Last g_ref05_Last :=
  fn_of_body (E := E_ref05_Last) (envOk_add e0_ok (typed_ok ok_ref05_Start)) (fn := Tryz.f37) Tryz.func37 (by kernel_rfl) (by kernel_rfl) [.tmp 0] (by kernel_rfl) (by kernel_rfl) (by decide) rfl c_ref05_Last L_ref05_Last
    (by intro x hx; cases hx) (by intro k x hx; cases hx) (fun d out h => ⟨0, (q_ref05_Last_m 0 d).trans h⟩)

/- horologe/horologeref10.Check -/
@[reducible] def pi_ref10_Check : PSh := ⟨[], [.mk true [.v (.sl (.pair (.int .i64) (.int .i64))), .v (.int .i64), .v (.int .i64)]]⟩
@[reducible] def po_ref10_Check : PSh := ⟨[], [.mk false [.v (.int .i64)]]⟩
@[reducible] def TT_ref10_Check : Type := ((((((List (Int × Int)) × (Int × (Int × Unit))) × Unit) × (Unit × ((Int × Unit) × Unit))) → Option (Unit × ((Int × Unit) × Unit))) × ((((((List (Int × Int)) × (Int × (Int × Unit))) × Unit) × (Unit × ((Int × Unit) × Unit))) → Option (Unit × ((Int × Unit) × Unit))) × ((((((List (Int × Int)) × (Int × (Int × Unit))) × Unit) × (Unit × ((Int × Unit) × Unit))) → Option (Unit × ((Int × Unit) × Unit))) × Unit)))
@[reducible] def sh_ref10_Check_9 : PSh := ⟨[.var 41 [.v (.sl (.pair (.int .i64) (.int .i64))), .v (.int .i64), .v (.int .i64)]], [.any, .mk false [.ref 0 0], .any, .mk false [.v (.int .i64)], .any, .any, .any, .any, .any, .any, .any, .any, .any, .any, .any, .any, .any, .any, .any, .any, .any, .any, .any, .any, .any, .any, .any, .any, .any, .any, .any, .any, .any, .any, .any, .any, .any, .any, .any, .any, .any, .any, .any, .any, .any, .any, .any, .any, .any, .any, .any, .any, .any, .any, .any, .any, .any, .any, .any, .any, .any, .any, .any, .any, .any, .any, .any, .any, .any, .any, .any, .any, .any, .any, .any, .any, .any, .any, .any, .any, .any, .any, .any, .any, .any, .any, .any, .any, .any, .any, .any, .any, .any, .any, .any, .any, .any, .any, .any, .any, .any, .any, .any, .any, .any, .any, .any, .any, .any, .any, .any, .any, .any, .any, .any, .any, .any, .any, .any, .any, .any, .any, .any, .any, .any, .any, .any, .any, .any, .any, .any, .any, .any, .any, .any, .any]⟩
@[reducible] def sh_ref10_Check_21 : PSh := ⟨[.var 41 [.v (.sl (.pair (.int .i64) (.int .i64))), .v (.int .i64), .v (.int .i64)]], [.any, .mk false [.ref 0 0], .any, .any, .any, .mk false [.v (.int .i64)], .any, .any, .any, .any, .any, .any, .any, .any, .any, .any, .any, .any, .any, .any, .any, .any, .any, .any, .any, .any, .any, .any, .any, .any, .any, .any, .any, .any, .any, .any, .any, .any, .any, .any, .any, .any, .any, .any, .any, .any, .any, .any, .any, .any, .any, .any, .any, .any, .any, .any, .any, .any, .any, .any, .any, .any, .any, .any, .any, .any, .any, .any, .any, .any, .any, .any, .any, .any, .any, .any, .any, .any, .any, .any, .any, .any, .any, .any, .any, .any, .any, .any, .any, .any, .any, .any, .any, .any, .any, .any, .any, .any, .any, .any, .any, .any, .any, .any, .any, .any, .any, .any, .any, .any, .any, .any, .any, .any, .any, .any, .any, .any, .any, .any, .any, .any, .any, .any, .any, .any, .any, .any, .any, .any, .any, .any, .any, .any, .any, .any]⟩
@[reducible] def sh_ref10_Check_30 : PSh := ⟨[.var 41 [.v (.sl (.pair (.int .i64) (.int .i64))), .v (.int .i64), .v (.int .i64)]], [.any, .mk false [.ref 0 0], .any, .any, .any, .any, .any, .any, .any, .mk false [.v (.int .i64)], .any, .any, .any, .any, .any, .any, .any, .any, .any, .any, .any, .any, .any, .any, .any, .any, .any, .any, .any, .any, .any, .any, .any, .any, .any, .any, .any, .any, .any, .any, .any, .any, .any, .any, .any, .any, .any, .any, .any, .any, .any, .any, .any, .any, .any, .any, .any, .any, .any, .any, .any, .any, .any, .any, .any, .any, .any, .any, .any, .any, .any, .any, .any, .any, .any, .any, .any, .any, .any, .any, .any, .any, .any, .any, .any, .any, .any, .any, .any, .any, .any, .any, .any, .any, .any, .any, .any, .any, .any, .any, .any, .any, .any, .any, .any, .any, .any, .any, .any, .any, .any, .any, .any, .any, .any, .any, .any, .any, .any, .any, .any, .any, .any, .any, .any, .any, .any, .any, .any, .any, .any, .any, .any, .any, .any, .any]⟩
def f_ref10_Check_p9 (T : TT_ref10_Check) (d : (((List (Int × Int)) × (Int × (Int × Unit))) × Unit) × (Unit × ((Int × Unit) × Unit))) : Option (Unit × ((Int × Unit) × Unit)) :=
  let x5 : Int := (d.1.1.1.length : Int)
  let x6 : Bool := (decide (d.2.2.1.1 < x5))
  bif x6 then (
  bif decide ((0 : Int) ≤ d.2.2.1.1) && decide (d.2.2.1.1 < (d.1.1.1.length : Int)) then (
  (g_ref05_Start ((), (((1900 : Int), ()), ()))).bind fun x7 =>
  let x8 : Bool := (decide ((gd_i64_i64 d.1.1.1 d.2.2.1.1).1 < x7.2.1.1))
  bif x8 then (
  some ((), (((13 : Int), ()), ())))
  else (
  (g_ref05_Last ((), ())).bind fun x9 =>
  let x10 : Bool := (decide ((gd_i64_i64 d.1.1.1 d.2.2.1.1).1 > x9.2.1.1))
  bif x10 then (
  some ((), (((13 : Int), ()), ())))
  else (
  let x11 : Int := (iadd .i64 d.2.2.1.1 (1 : Int))
  (T.1 (((d.1.1.1, (d.1.1.2.1, (d.1.1.2.2.1, ()))), ()), ((), ((x11, ()), ())))))))
  else none)
  else (
  let x12 : Bool := (decide (d.1.1.2.1 < (0 : Int)))
  bif x12 then (
  some ((), (((1 : Int), ()), ())))
  else (
  let x13 : Bool := (decide (d.1.1.2.1 > (1099511627776 : Int)))
  bif x13 then (
  some ((), (((1 : Int), ()), ())))
  else (
  let x14 : Bool := (decide (d.1.1.2.2.1 < (0 : Int)))
  bif x14 then (
  some ((), (((1 : Int), ()), ())))
  else (
  let x15 : Bool := (decide (d.1.1.2.2.1 > (1099511627776 : Int)))
  bif x15 then (
  some ((), (((1 : Int), ()), ())))
  else (
  (T.2.1 (((d.1.1.1, (d.1.1.2.1, (d.1.1.2.2.1, ()))), ()), ((), (((0 : Int), ()), ())))))))))
def f_ref10_Check_p21 (T : TT_ref10_Check) (d : (((List (Int × Int)) × (Int × (Int × Unit))) × Unit) × (Unit × ((Int × Unit) × Unit))) : Option (Unit × ((Int × Unit) × Unit)) :=
  let x16 : Int := (d.1.1.1.length : Int)
  let x17 : Bool := (decide (d.2.2.1.1 < x16))
  bif x17 then (
  bif decide ((0 : Int) ≤ d.2.2.1.1) && decide (d.2.2.1.1 < (d.1.1.1.length : Int)) then (
  (g_ref05_Date ((), (((gd_i64_i64 d.1.1.1 d.2.2.1.1).1, ()), ()))).bind fun x18 =>
  let x19 : Bool := (x18.2.2.2.1.1 != (1 : Int))
  bif x19 then (
  some ((), (((1 : Int), ()), ())))
  else (
  bif decide ((0 : Int) ≤ d.2.2.1.1) && decide (d.2.2.1.1 < (d.1.1.1.length : Int)) then (
  let x20 : Bool := (decide ((gd_i64_i64 d.1.1.1 d.2.2.1.1).2 < (0 : Int)))
  bif x20 then (
  some ((), (((1 : Int), ()), ())))
  else (
  bif decide ((0 : Int) ≤ d.2.2.1.1) && decide (d.2.2.1.1 < (d.1.1.1.length : Int)) then (
  let x21 : Bool := (decide ((gd_i64_i64 d.1.1.1 d.2.2.1.1).2 > (1000 : Int)))
  bif x21 then (
  some ((), (((1 : Int), ()), ())))
  else (
  let x22 : Int := (iadd .i64 d.2.2.1.1 (1 : Int))
  (T.2.1 (((d.1.1.1, (d.1.1.2.1, (d.1.1.2.2.1, ()))), ()), ((), ((x22, ()), ()))))))
  else none))
  else none))
  else none)
  else (
  (T.2.2.1 (((d.1.1.1, (d.1.1.2.1, (d.1.1.2.2.1, ()))), ()), ((), (((1 : Int), ()), ())))))
def f_ref10_Check_p30 (T : TT_ref10_Check) (d : (((List (Int × Int)) × (Int × (Int × Unit))) × Unit) × (Unit × ((Int × Unit) × Unit))) : Option (Unit × ((Int × Unit) × Unit)) :=
  let x23 : Int := (d.1.1.1.length : Int)
  let x24 : Bool := (decide (d.2.2.1.1 < x23))
  bif x24 then (
  let x25 : Int := (isub .i64 d.2.2.1.1 (1 : Int))
  bif decide ((0 : Int) ≤ x25) && decide (x25 < (d.1.1.1.length : Int)) then (
  bif decide ((0 : Int) ≤ d.2.2.1.1) && decide (d.2.2.1.1 < (d.1.1.1.length : Int)) then (
  let x26 : Bool := (decide ((gd_i64_i64 d.1.1.1 d.2.2.1.1).1 ≤ (gd_i64_i64 d.1.1.1 x25).1))
  bif x26 then (
  some ((), (((6 : Int), ()), ())))
  else (
  let x27 : Int := (iadd .i64 (gd_i64_i64 d.1.1.1 x25).2 (1 : Int))
  let x28 : Bool := ((gd_i64_i64 d.1.1.1 d.2.2.1.1).2 != x27)
  bif x28 then (
  let x29 : Int := (isub .i64 (gd_i64_i64 d.1.1.1 x25).2 (1 : Int))
  let x30 : Bool := ((gd_i64_i64 d.1.1.1 d.2.2.1.1).2 != x29)
  bif x30 then (
  some ((), (((6 : Int), ()), ())))
  else (
  let x31 : Int := (iadd .i64 d.2.2.1.1 (1 : Int))
  (T.2.2.1 (((d.1.1.1, (d.1.1.2.1, (d.1.1.2.2.1, ()))), ()), ((), ((x31, ()), ()))))))
  else (
  let x32 : Int := (iadd .i64 d.2.2.1.1 (1 : Int))
  (T.2.2.1 (((d.1.1.1, (d.1.1.2.1, (d.1.1.2.2.1, ()))), ()), ((), ((x32, ()), ())))))))
  else none)
  else none)
  else (
  some ((), (((0 : Int), ()), ())))
def f_ref10_Check_t : Nat → TT_ref10_Check
  | 0 => (fun _ => none, (fun _ => none, (fun _ => none, ())))
  | k + 1 => (f_ref10_Check_p9 (f_ref10_Check_t k), (f_ref10_Check_p21 (f_ref10_Check_t k), (f_ref10_Check_p30 (f_ref10_Check_t k), ())))
theorem t_ref10_Check (k : Nat) : f_ref10_Check_t (k + 1) = (f_ref10_Check_p9 (f_ref10_Check_t k), (f_ref10_Check_p21 (f_ref10_Check_t k), (f_ref10_Check_p30 (f_ref10_Check_t k), ()))) := rfl
def f_ref10_Check_m (T : TT_ref10_Check) (d : Unit × (((List (Int × Int)) × (Int × (Int × Unit))) × Unit)) : Option (Unit × ((Int × Unit) × Unit)) :=
  let x1 : Int := (d.2.1.1.length : Int)
  let x2 : Bool := (x1 == (0 : Int))
  bif x2 then (
  some ((), (((8 : Int), ()), ())))
  else (
  let x3 : Int := (d.2.1.1.length : Int)
  let x4 : Bool := (decide (x3 > (256 : Int)))
  bif x4 then (
  some ((), (((3 : Int), ()), ())))
  else (
  (T.1 (((d.2.1.1, (d.2.1.2.1, (d.2.1.2.2.1, ()))), ()), ((), (((0 : Int), ()), ()))))))
def c_ref10_Check : List Nat := []
def L_ref10_Check (k : Nat) : Pts po_ref10_Check.den := [(9, ⟨sh_ref10_Check_9, (f_ref10_Check_t k).1⟩), (21, ⟨sh_ref10_Check_21, (f_ref10_Check_t k).2.1⟩), (30, ⟨sh_ref10_Check_30, (f_ref10_Check_t k).2.2.1⟩)]
def E_ref10_Check : Env := (((E0.add 33 (typedSem pi_ref05_Date po_ref05_Date g_ref05_Date)).add 36 (typedSem pi_ref05_Start po_ref05_Start g_ref05_Start)).add 37 (typedSem pi_ref05_Last po_ref05_Last g_ref05_Last))
theorem q_ref10_Check_9 (k : Nat) (d : (((List (Int × Int)) × (Int × (Int × Unit))) × Unit) × (Unit × ((Int × Unit) × Unit))) : evAt E_ref10_Check (tab (L_ref10_Check k)) c_ref10_Check 9 (bodyOf Tryz.f12) 0 (finK E_ref10_Check po_ref10_Check [.tmp 2]) (ptSt sh_ref10_Check_9 d) = f_ref10_Check_p9 (f_ref10_Check_t k) d := by kernel_rfl
theorem q_ref10_Check_21 (k : Nat) (d : (((List (Int × Int)) × (Int × (Int × Unit))) × Unit) × (Unit × ((Int × Unit) × Unit))) : evAt E_ref10_Check (tab (L_ref10_Check k)) c_ref10_Check 21 (bodyOf Tryz.f12) 0 (finK E_ref10_Check po_ref10_Check [.tmp 2]) (ptSt sh_ref10_Check_21 d) = f_ref10_Check_p21 (f_ref10_Check_t k) d := by kernel_rfl
theorem q_ref10_Check_30 (k : Nat) (d : (((List (Int × Int)) × (Int × (Int × Unit))) × Unit) × (Unit × ((Int × Unit) × Unit))) : evAt E_ref10_Check (tab (L_ref10_Check k)) c_ref10_Check 30 (bodyOf Tryz.f12) 0 (finK E_ref10_Check po_ref10_Check [.tmp 2]) (ptSt sh_ref10_Check_30 d) = f_ref10_Check_p30 (f_ref10_Check_t k) d := by kernel_rfl
theorem q_ref10_Check_m (k : Nat) (d : Unit × (((List (Int × Int)) × (Int × (Int × Unit))) × Unit)) : evCode E_ref10_Check (tab (L_ref10_Check k)) c_ref10_Check (bodyOf Tryz.f12) 0 (finK E_ref10_Check po_ref10_Check [.tmp 2]) (startSt pi_ref10_Check 136 d) = f_ref10_Check_m (f_ref10_Check_t k) d := by kernel_rfl
theorem go_ref10_Check (F : Unit × (((List (Int × Int)) × (Int × (Int × Unit))) × Unit) → Option (Unit × ((Int × Unit) × Unit))) (hF : ∀ d out, F d = some out → ∃ k, f_ref10_Check_m (f_ref10_Check_t k) d = some out) : FnOk Tryz.prog ET0 12 pi_ref10_Check po_ref10_Check F :=
  fn_of_body (E := E_ref10_Check) (envOk_add (envOk_add (envOk_add e0_ok (typed_ok ok_ref05_Date)) (typed_ok ok_ref05_Start)) (typed_ok ok_ref05_Last)) (fn := Tryz.f12) Tryz.func12 (by kernel_rfl) (by kernel_rfl) [.tmp 2] (by kernel_rfl) (by kernel_rfl) (by decide) rfl c_ref10_Check L_ref10_Check
    (by intro x hx d; simp only [L_ref10_Check, List.mem_cons, List.not_mem_nil, or_false] at hx; rcases hx with rfl | rfl | rfl; rfl; rfl; rfl)
    (by intro k x hx d out h; simp only [L_ref10_Check, List.mem_cons, List.not_mem_nil, or_false] at hx; rcases hx with rfl | rfl | rfl; exact (q_ref10_Check_9 k d).trans h; exact (q_ref10_Check_21 k d).trans h; exact (q_ref10_Check_30 k d).trans h)
    (by intro d out h; obtain ⟨k, hk⟩ := hF d out h; exact ⟨k, (q_ref10_Check_m k d).trans hk⟩)
def g_ref10_Check (d : Unit × (((List (Int × Int)) × (Int × (Int × Unit))) × Unit)) : Option (Unit × ((Int × Unit) × Unit)) := lim fun k => f_ref10_Check_m (f_ref10_Check_t k) d
theorem ok_ref10_Check : FnOk Tryz.prog ET0 12 pi_ref10_Check po_ref10_Check g_ref10_Check := go_ref10_Check g_ref10_Check fun d out h => lim_some h

/- (horologe/leap.Row).dated -/
@[reducible] def pi_leap_Row_dated : PSh := ⟨[], [.mk true [.v (.int .i64), .v (.int .i64)]]⟩
@[reducible] def po_leap_Row_dated : PSh := ⟨[], [.mk false [.v .bool]]⟩
def f_leap_Row_dated_m (T : Unit) (d : Unit × ((Int × (Int × Unit)) × Unit)) : Option (Unit × ((Bool × Unit) × Unit)) :=
  (g_day_Date ((), ((d.2.1.1, ()), ()))).bind fun x1 =>
  bif x1.2.2.2.2.1.1.isNone then (
  let x2 : Bool := (decide (x1.2.1.1 ≥ (1900 : Int)))
  some ((), ((x2, ()), ())))
  else (
  some ((), ((false, ()), ())))
def c_leap_Row_dated : List Nat := []
def L_leap_Row_dated (_ : Nat) : Pts po_leap_Row_dated.den := []
def E_leap_Row_dated : Env := (E0.add 60 (typedSem pi_day_Date po_day_Date g_day_Date))
theorem q_leap_Row_dated_m (k : Nat) (d : Unit × ((Int × (Int × Unit)) × Unit)) : evCode E_leap_Row_dated (tab (L_leap_Row_dated k)) c_leap_Row_dated (bodyOf Tryz.f81) 0 (finK E_leap_Row_dated po_leap_Row_dated [.tmp 2]) (startSt pi_leap_Row_dated 21 d) = f_leap_Row_dated_m () d := by kernel_rfl
def g_leap_Row_dated (d : Unit × ((Int × (Int × Unit)) × Unit)) : Option (Unit × ((Bool × Unit) × Unit)) := f_leap_Row_dated_m () d
theorem ok_leap_Row_dated : FnOk Tryz.prog ET0 81 pi_leap_Row_dated po_leap_Row_dated g_leap_Row_dated :=
  fn_of_body (E := E_leap_Row_dated) (envOk_add e0_ok (typed_ok ok_day_Date)) (fn := Tryz.f81) Tryz.func81 (by kernel_rfl) (by kernel_rfl) [.tmp 2] (by kernel_rfl) (by kernel_rfl) (by decide) rfl c_leap_Row_dated L_leap_Row_dated
    (by intro x hx; cases hx) (by intro k x hx; cases hx) (fun d out h => ⟨0, (q_leap_Row_dated_m 0 d).trans h⟩)

/- horologe/leap.New$1 -/
@[reducible] def pi_leap_New_1 : PSh := ⟨[], [.mk true [.v (.int .i64), .v (.int .i64)]]⟩
@[reducible] def po_leap_New_1 : PSh := ⟨[], [.mk false [.v .bool]]⟩
def f_leap_New_1_m (T : Unit) (d : Unit × ((Int × (Int × Unit)) × Unit)) : Option (Unit × ((Bool × Unit) × Unit)) :=
  (g_leap_Row_dated ((), ((d.2.1.1, (d.2.1.2.1, ())), ()))).bind fun x1 =>
  let x2 : Bool := (!x1.2.1.1)
  some ((), ((x2, ()), ()))
def c_leap_New_1 : List Nat := []
def L_leap_New_1 (_ : Nat) : Pts po_leap_New_1.den := []
def E_leap_New_1 : Env := (E0.add 81 (typedSem pi_leap_Row_dated po_leap_Row_dated g_leap_Row_dated))
theorem q_leap_New_1_m (k : Nat) (d : Unit × ((Int × (Int × Unit)) × Unit)) : evCode E_leap_New_1 (tab (L_leap_New_1 k)) c_leap_New_1 (bodyOf Tryz.f80) 0 (finK E_leap_New_1 po_leap_New_1 [.tmp 2]) (startSt pi_leap_New_1 6 d) = f_leap_New_1_m () d := by kernel_rfl
def g_leap_New_1 (d : Unit × ((Int × (Int × Unit)) × Unit)) : Option (Unit × ((Bool × Unit) × Unit)) := f_leap_New_1_m () d
theorem ok_leap_New_1 : FnOk Tryz.prog ET0 80 pi_leap_New_1 po_leap_New_1 g_leap_New_1 :=
  fn_of_body (E := E_leap_New_1) (envOk_add e0_ok (typed_ok ok_leap_Row_dated)) (fn := Tryz.f80) Tryz.func80 (by kernel_rfl) (by kernel_rfl) [.tmp 2] (by kernel_rfl) (by kernel_rfl) (by decide) rfl c_leap_New_1 L_leap_New_1
    (by intro x hx; cases hx) (by intro k x hx; cases hx) (fun d out h => ⟨0, (q_leap_New_1_m 0 d).trans h⟩)

/- (horologe/leap.Row).may -/
@[reducible] def pi_leap_Row_may : PSh := ⟨[], [.mk true [.v (.int .i64), .v (.int .i64)]]⟩
@[reducible] def po_leap_Row_may : PSh := ⟨[], [.mk false [.v .bool]]⟩
def f_leap_Row_may_m (T : Unit) (d : Unit × ((Int × (Int × Unit)) × Unit)) : Option (Unit × ((Bool × Unit) × Unit)) :=
  (g_day_Date ((), ((d.2.1.1, ()), ()))).bind fun x1 =>
  bif x1.2.2.2.2.1.1.isNone then (
  let x2 : Bool := (x1.2.2.2.1.1 == (1 : Int))
  bif x2 then (
  let x3 : Bool := (decide (d.2.1.2.1 ≥ (0 : Int)))
  bif x3 then (
  let x4 : Bool := (decide (d.2.1.2.1 ≤ (1000 : Int)))
  some ((), ((x4, ()), ())))
  else (
  some ((), ((false, ()), ()))))
  else (
  some ((), ((false, ()), ()))))
  else (
  some ((), ((false, ()), ())))
def c_leap_Row_may : List Nat := []
def L_leap_Row_may (_ : Nat) : Pts po_leap_Row_may.den := []
def E_leap_Row_may : Env := (E0.add 60 (typedSem pi_day_Date po_day_Date g_day_Date))
theorem q_leap_Row_may_m (k : Nat) (d : Unit × ((Int × (Int × Unit)) × Unit)) : evCode E_leap_Row_may (tab (L_leap_Row_may k)) c_leap_Row_may (bodyOf Tryz.f83) 0 (finK E_leap_Row_may po_leap_Row_may [.tmp 2]) (startSt pi_leap_Row_may 31 d) = f_leap_Row_may_m () d := by kernel_rfl
def g_leap_Row_may (d : Unit × ((Int × (Int × Unit)) × Unit)) : Option (Unit × ((Bool × Unit) × Unit)) := f_leap_Row_may_m () d
theorem ok_leap_Row_may : FnOk Tryz.prog ET0 83 pi_leap_Row_may po_leap_Row_may g_leap_Row_may :=
  fn_of_body (E := E_leap_Row_may) (envOk_add e0_ok (typed_ok ok_day_Date)) (fn := Tryz.f83) Tryz.func83 (by kernel_rfl) (by kernel_rfl) [.tmp 2] (by kernel_rfl) (by kernel_rfl) (by decide) rfl c_leap_Row_may L_leap_Row_may
    (by intro x hx; cases hx) (by intro k x hx; cases hx) (fun d out h => ⟨0, (q_leap_Row_may_m 0 d).trans h⟩)

/- horologe/leap.New$2 -/
@[reducible] def pi_leap_New_2 : PSh := ⟨[], [.mk true [.v (.int .i64), .v (.int .i64)]]⟩
@[reducible] def po_leap_New_2 : PSh := ⟨[], [.mk false [.v .bool]]⟩
def f_leap_New_2_m (T : Unit) (d : Unit × ((Int × (Int × Unit)) × Unit)) : Option (Unit × ((Bool × Unit) × Unit)) :=
  (g_leap_Row_may ((), ((d.2.1.1, (d.2.1.2.1, ())), ()))).bind fun x1 =>
  let x2 : Bool := (!x1.2.1.1)
  some ((), ((x2, ()), ()))
def c_leap_New_2 : List Nat := []
def L_leap_New_2 (_ : Nat) : Pts po_leap_New_2.den := []
def E_leap_New_2 : Env := (E0.add 83 (typedSem pi_leap_Row_may po_leap_Row_may g_leap_Row_may))
theorem q_leap_New_2_m (k : Nat) (d : Unit × ((Int × (Int × Unit)) × Unit)) : evCode E_leap_New_2 (tab (L_leap_New_2 k)) c_leap_New_2 (bodyOf Tryz.f82) 0 (finK E_leap_New_2 po_leap_New_2 [.tmp 2]) (startSt pi_leap_New_2 6 d) = f_leap_New_2_m () d := by kernel_rfl
def g_leap_New_2 (d : Unit × ((Int × (Int × Unit)) × Unit)) : Option (Unit × ((Bool × Unit) × Unit)) := f_leap_New_2_m () d
theorem ok_leap_New_2 : FnOk Tryz.prog ET0 82 pi_leap_New_2 po_leap_New_2 g_leap_New_2 :=
  fn_of_body (E := E_leap_New_2) (envOk_add e0_ok (typed_ok ok_leap_Row_may)) (fn := Tryz.f82) Tryz.func82 (by kernel_rfl) (by kernel_rfl) [.tmp 2] (by kernel_rfl) (by kernel_rfl) (by decide) rfl c_leap_New_2 L_leap_New_2
    (by intro x hx; cases hx) (by intro k x hx; cases hx) (fun d out h => ⟨0, (q_leap_New_2_m 0 d).trans h⟩)

/- horologe/leap.time -/
@[reducible] def pi_leap_time : PSh := ⟨[], [.mk false [.v (.int .i64)]]⟩
@[reducible] def po_leap_time : PSh := ⟨[], [.mk false [.v .bool]]⟩
def f_leap_time_m (T : Unit) (d : Unit × ((Int × Unit) × Unit)) : Option (Unit × ((Bool × Unit) × Unit)) :=
  let x1 : Bool := (decide (d.2.1.1 ≥ (0 : Int)))
  bif x1 then (
  let x2 : Bool := (decide (d.2.1.1 ≤ (1099511627776 : Int)))
  some ((), ((x2, ()), ())))
  else (
  some ((), ((false, ()), ())))
def c_leap_time : List Nat := []
def L_leap_time (_ : Nat) : Pts po_leap_time.den := []
def E_leap_time : Env := E0
theorem q_leap_time_m (k : Nat) (d : Unit × ((Int × Unit) × Unit)) : evCode E_leap_time (tab (L_leap_time k)) c_leap_time (bodyOf Tryz.f85) 0 (finK E_leap_time po_leap_time [.tmp 2]) (startSt pi_leap_time 9 d) = f_leap_time_m () d := by kernel_rfl
def g_leap_time (d : Unit × ((Int × Unit) × Unit)) : Option (Unit × ((Bool × Unit) × Unit)) := f_leap_time_m () d
theorem ok_leap_time : FnOk Tryz.prog ET0 85 pi_leap_time po_leap_time g_leap_time :=
  fn_of_body (E := E_leap_time) e0_ok (fn := Tryz.f85) Tryz.func85 (by kernel_rfl) (by kernel_rfl) [.tmp 2] (by kernel_rfl) (by kernel_rfl) (by decide) rfl c_leap_time L_leap_time
    (by intro x hx; cases hx) (by intro k x hx; cases hx) (fun d out h => ⟨0, (q_leap_time_m 0 d).trans h⟩)

/- (horologe/leap.Row).follows -/
@[reducible] def pi_leap_Row_follows : PSh := ⟨[], [.mk true [.v (.int .i64), .v (.int .i64)], .mk true [.v (.int .i64), .v (.int .i64)]]⟩
@[reducible] def po_leap_Row_follows : PSh := ⟨[], [.mk false [.v .bool]]⟩
def f_leap_Row_follows_m (T : Unit) (d : Unit × ((Int × (Int × Unit)) × ((Int × (Int × Unit)) × Unit))) : Option (Unit × ((Bool × Unit) × Unit)) :=
  let x1 : Int := (isub .i64 d.2.1.2.1 d.2.2.1.2.1)
  let x2 : Bool := (decide (d.2.1.1 > d.2.2.1.1))
  bif x2 then (
  let x3 : Bool := (x1 == (1 : Int))
  bif x3 then (
  some ((), ((true, ()), ())))
  else (
  let x4 : Bool := (x1 == (-1 : Int))
  some ((), ((x4, ()), ()))))
  else (
  some ((), ((false, ()), ())))
def c_leap_Row_follows : List Nat := []
def L_leap_Row_follows (_ : Nat) : Pts po_leap_Row_follows.den := []
def E_leap_Row_follows : Env := E0
theorem q_leap_Row_follows_m (k : Nat) (d : Unit × ((Int × (Int × Unit)) × ((Int × (Int × Unit)) × Unit))) : evCode E_leap_Row_follows (tab (L_leap_Row_follows k)) c_leap_Row_follows (bodyOf Tryz.f130) 0 (finK E_leap_Row_follows po_leap_Row_follows [.tmp 4]) (startSt pi_leap_Row_follows 24 d) = f_leap_Row_follows_m () d := by kernel_rfl
def g_leap_Row_follows (d : Unit × ((Int × (Int × Unit)) × ((Int × (Int × Unit)) × Unit))) : Option (Unit × ((Bool × Unit) × Unit)) := f_leap_Row_follows_m () d
theorem ok_leap_Row_follows : FnOk Tryz.prog ET0 130 pi_leap_Row_follows po_leap_Row_follows g_leap_Row_follows :=
  fn_of_body (E := E_leap_Row_follows) e0_ok (fn := Tryz.f130) Tryz.func130 (by kernel_rfl) (by kernel_rfl) [.tmp 4] (by kernel_rfl) (by kernel_rfl) (by decide) rfl c_leap_Row_follows L_leap_Row_follows
    (by intro x hx; cases hx) (by intro k x hx; cases hx) (fun d out h => ⟨0, (q_leap_Row_follows_m 0 d).trans h⟩)

/- horologe/leap.rise -/
@[reducible] def pi_leap_rise : PSh := ⟨[], [.mk false [.v (.sl (.pair (.int .i64) (.int .i64)))]]⟩
@[reducible] def po_leap_rise : PSh := ⟨[], [.mk false [.v .bool]]⟩
@[reducible] def TT_leap_rise : Type := (((Unit × (((List (Int × Int)) × Unit) × ((Int × Unit) × Unit))) → Option (Unit × ((Bool × Unit) × Unit))) × Unit)
@[reducible] def sh_leap_rise_3 : PSh := ⟨[], [.mk false [.v (.sl (.pair (.int .i64) (.int .i64)))], .any, .any, .mk false [.v (.int .i64)], .any, .any, .any, .any, .any, .any, .any, .any, .any, .any, .any, .any, .any, .any, .any, .any, .any]⟩
def f_leap_rise_p3 (T : TT_leap_rise) (d : Unit × (((List (Int × Int)) × Unit) × ((Int × Unit) × Unit))) : Option (Unit × ((Bool × Unit) × Unit)) :=
  let x1 : Int := (d.2.1.1.length : Int)
  let x2 : Bool := (decide (d.2.2.1.1 < x1))
  bif x2 then (
  bif decide ((0 : Int) ≤ d.2.2.1.1) && decide (d.2.2.1.1 < (d.2.1.1.length : Int)) then (
  let x3 : Int := (isub .i64 d.2.2.1.1 (1 : Int))
  bif decide ((0 : Int) ≤ x3) && decide (x3 < (d.2.1.1.length : Int)) then (
  (g_leap_Row_follows ((), (((gd_i64_i64 d.2.1.1 d.2.2.1.1).1, ((gd_i64_i64 d.2.1.1 d.2.2.1.1).2, ())), (((gd_i64_i64 d.2.1.1 x3).1, ((gd_i64_i64 d.2.1.1 x3).2, ())), ())))).bind fun x4 =>
  let x5 : Bool := (!x4.2.1.1)
  bif x5 then (
  some ((), ((false, ()), ())))
  else (
  let x6 : Int := (iadd .i64 d.2.2.1.1 (1 : Int))
  (T.1 ((), ((d.2.1.1, ()), ((x6, ()), ()))))))
  else none)
  else none)
  else (
  some ((), ((true, ()), ())))
def f_leap_rise_t : Nat → TT_leap_rise
  | 0 => (fun _ => none, ())
  | k + 1 => (f_leap_rise_p3 (f_leap_rise_t k), ())
theorem t_leap_rise (k : Nat) : f_leap_rise_t (k + 1) = (f_leap_rise_p3 (f_leap_rise_t k), ()) := rfl
def f_leap_rise_m (T : TT_leap_rise) (d : Unit × (((List (Int × Int)) × Unit) × Unit)) : Option (Unit × ((Bool × Unit) × Unit)) :=
  (T.1 ((), ((d.2.1.1, ()), (((1 : Int), ()), ()))))
def c_leap_rise : List Nat := []
def L_leap_rise (k : Nat) : Pts po_leap_rise.den := [(3, ⟨sh_leap_rise_3, (f_leap_rise_t k).1⟩)]
def E_leap_rise : Env := (E0.add 130 (typedSem pi_leap_Row_follows po_leap_Row_follows g_leap_Row_follows))
theorem q_leap_rise_3 (k : Nat) (d : Unit × (((List (Int × Int)) × Unit) × ((Int × Unit) × Unit))) : evAt E_leap_rise (tab (L_leap_rise k)) c_leap_rise 3 (bodyOf Tryz.f86) 0 (finK E_leap_rise po_leap_rise [.tmp 2]) (ptSt sh_leap_rise_3 d) = f_leap_rise_p3 (f_leap_rise_t k) d := by kernel_rfl
theorem q_leap_rise_m (k : Nat) (d : Unit × (((List (Int × Int)) × Unit) × Unit)) : evCode E_leap_rise (tab (L_leap_rise k)) c_leap_rise (bodyOf Tryz.f86) 0 (finK E_leap_rise po_leap_rise [.tmp 2]) (startSt pi_leap_rise 21 d) = f_leap_rise_m (f_leap_rise_t k) d := by kernel_rfl
theorem go_leap_rise (F : Unit × (((List (Int × Int)) × Unit) × Unit) → Option (Unit × ((Bool × Unit) × Unit))) (hF : ∀ d out, F d = some out → ∃ k, f_leap_rise_m (f_leap_rise_t k) d = some out) : FnOk Tryz.prog ET0 86 pi_leap_rise po_leap_rise F :=
  fn_of_body (E := E_leap_rise) (envOk_add e0_ok (typed_ok ok_leap_Row_follows)) (fn := Tryz.f86) Tryz.func86 (by kernel_rfl) (by kernel_rfl) [.tmp 2] (by kernel_rfl) (by kernel_rfl) (by decide) rfl c_leap_rise L_leap_rise
    (by intro x hx d; simp only [L_leap_rise, List.mem_cons, List.not_mem_nil, or_false] at hx; subst hx; rfl)
    (by intro k x hx d out h; simp only [L_leap_rise, List.mem_cons, List.not_mem_nil, or_false] at hx; subst hx; exact (q_leap_rise_3 k d).trans h)
    (by intro d out h; obtain ⟨k, hk⟩ := hF d out h; exact ⟨k, (q_leap_rise_m k d).trans hk⟩)
def g_leap_rise (d : Unit × (((List (Int × Int)) × Unit) × Unit)) : Option (Unit × ((Bool × Unit) × Unit)) := lim fun k => f_leap_rise_m (f_leap_rise_t k) d
theorem ok_leap_rise : FnOk Tryz.prog ET0 86 pi_leap_rise po_leap_rise g_leap_rise := go_leap_rise g_leap_rise fun d out h => lim_some h

/- slices.Clone[[]horologe/leap.Row,horologe/leap.Row] -/
@[reducible] def pi_slices_Clone_leap_Row_leap_Row : PSh := ⟨[], [.mk false [.v (.sl (.pair (.int .i64) (.int .i64)))]]⟩
@[reducible] def po_slices_Clone_leap_Row_leap_Row : PSh := ⟨[.row 138 (.pair (.int .i64) (.int .i64))], [.mk false [.osl 0]]⟩
def f_slices_Clone_leap_Row_leap_Row_m (T : Unit) (d : Unit × (((List (Int × Int)) × Unit) × Unit)) : Option (((List (Int × Int)) × Unit) × (Unit × Unit)) :=
  bif d.2.1.1.isEmpty then (
  agree (
  some ((([] : List (Int × Int)), ()), ((), ()))) (
  let x1 : (List (Int × Int)) := ([] : List (Int × Int))
  bif decide (((x1.length + d.2.1.1.length) * 16 : Nat) ≤ 140737488355328) && decide (x1.length + d.2.1.1.length ≤ 9223372036854775807) then (
  let x2 : (List (Int × Int)) := (x1 ++ d.2.1.1)
  some ((x2, ()), ((), ())))
  else none))
  else (
  let x3 : (List (Int × Int)) := ([] : List (Int × Int))
  bif decide (((x3.length + d.2.1.1.length) * 16 : Nat) ≤ 140737488355328) && decide (x3.length + d.2.1.1.length ≤ 9223372036854775807) then (
  let x4 : (List (Int × Int)) := (x3 ++ d.2.1.1)
  some ((x4, ()), ((), ())))
  else none)
def c_slices_Clone_leap_Row_leap_Row : List Nat := []
def L_slices_Clone_leap_Row_leap_Row (_ : Nat) : Pts po_slices_Clone_leap_Row_leap_Row.den := []
def E_slices_Clone_leap_Row_leap_Row : Env := E0
theorem q_slices_Clone_leap_Row_leap_Row_m (k : Nat) (d : Unit × (((List (Int × Int)) × Unit) × Unit)) : evCode E_slices_Clone_leap_Row_leap_Row (tab (L_slices_Clone_leap_Row_leap_Row k)) c_slices_Clone_leap_Row_leap_Row (bodyOf Tryz.f87) 0 (finK E_slices_Clone_leap_Row_leap_Row po_slices_Clone_leap_Row_leap_Row [.tmp 2]) (startSt pi_slices_Clone_leap_Row_leap_Row 8 d) = f_slices_Clone_leap_Row_leap_Row_m () d := by kernel_rfl
def g_slices_Clone_leap_Row_leap_Row (d : Unit × (((List (Int × Int)) × Unit) × Unit)) : Option (((List (Int × Int)) × Unit) × (Unit × Unit)) := f_slices_Clone_leap_Row_leap_Row_m () d
theorem ok_slices_Clone_leap_Row_leap_Row : FnOk Tryz.prog ET0 87 pi_slices_Clone_leap_Row_leap_Row po_slices_Clone_leap_Row_leap_Row g_slices_Clone_leap_Row_leap_Row :=
  fn_of_body (E := E_slices_Clone_leap_Row_leap_Row) e0_ok (fn := Tryz.f87) Tryz.func87 (by kernel_rfl) (by kernel_rfl) [.tmp 2] (by kernel_rfl) (by kernel_rfl) (by decide) rfl c_slices_Clone_leap_Row_leap_Row L_slices_Clone_leap_Row_leap_Row
    (by intro x hx; cases hx) (by intro k x hx; cases hx) (fun d out h => ⟨0, (q_slices_Clone_leap_Row_leap_Row_m 0 d).trans h⟩)

/- slices.IndexFunc[[]horologe/leap.Row,horologe/leap.Row] -/
@[reducible] def pi_slices_IndexFunc_leap_Row_leap_Row_leap_New_1 : PSh := ⟨[], [.mk false [.v (.sl (.pair (.int .i64) (.int .i64)))], .mk false [.fn 80 []]]⟩
@[reducible] def po_slices_IndexFunc_leap_Row_leap_Row_leap_New_1 : PSh := ⟨[], [.mk false [.v (.int .i64)]]⟩
@[reducible] def TT_slices_IndexFunc_leap_Row_leap_Row_leap_New_1 : Type := (((Unit × (((List (Int × Int)) × Unit) × (Unit × ((Int × Unit) × ((Int × Unit) × Unit))))) → Option (Unit × ((Int × Unit) × Unit))) × Unit)
@[reducible] def sh_slices_IndexFunc_leap_Row_leap_Row_leap_New_1_3 : PSh := ⟨[], [.mk false [.v (.sl (.pair (.int .i64) (.int .i64)))], .mk false [.fn 80 []], .any, .any, .any, .any, .any, .mk false [.v (.int .i64)], .mk false [.v (.int .i64)], .any, .any, .any, .any, .any, .any, .any, .any, .any, .any]⟩
def f_slices_IndexFunc_leap_Row_leap_Row_leap_New_1_p3 (T : TT_slices_IndexFunc_leap_Row_leap_Row_leap_New_1) (d : Unit × (((List (Int × Int)) × Unit) × (Unit × ((Int × Unit) × ((Int × Unit) × Unit))))) : Option (Unit × ((Int × Unit) × Unit)) :=
  let x2 : Bool := (decide (d.2.2.2.2.1.1 < d.2.2.2.1.1))
  bif x2 then (
  bif decide ((0 : Int) ≤ d.2.2.2.2.1.1) && decide (d.2.2.2.2.1.1 < (d.2.1.1.length : Int)) then (
  (g_leap_New_1 ((), (((gd_i64_i64 d.2.1.1 d.2.2.2.2.1.1).1, ((gd_i64_i64 d.2.1.1 d.2.2.2.2.1.1).2, ())), ()))).bind fun x3 =>
  bif x3.2.1.1 then (
  some ((), ((d.2.2.2.2.1.1, ()), ())))
  else (
  let x4 : Int := (iadd .i64 d.2.2.2.2.1.1 (1 : Int))
  (T.1 ((), ((d.2.1.1, ()), ((), ((d.2.2.2.1.1, ()), ((x4, ()), ()))))))))
  else none)
  else (
  some ((), (((-1 : Int), ()), ())))
def f_slices_IndexFunc_leap_Row_leap_Row_leap_New_1_t : Nat → TT_slices_IndexFunc_leap_Row_leap_Row_leap_New_1
  | 0 => (fun _ => none, ())
  | k + 1 => (f_slices_IndexFunc_leap_Row_leap_Row_leap_New_1_p3 (f_slices_IndexFunc_leap_Row_leap_Row_leap_New_1_t k), ())
theorem t_slices_IndexFunc_leap_Row_leap_Row_leap_New_1 (k : Nat) : f_slices_IndexFunc_leap_Row_leap_Row_leap_New_1_t (k + 1) = (f_slices_IndexFunc_leap_Row_leap_Row_leap_New_1_p3 (f_slices_IndexFunc_leap_Row_leap_Row_leap_New_1_t k), ()) := rfl
def f_slices_IndexFunc_leap_Row_leap_Row_leap_New_1_m (T : TT_slices_IndexFunc_leap_Row_leap_Row_leap_New_1) (d : Unit × (((List (Int × Int)) × Unit) × (Unit × Unit))) : Option (Unit × ((Int × Unit) × Unit)) :=
  let x1 : Int := (d.2.1.1.length : Int)
  (T.1 ((), ((d.2.1.1, ()), ((), ((x1, ()), (((0 : Int), ()), ()))))))
def c_slices_IndexFunc_leap_Row_leap_Row_leap_New_1 : List Nat := []
def L_slices_IndexFunc_leap_Row_leap_Row_leap_New_1 (k : Nat) : Pts po_slices_IndexFunc_leap_Row_leap_Row_leap_New_1.den := [(3, ⟨sh_slices_IndexFunc_leap_Row_leap_Row_leap_New_1_3, (f_slices_IndexFunc_leap_Row_leap_Row_leap_New_1_t k).1⟩)]
def E_slices_IndexFunc_leap_Row_leap_Row_leap_New_1 : Env := (E0.add 80 (typedSem pi_leap_New_1 po_leap_New_1 g_leap_New_1))
theorem q_slices_IndexFunc_leap_Row_leap_Row_leap_New_1_3 (k : Nat) (d : Unit × (((List (Int × Int)) × Unit) × (Unit × ((Int × Unit) × ((Int × Unit) × Unit))))) : evAt E_slices_IndexFunc_leap_Row_leap_Row_leap_New_1 (tab (L_slices_IndexFunc_leap_Row_leap_Row_leap_New_1 k)) c_slices_IndexFunc_leap_Row_leap_Row_leap_New_1 3 (bodyOf Tryz.f129) 0 (finK E_slices_IndexFunc_leap_Row_leap_Row_leap_New_1 po_slices_IndexFunc_leap_Row_leap_Row_leap_New_1 [.tmp 4]) (ptSt sh_slices_IndexFunc_leap_Row_leap_Row_leap_New_1_3 d) = f_slices_IndexFunc_leap_Row_leap_Row_leap_New_1_p3 (f_slices_IndexFunc_leap_Row_leap_Row_leap_New_1_t k) d := by kernel_rfl
theorem q_slices_IndexFunc_leap_Row_leap_Row_leap_New_1_m (k : Nat) (d : Unit × (((List (Int × Int)) × Unit) × (Unit × Unit))) : evCode E_slices_IndexFunc_leap_Row_leap_Row_leap_New_1 (tab (L_slices_IndexFunc_leap_Row_leap_Row_leap_New_1 k)) c_slices_IndexFunc_leap_Row_leap_Row_leap_New_1 (bodyOf Tryz.f129) 0 (finK E_slices_IndexFunc_leap_Row_leap_Row_leap_New_1 po_slices_IndexFunc_leap_Row_leap_Row_leap_New_1 [.tmp 4]) (startSt pi_slices_IndexFunc_leap_Row_leap_Row_leap_New_1 19 d) = f_slices_IndexFunc_leap_Row_leap_Row_leap_New_1_m (f_slices_IndexFunc_leap_Row_leap_Row_leap_New_1_t k) d := by kernel_rfl
theorem go_slices_IndexFunc_leap_Row_leap_Row_leap_New_1 (F : Unit × (((List (Int × Int)) × Unit) × (Unit × Unit)) → Option (Unit × ((Int × Unit) × Unit))) (hF : ∀ d out, F d = some out → ∃ k, f_slices_IndexFunc_leap_Row_leap_Row_leap_New_1_m (f_slices_IndexFunc_leap_Row_leap_Row_leap_New_1_t k) d = some out) : FnOk Tryz.prog ET0 129 pi_slices_IndexFunc_leap_Row_leap_Row_leap_New_1 po_slices_IndexFunc_leap_Row_leap_Row_leap_New_1 F :=
  fn_of_body (E := E_slices_IndexFunc_leap_Row_leap_Row_leap_New_1) (envOk_add e0_ok (typed_ok ok_leap_New_1)) (fn := Tryz.f129) Tryz.func129 (by kernel_rfl) (by kernel_rfl) [.tmp 4] (by kernel_rfl) (by kernel_rfl) (by decide) rfl c_slices_IndexFunc_leap_Row_leap_Row_leap_New_1 L_slices_IndexFunc_leap_Row_leap_Row_leap_New_1
    (by intro x hx d; simp only [L_slices_IndexFunc_leap_Row_leap_Row_leap_New_1, List.mem_cons, List.not_mem_nil, or_false] at hx; subst hx; rfl)
    (by intro k x hx d out h; simp only [L_slices_IndexFunc_leap_Row_leap_Row_leap_New_1, List.mem_cons, List.not_mem_nil, or_false] at hx; subst hx; exact (q_slices_IndexFunc_leap_Row_leap_Row_leap_New_1_3 k d).trans h)
    (by intro d out h; obtain ⟨k, hk⟩ := hF d out h; exact ⟨k, (q_slices_IndexFunc_leap_Row_leap_Row_leap_New_1_m k d).trans hk⟩)
def g_slices_IndexFunc_leap_Row_leap_Row_leap_New_1 (d : Unit × (((List (Int × Int)) × Unit) × (Unit × Unit))) : Option (Unit × ((Int × Unit) × Unit)) := lim fun k => f_slices_IndexFunc_leap_Row_leap_Row_leap_New_1_m (f_slices_IndexFunc_leap_Row_leap_Row_leap_New_1_t k) d
theorem ok_slices_IndexFunc_leap_Row_leap_Row_leap_New_1 : FnOk Tryz.prog ET0 129 pi_slices_IndexFunc_leap_Row_leap_Row_leap_New_1 po_slices_IndexFunc_leap_Row_leap_Row_leap_New_1 g_slices_IndexFunc_leap_Row_leap_Row_leap_New_1 := go_slices_IndexFunc_leap_Row_leap_Row_leap_New_1 g_slices_IndexFunc_leap_Row_leap_Row_leap_New_1 fun d out h => lim_some h

/- slices.ContainsFunc[[]horologe/leap.Row,horologe/leap.Row] -/
@[reducible] def pi_slices_ContainsFunc_leap_Row_leap_Row_leap_New_1 : PSh := ⟨[], [.mk false [.v (.sl (.pair (.int .i64) (.int .i64)))], .mk false [.fn 80 []]]⟩
@[reducible] def po_slices_ContainsFunc_leap_Row_leap_Row_leap_New_1 : PSh := ⟨[], [.mk false [.v .bool]]⟩
def f_slices_ContainsFunc_leap_Row_leap_Row_leap_New_1_m (T : Unit) (d : Unit × (((List (Int × Int)) × Unit) × (Unit × Unit))) : Option (Unit × ((Bool × Unit) × Unit)) :=
  (g_slices_IndexFunc_leap_Row_leap_Row_leap_New_1 ((), ((d.2.1.1, ()), ((), ())))).bind fun x1 =>
  let x2 : Bool := (decide (x1.2.1.1 ≥ (0 : Int)))
  some ((), ((x2, ()), ()))
def c_slices_ContainsFunc_leap_Row_leap_Row_leap_New_1 : List Nat := []
def L_slices_ContainsFunc_leap_Row_leap_Row_leap_New_1 (_ : Nat) : Pts po_slices_ContainsFunc_leap_Row_leap_Row_leap_New_1.den := []
def E_slices_ContainsFunc_leap_Row_leap_Row_leap_New_1 : Env := (E0.add 129 (typedSem pi_slices_IndexFunc_leap_Row_leap_Row_leap_New_1 po_slices_IndexFunc_leap_Row_leap_Row_leap_New_1 g_slices_IndexFunc_leap_Row_leap_Row_leap_New_1))
theorem q_slices_ContainsFunc_leap_Row_leap_Row_leap_New_1_m (k : Nat) (d : Unit × (((List (Int × Int)) × Unit) × (Unit × Unit))) : evCode E_slices_ContainsFunc_leap_Row_leap_Row_leap_New_1 (tab (L_slices_ContainsFunc_leap_Row_leap_Row_leap_New_1 k)) c_slices_ContainsFunc_leap_Row_leap_Row_leap_New_1 (bodyOf Tryz.f84) 0 (finK E_slices_ContainsFunc_leap_Row_leap_Row_leap_New_1 po_slices_ContainsFunc_leap_Row_leap_Row_leap_New_1 [.tmp 4]) (startSt pi_slices_ContainsFunc_leap_Row_leap_Row_leap_New_1 9 d) = f_slices_ContainsFunc_leap_Row_leap_Row_leap_New_1_m () d := by kernel_rfl
def g_slices_ContainsFunc_leap_Row_leap_Row_leap_New_1 (d : Unit × (((List (Int × Int)) × Unit) × (Unit × Unit))) : Option (Unit × ((Bool × Unit) × Unit)) := f_slices_ContainsFunc_leap_Row_leap_Row_leap_New_1_m () d
theorem ok_slices_ContainsFunc_leap_Row_leap_Row_leap_New_1 : FnOk Tryz.prog ET0 84 pi_slices_ContainsFunc_leap_Row_leap_Row_leap_New_1 po_slices_ContainsFunc_leap_Row_leap_Row_leap_New_1 g_slices_ContainsFunc_leap_Row_leap_Row_leap_New_1 :=
  fn_of_body (E := E_slices_ContainsFunc_leap_Row_leap_Row_leap_New_1) (envOk_add e0_ok (typed_ok ok_slices_IndexFunc_leap_Row_leap_Row_leap_New_1)) (fn := Tryz.f84) Tryz.func84 (by kernel_rfl) (by kernel_rfl) [.tmp 4] (by kernel_rfl) (by kernel_rfl) (by decide) rfl c_slices_ContainsFunc_leap_Row_leap_Row_leap_New_1 L_slices_ContainsFunc_leap_Row_leap_Row_leap_New_1
    (by intro x hx; cases hx) (by intro k x hx; cases hx) (fun d out h => ⟨0, (q_slices_ContainsFunc_leap_Row_leap_Row_leap_New_1_m 0 d).trans h⟩)

/- slices.IndexFunc[[]horologe/leap.Row,horologe/leap.Row] -/
@[reducible] def pi_slices_IndexFunc_leap_Row_leap_Row_leap_New_2 : PSh := ⟨[], [.mk false [.v (.sl (.pair (.int .i64) (.int .i64)))], .mk false [.fn 82 []]]⟩
@[reducible] def po_slices_IndexFunc_leap_Row_leap_Row_leap_New_2 : PSh := ⟨[], [.mk false [.v (.int .i64)]]⟩
@[reducible] def TT_slices_IndexFunc_leap_Row_leap_Row_leap_New_2 : Type := (((Unit × (((List (Int × Int)) × Unit) × (Unit × ((Int × Unit) × ((Int × Unit) × Unit))))) → Option (Unit × ((Int × Unit) × Unit))) × Unit)
@[reducible] def sh_slices_IndexFunc_leap_Row_leap_Row_leap_New_2_3 : PSh := ⟨[], [.mk false [.v (.sl (.pair (.int .i64) (.int .i64)))], .mk false [.fn 82 []], .any, .any, .any, .any, .any, .mk false [.v (.int .i64)], .mk false [.v (.int .i64)], .any, .any, .any, .any, .any, .any, .any, .any, .any, .any]⟩
def f_slices_IndexFunc_leap_Row_leap_Row_leap_New_2_p3 (T : TT_slices_IndexFunc_leap_Row_leap_Row_leap_New_2) (d : Unit × (((List (Int × Int)) × Unit) × (Unit × ((Int × Unit) × ((Int × Unit) × Unit))))) : Option (Unit × ((Int × Unit) × Unit)) :=
  let x2 : Bool := (decide (d.2.2.2.2.1.1 < d.2.2.2.1.1))
  bif x2 then (
  bif decide ((0 : Int) ≤ d.2.2.2.2.1.1) && decide (d.2.2.2.2.1.1 < (d.2.1.1.length : Int)) then (
  (g_leap_New_2 ((), (((gd_i64_i64 d.2.1.1 d.2.2.2.2.1.1).1, ((gd_i64_i64 d.2.1.1 d.2.2.2.2.1.1).2, ())), ()))).bind fun x3 =>
  bif x3.2.1.1 then (
  some ((), ((d.2.2.2.2.1.1, ()), ())))
  else (
  let x4 : Int := (iadd .i64 d.2.2.2.2.1.1 (1 : Int))
  (T.1 ((), ((d.2.1.1, ()), ((), ((d.2.2.2.1.1, ()), ((x4, ()), ()))))))))
  else none)
  else (
  some ((), (((-1 : Int), ()), ())))
def f_slices_IndexFunc_leap_Row_leap_Row_leap_New_2_t : Nat → TT_slices_IndexFunc_leap_Row_leap_Row_leap_New_2
  | 0 => (fun _ => none, ())
  | k + 1 => (f_slices_IndexFunc_leap_Row_leap_Row_leap_New_2_p3 (f_slices_IndexFunc_leap_Row_leap_Row_leap_New_2_t k), ())
theorem t_slices_IndexFunc_leap_Row_leap_Row_leap_New_2 (k : Nat) : f_slices_IndexFunc_leap_Row_leap_Row_leap_New_2_t (k + 1) = (f_slices_IndexFunc_leap_Row_leap_Row_leap_New_2_p3 (f_slices_IndexFunc_leap_Row_leap_Row_leap_New_2_t k), ()) := rfl
def f_slices_IndexFunc_leap_Row_leap_Row_leap_New_2_m (T : TT_slices_IndexFunc_leap_Row_leap_Row_leap_New_2) (d : Unit × (((List (Int × Int)) × Unit) × (Unit × Unit))) : Option (Unit × ((Int × Unit) × Unit)) :=
  let x1 : Int := (d.2.1.1.length : Int)
  (T.1 ((), ((d.2.1.1, ()), ((), ((x1, ()), (((0 : Int), ()), ()))))))
def c_slices_IndexFunc_leap_Row_leap_Row_leap_New_2 : List Nat := []
def L_slices_IndexFunc_leap_Row_leap_Row_leap_New_2 (k : Nat) : Pts po_slices_IndexFunc_leap_Row_leap_Row_leap_New_2.den := [(3, ⟨sh_slices_IndexFunc_leap_Row_leap_Row_leap_New_2_3, (f_slices_IndexFunc_leap_Row_leap_Row_leap_New_2_t k).1⟩)]
def E_slices_IndexFunc_leap_Row_leap_Row_leap_New_2 : Env := (E0.add 82 (typedSem pi_leap_New_2 po_leap_New_2 g_leap_New_2))
theorem q_slices_IndexFunc_leap_Row_leap_Row_leap_New_2_3 (k : Nat) (d : Unit × (((List (Int × Int)) × Unit) × (Unit × ((Int × Unit) × ((Int × Unit) × Unit))))) : evAt E_slices_IndexFunc_leap_Row_leap_Row_leap_New_2 (tab (L_slices_IndexFunc_leap_Row_leap_Row_leap_New_2 k)) c_slices_IndexFunc_leap_Row_leap_Row_leap_New_2 3 (bodyOf Tryz.f129) 0 (finK E_slices_IndexFunc_leap_Row_leap_Row_leap_New_2 po_slices_IndexFunc_leap_Row_leap_Row_leap_New_2 [.tmp 4]) (ptSt sh_slices_IndexFunc_leap_Row_leap_Row_leap_New_2_3 d) = f_slices_IndexFunc_leap_Row_leap_Row_leap_New_2_p3 (f_slices_IndexFunc_leap_Row_leap_Row_leap_New_2_t k) d := by kernel_rfl
theorem q_slices_IndexFunc_leap_Row_leap_Row_leap_New_2_m (k : Nat) (d : Unit × (((List (Int × Int)) × Unit) × (Unit × Unit))) : evCode E_slices_IndexFunc_leap_Row_leap_Row_leap_New_2 (tab (L_slices_IndexFunc_leap_Row_leap_Row_leap_New_2 k)) c_slices_IndexFunc_leap_Row_leap_Row_leap_New_2 (bodyOf Tryz.f129) 0 (finK E_slices_IndexFunc_leap_Row_leap_Row_leap_New_2 po_slices_IndexFunc_leap_Row_leap_Row_leap_New_2 [.tmp 4]) (startSt pi_slices_IndexFunc_leap_Row_leap_Row_leap_New_2 19 d) = f_slices_IndexFunc_leap_Row_leap_Row_leap_New_2_m (f_slices_IndexFunc_leap_Row_leap_Row_leap_New_2_t k) d := by kernel_rfl
theorem go_slices_IndexFunc_leap_Row_leap_Row_leap_New_2 (F : Unit × (((List (Int × Int)) × Unit) × (Unit × Unit)) → Option (Unit × ((Int × Unit) × Unit))) (hF : ∀ d out, F d = some out → ∃ k, f_slices_IndexFunc_leap_Row_leap_Row_leap_New_2_m (f_slices_IndexFunc_leap_Row_leap_Row_leap_New_2_t k) d = some out) : FnOk Tryz.prog ET0 129 pi_slices_IndexFunc_leap_Row_leap_Row_leap_New_2 po_slices_IndexFunc_leap_Row_leap_Row_leap_New_2 F :=
  fn_of_body (E := E_slices_IndexFunc_leap_Row_leap_Row_leap_New_2) (envOk_add e0_ok (typed_ok ok_leap_New_2)) (fn := Tryz.f129) Tryz.func129 (by kernel_rfl) (by kernel_rfl) [.tmp 4] (by kernel_rfl) (by kernel_rfl) (by decide) rfl c_slices_IndexFunc_leap_Row_leap_Row_leap_New_2 L_slices_IndexFunc_leap_Row_leap_Row_leap_New_2
    (by intro x hx d; simp only [L_slices_IndexFunc_leap_Row_leap_Row_leap_New_2, List.mem_cons, List.not_mem_nil, or_false] at hx; subst hx; rfl)
    (by intro k x hx d out h; simp only [L_slices_IndexFunc_leap_Row_leap_Row_leap_New_2, List.mem_cons, List.not_mem_nil, or_false] at hx; subst hx; exact (q_slices_IndexFunc_leap_Row_leap_Row_leap_New_2_3 k d).trans h)
    (by intro d out h; obtain ⟨k, hk⟩ := hF d out h; exact ⟨k, (q_slices_IndexFunc_leap_Row_leap_Row_leap_New_2_m k d).trans hk⟩)
def g_slices_IndexFunc_leap_Row_leap_Row_leap_New_2 (d : Unit × (((List (Int × Int)) × Unit) × (Unit × Unit))) : Option (Unit × ((Int × Unit) × Unit)) := lim fun k => f_slices_IndexFunc_leap_Row_leap_Row_leap_New_2_m (f_slices_IndexFunc_leap_Row_leap_Row_leap_New_2_t k) d
theorem ok_slices_IndexFunc_leap_Row_leap_Row_leap_New_2 : FnOk Tryz.prog ET0 129 pi_slices_IndexFunc_leap_Row_leap_Row_leap_New_2 po_slices_IndexFunc_leap_Row_leap_Row_leap_New_2 g_slices_IndexFunc_leap_Row_leap_Row_leap_New_2 := go_slices_IndexFunc_leap_Row_leap_Row_leap_New_2 g_slices_IndexFunc_leap_Row_leap_Row_leap_New_2 fun d out h => lim_some h

/- slices.ContainsFunc[[]horologe/leap.Row,horologe/leap.Row] -/
@[reducible] def pi_slices_ContainsFunc_leap_Row_leap_Row_leap_New_2 : PSh := ⟨[], [.mk false [.v (.sl (.pair (.int .i64) (.int .i64)))], .mk false [.fn 82 []]]⟩
@[reducible] def po_slices_ContainsFunc_leap_Row_leap_Row_leap_New_2 : PSh := ⟨[], [.mk false [.v .bool]]⟩
def f_slices_ContainsFunc_leap_Row_leap_Row_leap_New_2_m (T : Unit) (d : Unit × (((List (Int × Int)) × Unit) × (Unit × Unit))) : Option (Unit × ((Bool × Unit) × Unit)) :=
  (g_slices_IndexFunc_leap_Row_leap_Row_leap_New_2 ((), ((d.2.1.1, ()), ((), ())))).bind fun x1 =>
  let x2 : Bool := (decide (x1.2.1.1 ≥ (0 : Int)))
  some ((), ((x2, ()), ()))
def c_slices_ContainsFunc_leap_Row_leap_Row_leap_New_2 : List Nat := []
def L_slices_ContainsFunc_leap_Row_leap_Row_leap_New_2 (_ : Nat) : Pts po_slices_ContainsFunc_leap_Row_leap_Row_leap_New_2.den := []
def E_slices_ContainsFunc_leap_Row_leap_Row_leap_New_2 : Env := (E0.add 129 (typedSem pi_slices_IndexFunc_leap_Row_leap_Row_leap_New_2 po_slices_IndexFunc_leap_Row_leap_Row_leap_New_2 g_slices_IndexFunc_leap_Row_leap_Row_leap_New_2))
theorem q_slices_ContainsFunc_leap_Row_leap_Row_leap_New_2_m (k : Nat) (d : Unit × (((List (Int × Int)) × Unit) × (Unit × Unit))) : evCode E_slices_ContainsFunc_leap_Row_leap_Row_leap_New_2 (tab (L_slices_ContainsFunc_leap_Row_leap_Row_leap_New_2 k)) c_slices_ContainsFunc_leap_Row_leap_Row_leap_New_2 (bodyOf Tryz.f84) 0 (finK E_slices_ContainsFunc_leap_Row_leap_Row_leap_New_2 po_slices_ContainsFunc_leap_Row_leap_Row_leap_New_2 [.tmp 4]) (startSt pi_slices_ContainsFunc_leap_Row_leap_Row_leap_New_2 9 d) = f_slices_ContainsFunc_leap_Row_leap_Row_leap_New_2_m () d := by kernel_rfl
def g_slices_ContainsFunc_leap_Row_leap_Row_leap_New_2 (d : Unit × (((List (Int × Int)) × Unit) × (Unit × Unit))) : Option (Unit × ((Bool × Unit) × Unit)) := f_slices_ContainsFunc_leap_Row_leap_Row_leap_New_2_m () d
theorem ok_slices_ContainsFunc_leap_Row_leap_Row_leap_New_2 : FnOk Tryz.prog ET0 84 pi_slices_ContainsFunc_leap_Row_leap_Row_leap_New_2 po_slices_ContainsFunc_leap_Row_leap_Row_leap_New_2 g_slices_ContainsFunc_leap_Row_leap_Row_leap_New_2 :=
  fn_of_body (E := E_slices_ContainsFunc_leap_Row_leap_Row_leap_New_2) (envOk_add e0_ok (typed_ok ok_slices_IndexFunc_leap_Row_leap_Row_leap_New_2)) (fn := Tryz.f84) Tryz.func84 (by kernel_rfl) (by kernel_rfl) [.tmp 4] (by kernel_rfl) (by kernel_rfl) (by decide) rfl c_slices_ContainsFunc_leap_Row_leap_Row_leap_New_2 L_slices_ContainsFunc_leap_Row_leap_Row_leap_New_2
    (by intro x hx; cases hx) (by intro k x hx; cases hx) (fun d out h => ⟨0, (q_slices_ContainsFunc_leap_Row_leap_Row_leap_New_2_m 0 d).trans h⟩)

/- horologe/leap.New -/
@[reducible] def pi_leap_New : PSh := ⟨[], [.mk false [.v (.sl (.pair (.int .i64) (.int .i64)))], .mk false [.v (.int .i64)], .mk false [.v (.int .i64)]]⟩
@[reducible] def po_leap_New : PSh := ⟨[], [.mk false [.v (.nptr (.pair (.sl (.pair (.int .i64) (.int .i64))) (.pair (.int .i64) (.int .i64))))], .mk false [.v .err]]⟩
def f_leap_New_m (T : Unit) (d : Unit × (((List (Int × Int)) × Unit) × ((Int × Unit) × ((Int × Unit) × Unit)))) : Option (Unit × (((Option ((List (Int × Int)) × (Int × Int))) × Unit) × (((Option Int) × Unit) × Unit))) :=
  let x1 : Int := (d.2.1.1.length : Int)
  let x2 : Bool := (x1 == (0 : Int))
  bif x2 then (
  let x3 : (Option Int) := (some (8 : Int))
  some ((), (((none : Option ((List (Int × Int)) × (Int × Int))), ()), ((x3, ()), ()))))
  else (
  let x4 : Int := (d.2.1.1.length : Int)
  let x5 : Bool := (decide (x4 > (256 : Int)))
  bif x5 then (
  let x6 : (Option Int) := (some (3 : Int))
  some ((), (((none : Option ((List (Int × Int)) × (Int × Int))), ()), ((x6, ()), ()))))
  else (
  (g_slices_ContainsFunc_leap_Row_leap_Row_leap_New_1 ((), ((d.2.1.1, ()), ((), ())))).bind fun x7 =>
  bif x7.2.1.1 then (
  let x8 : (Option Int) := (some (13 : Int))
  some ((), (((none : Option ((List (Int × Int)) × (Int × Int))), ()), ((x8, ()), ()))))
  else (
  (g_slices_ContainsFunc_leap_Row_leap_Row_leap_New_2 ((), ((d.2.1.1, ()), ((), ())))).bind fun x9 =>
  bif x9.2.1.1 then (
  let x10 : (Option Int) := (some (1 : Int))
  some ((), (((none : Option ((List (Int × Int)) × (Int × Int))), ()), ((x10, ()), ()))))
  else (
  (g_leap_time ((), ((d.2.2.1.1, ()), ()))).bind fun x11 =>
  let x12 : Bool := (!x11.2.1.1)
  bif x12 then (
  let x13 : (Option Int) := (some (1 : Int))
  some ((), (((none : Option ((List (Int × Int)) × (Int × Int))), ()), ((x13, ()), ()))))
  else (
  (g_leap_time ((), ((d.2.2.2.1.1, ()), ()))).bind fun x14 =>
  let x15 : Bool := (!x14.2.1.1)
  bif x15 then (
  let x16 : (Option Int) := (some (1 : Int))
  some ((), (((none : Option ((List (Int × Int)) × (Int × Int))), ()), ((x16, ()), ()))))
  else (
  (g_leap_rise ((), ((d.2.1.1, ()), ()))).bind fun x17 =>
  let x18 : Bool := (!x17.2.1.1)
  bif x18 then (
  let x19 : (Option Int) := (some (6 : Int))
  some ((), (((none : Option ((List (Int × Int)) × (Int × Int))), ()), ((x19, ()), ()))))
  else (
  (g_slices_Clone_leap_Row_leap_Row ((), ((d.2.1.1, ()), ()))).bind fun x20 =>
  some ((), (((some (x20.1.1, (d.2.2.1.1, d.2.2.2.1.1))), ()), (((none : Option Int), ()), ()))))))))))
def c_leap_New : List Nat := []
def L_leap_New (_ : Nat) : Pts po_leap_New.den := []
def E_leap_New : Env := ((((E0.add 84 (altSem pi_slices_ContainsFunc_leap_Row_leap_Row_leap_New_1 (typedSem pi_slices_ContainsFunc_leap_Row_leap_Row_leap_New_1 po_slices_ContainsFunc_leap_Row_leap_Row_leap_New_1 g_slices_ContainsFunc_leap_Row_leap_Row_leap_New_1) (typedSem pi_slices_ContainsFunc_leap_Row_leap_Row_leap_New_2 po_slices_ContainsFunc_leap_Row_leap_Row_leap_New_2 g_slices_ContainsFunc_leap_Row_leap_Row_leap_New_2))).add 85 (typedSem pi_leap_time po_leap_time g_leap_time)).add 86 (typedSem pi_leap_rise po_leap_rise g_leap_rise)).add 87 (typedSem pi_slices_Clone_leap_Row_leap_Row po_slices_Clone_leap_Row_leap_Row g_slices_Clone_leap_Row_leap_Row))
theorem q_leap_New_m (k : Nat) (d : Unit × (((List (Int × Int)) × Unit) × ((Int × Unit) × ((Int × Unit) × Unit)))) : evCode E_leap_New (tab (L_leap_New k)) c_leap_New (bodyOf Tryz.f34) 0 (finK E_leap_New po_leap_New [.tmp 6, .tmp 7]) (startSt pi_leap_New 51 d) = f_leap_New_m () d := by kernel_rfl
def g_leap_New (d : Unit × (((List (Int × Int)) × Unit) × ((Int × Unit) × ((Int × Unit) × Unit)))) : Option (Unit × (((Option ((List (Int × Int)) × (Int × Int))) × Unit) × (((Option Int) × Unit) × Unit))) := f_leap_New_m () d
theorem ok_leap_New : FnOk Tryz.prog ET0 34 pi_leap_New po_leap_New g_leap_New :=
  fn_of_body (E := E_leap_New) (envOk_add (envOk_add (envOk_add (envOk_add e0_ok (alt_ok (typed_ok ok_slices_ContainsFunc_leap_Row_leap_Row_leap_New_1) (typed_ok ok_slices_ContainsFunc_leap_Row_leap_Row_leap_New_2))) (typed_ok ok_leap_time)) (typed_ok ok_leap_rise)) (typed_ok ok_slices_Clone_leap_Row_leap_Row)) (fn := Tryz.f34) Tryz.func34 (by kernel_rfl) (by kernel_rfl) [.tmp 6, .tmp 7] (by kernel_rfl) (by kernel_rfl) (by decide) rfl c_leap_New L_leap_New
    (by intro x hx; cases hx) (by intro k x hx; cases hx) (fun d out h => ⟨0, (q_leap_New_m 0 d).trans h⟩)

/- horologe/horologelaw10.Document -/
@[reducible] def pi_law10_Document : PSh := ⟨[], [.mk true [.v (.sl (.pair (.int .i64) (.int .i64))), .v (.int .i64), .v (.int .i64)]]⟩
@[reducible] def po_law10_Document : PSh := ⟨[.row 83 (.pair (.int .i64) (.int .i64))], [.mk true [.osl 0, .v (.int .i64), .v (.int .i64)]]⟩
@[reducible] def TT_law10_Document : Type := (((((Int × (Int × Unit)) × ((List (Int × Int)) × ((Int × (Int × Unit)) × ((List (Int × Int)) × Unit)))) × (Unit × (Unit × (((List (Int × Int)) × Unit) × ((Int × Unit) × ((Int × Unit) × Unit)))))) → Option (((List (Int × Int)) × Unit) × ((Int × (Int × Unit)) × Unit))) × Unit)
@[reducible] def sh_law10_Document_4 : PSh := ⟨[.var 41 [.osl 1, .v (.int .i64), .v (.int .i64)], .row 83 (.pair (.int .i64) (.int .i64)), .var 41 [.osl 3, .v (.int .i64), .v (.int .i64)], .row 83 (.pair (.int .i64) (.int .i64))], [.any, .any, .mk false [.ref 0 0], .mk false [.ref 2 0], .any, .any, .any, .any, .any, .any, .any, .any, .mk false [.v (.sl (.pair (.int .i64) (.int .i64)))], .mk false [.v (.int .i64)], .mk false [.v (.int .i64)], .any, .any, .any, .any, .any, .any, .any, .any, .any, .any, .any, .any, .any, .any, .any]⟩
def f_law10_Document_p4 (T : TT_law10_Document) (d : ((Int × (Int × Unit)) × ((List (Int × Int)) × ((Int × (Int × Unit)) × ((List (Int × Int)) × Unit)))) × (Unit × (Unit × (((List (Int × Int)) × Unit) × ((Int × Unit) × ((Int × Unit) × Unit)))))) : Option (((List (Int × Int)) × Unit) × ((Int × (Int × Unit)) × Unit)) :=
  let x2 : Bool := (decide (d.2.2.2.2.2.1.1 < d.2.2.2.2.1.1))
  bif x2 then (
  bif decide ((0 : Int) ≤ d.2.2.2.2.2.1.1) && decide (d.2.2.2.2.2.1.1 < (d.2.2.2.1.1.length : Int)) then (
  let x3 : (List (Int × Int)) := ([((gd_i64_i64 d.2.2.2.1.1 d.2.2.2.2.2.1.1).1, (gd_i64_i64 d.2.2.2.1.1 d.2.2.2.2.2.1.1).2)] : List (Int × Int))
  bif decide (((d.1.2.2.2.1.length + x3.length) * 16 : Nat) ≤ 140737488355328) && decide (d.1.2.2.2.1.length + x3.length ≤ 9223372036854775807) then (
  let x4 : (List (Int × Int)) := (d.1.2.2.2.1 ++ x3)
  let x5 : Int := (iadd .i64 d.2.2.2.2.2.1.1 (1 : Int))
  (T.1 (((d.1.1.1, (d.1.1.2.1, ())), (d.1.2.1, ((d.1.2.2.1.1, (d.1.2.2.1.2.1, ())), (x4, ())))), ((), ((), ((d.2.2.2.1.1, ()), ((d.2.2.2.2.1.1, ()), ((x5, ()), ()))))))))
  else none)
  else none)
  else (
  some ((d.1.2.2.2.1, ()), ((d.1.2.2.1.1, (d.1.2.2.1.2.1, ())), ())))
def f_law10_Document_t : Nat → TT_law10_Document
  | 0 => (fun _ => none, ())
  | k + 1 => (f_law10_Document_p4 (f_law10_Document_t k), ())
theorem t_law10_Document (k : Nat) : f_law10_Document_t (k + 1) = (f_law10_Document_p4 (f_law10_Document_t k), ()) := rfl
def f_law10_Document_m (T : TT_law10_Document) (d : Unit × (((List (Int × Int)) × (Int × (Int × Unit))) × Unit)) : Option (((List (Int × Int)) × Unit) × ((Int × (Int × Unit)) × Unit)) :=
  let x1 : Int := (d.2.1.1.length : Int)
  (T.1 ((((0 : Int), ((0 : Int), ())), (([] : List (Int × Int)), ((d.2.1.2.1, (d.2.1.2.2.1, ())), (([] : List (Int × Int)), ())))), ((), ((), ((d.2.1.1, ()), ((x1, ()), (((0 : Int), ()), ())))))))
def c_law10_Document : List Nat := []
def L_law10_Document (k : Nat) : Pts po_law10_Document.den := [(4, ⟨sh_law10_Document_4, (f_law10_Document_t k).1⟩)]
def E_law10_Document : Env := E0
theorem q_law10_Document_4 (k : Nat) (d : ((Int × (Int × Unit)) × ((List (Int × Int)) × ((Int × (Int × Unit)) × ((List (Int × Int)) × Unit)))) × (Unit × (Unit × (((List (Int × Int)) × Unit) × ((Int × Unit) × ((Int × Unit) × Unit)))))) : evAt E_law10_Document (tab (L_law10_Document k)) c_law10_Document 4 (bodyOf Tryz.f35) 0 (finK E_law10_Document po_law10_Document [.cell 2 41]) (ptSt sh_law10_Document_4 d) = f_law10_Document_p4 (f_law10_Document_t k) d := by kernel_rfl
theorem q_law10_Document_m (k : Nat) (d : Unit × (((List (Int × Int)) × (Int × (Int × Unit))) × Unit)) : evCode E_law10_Document (tab (L_law10_Document k)) c_law10_Document (bodyOf Tryz.f35) 0 (finK E_law10_Document po_law10_Document [.cell 2 41]) (startSt pi_law10_Document 30 d) = f_law10_Document_m (f_law10_Document_t k) d := by kernel_rfl
theorem go_law10_Document (F : Unit × (((List (Int × Int)) × (Int × (Int × Unit))) × Unit) → Option (((List (Int × Int)) × Unit) × ((Int × (Int × Unit)) × Unit))) (hF : ∀ d out, F d = some out → ∃ k, f_law10_Document_m (f_law10_Document_t k) d = some out) : FnOk Tryz.prog ET0 35 pi_law10_Document po_law10_Document F :=
  fn_of_body (E := E_law10_Document) e0_ok (fn := Tryz.f35) Tryz.func35 (by kernel_rfl) (by kernel_rfl) [.cell 2 41] (by kernel_rfl) (by kernel_rfl) (by decide) rfl c_law10_Document L_law10_Document
    (by intro x hx d; simp only [L_law10_Document, List.mem_cons, List.not_mem_nil, or_false] at hx; subst hx; rfl)
    (by intro k x hx d out h; simp only [L_law10_Document, List.mem_cons, List.not_mem_nil, or_false] at hx; subst hx; exact (q_law10_Document_4 k d).trans h)
    (by intro d out h; obtain ⟨k, hk⟩ := hF d out h; exact ⟨k, (q_law10_Document_m k d).trans hk⟩)
def g_law10_Document (d : Unit × (((List (Int × Int)) × (Int × (Int × Unit))) × Unit)) : Option (((List (Int × Int)) × Unit) × ((Int × (Int × Unit)) × Unit)) := lim fun k => f_law10_Document_m (f_law10_Document_t k) d
theorem ok_law10_Document : FnOk Tryz.prog ET0 35 pi_law10_Document po_law10_Document g_law10_Document := go_law10_Document g_law10_Document fun d out h => lim_some h

/- horologe/horologelaw10.Made -/
@[reducible] def pi_law10_Made : PSh := ⟨[], [.mk true [.v (.sl (.pair (.int .i64) (.int .i64))), .v (.int .i64), .v (.int .i64)]]⟩
@[reducible] def po_law10_Made : PSh := ⟨[.row 83 (.pair (.int .i64) (.int .i64))], [.mk false [.v (.nptr (.pair (.sl (.pair (.int .i64) (.int .i64))) (.pair (.int .i64) (.int .i64))))], .mk true [.osl 0, .v (.int .i64), .v (.int .i64)], .mk false [.v .bool]]⟩
def f_law10_Made_m (T : Unit) (d : Unit × (((List (Int × Int)) × (Int × (Int × Unit))) × Unit)) : Option (((List (Int × Int)) × Unit) × (((Option ((List (Int × Int)) × (Int × Int))) × Unit) × ((Int × (Int × Unit)) × ((Bool × Unit) × Unit)))) :=
  (g_leap_New ((), ((d.2.1.1, ()), ((d.2.1.2.1, ()), ((d.2.1.2.2.1, ()), ()))))).bind fun x1 =>
  (g_law10_Document ((), ((d.2.1.1, (d.2.1.2.1, (d.2.1.2.2.1, ()))), ()))).bind fun x2 =>
  bif x1.2.2.1.1.isNone then (
  let x3 : Bool := (!x1.2.1.1.isNone)
  bif x3 then (
  (g_ref10_Check ((), ((x2.1.1, (x2.2.1.1, (x2.2.1.2.1, ()))), ()))).bind fun x4 =>
  let x5 : Bool := (x4.2.1.1 == (0 : Int))
  some ((x2.1.1, ()), ((x1.2.1.1, ()), ((x2.2.1.1, (x2.2.1.2.1, ())), ((x5, ()), ())))))
  else (
  some ((x2.1.1, ()), ((x1.2.1.1, ()), ((x2.2.1.1, (x2.2.1.2.1, ())), ((false, ()), ()))))))
  else (
  some ((x2.1.1, ()), ((x1.2.1.1, ()), ((x2.2.1.1, (x2.2.1.2.1, ())), ((false, ()), ())))))
def c_law10_Made : List Nat := []
def L_law10_Made (_ : Nat) : Pts po_law10_Made.den := []
def E_law10_Made : Env := (((E0.add 12 (typedSem pi_ref10_Check po_ref10_Check g_ref10_Check)).add 34 (typedSem pi_leap_New po_leap_New g_leap_New)).add 35 (typedSem pi_law10_Document po_law10_Document g_law10_Document))
theorem q_law10_Made_m (k : Nat) (d : Unit × (((List (Int × Int)) × (Int × (Int × Unit))) × Unit)) : evCode E_law10_Made (tab (L_law10_Made k)) c_law10_Made (bodyOf Tryz.f11) 0 (finK E_law10_Made po_law10_Made [.tmp 2, .cell 3 41, .tmp 4]) (startSt pi_law10_Made 33 d) = f_law10_Made_m () d := by kernel_rfl
def g_law10_Made (d : Unit × (((List (Int × Int)) × (Int × (Int × Unit))) × Unit)) : Option (((List (Int × Int)) × Unit) × (((Option ((List (Int × Int)) × (Int × Int))) × Unit) × ((Int × (Int × Unit)) × ((Bool × Unit) × Unit)))) := f_law10_Made_m () d
theorem ok_law10_Made : FnOk Tryz.prog ET0 11 pi_law10_Made po_law10_Made g_law10_Made :=
  fn_of_body (E := E_law10_Made) (envOk_add (envOk_add (envOk_add e0_ok (typed_ok ok_ref10_Check)) (typed_ok ok_leap_New)) (typed_ok ok_law10_Document)) (fn := Tryz.f11) Tryz.func11 (by kernel_rfl) (by kernel_rfl) [.tmp 2, .cell 3 41, .tmp 4] (by kernel_rfl) (by kernel_rfl) (by decide) rfl c_law10_Made L_law10_Made
    (by intro x hx; cases hx) (by intro k x hx; cases hx) (fun d out h => ⟨0, (q_law10_Made_m 0 d).trans h⟩)

/- (*horologe/leap.Table).list -/
@[reducible] def pi_leap_Table_list : PSh := ⟨[], [.mk false [.v (.nptr (.pair (.sl (.pair (.int .i64) (.int .i64))) (.pair (.int .i64) (.int .i64))))]]⟩
@[reducible] def po_leap_Table_list : PSh := ⟨[], [.mk false [.v (.sl (.pair (.int .i64) (.int .i64)))]]⟩
def f_leap_Table_list_m (T : Unit) (d : Unit × (((Option ((List (Int × Int)) × (Int × Int))) × Unit) × Unit)) : Option (Unit × (((List (Int × Int)) × Unit) × Unit)) :=
  bif d.2.1.1.isNone then (
  some ((), ((([] : List (Int × Int)), ()), ())))
  else (
  d.2.1.1.bind fun x1 =>
  some ((), ((x1.1, ()), ())))
def c_leap_Table_list : List Nat := []
def L_leap_Table_list (_ : Nat) : Pts po_leap_Table_list.den := []
def E_leap_Table_list : Env := E0
theorem q_leap_Table_list_m (k : Nat) (d : Unit × (((Option ((List (Int × Int)) × (Int × Int))) × Unit) × Unit)) : evCode E_leap_Table_list (tab (L_leap_Table_list k)) c_leap_Table_list (bodyOf Tryz.f173) 0 (finK E_leap_Table_list po_leap_Table_list [.tmp 2]) (startSt pi_leap_Table_list 9 d) = f_leap_Table_list_m () d := by kernel_rfl
def g_leap_Table_list (d : Unit × (((Option ((List (Int × Int)) × (Int × Int))) × Unit) × Unit)) : Option (Unit × (((List (Int × Int)) × Unit) × Unit)) := f_leap_Table_list_m () d
theorem ok_leap_Table_list : FnOk Tryz.prog ET0 173 pi_leap_Table_list po_leap_Table_list g_leap_Table_list :=
  fn_of_body (E := E_leap_Table_list) e0_ok (fn := Tryz.f173) Tryz.func173 (by kernel_rfl) (by kernel_rfl) [.tmp 2] (by kernel_rfl) (by kernel_rfl) (by decide) rfl c_leap_Table_list L_leap_Table_list
    (by intro x hx; cases hx) (by intro k x hx; cases hx) (fun d out h => ⟨0, (q_leap_Table_list_m 0 d).trans h⟩)

/- (*horologe/leap.Table).Len -/
@[reducible] def pi_leap_Table_Len : PSh := ⟨[], [.mk false [.v (.nptr (.pair (.sl (.pair (.int .i64) (.int .i64))) (.pair (.int .i64) (.int .i64))))]]⟩
@[reducible] def po_leap_Table_Len : PSh := ⟨[], [.mk false [.v (.int .i64)]]⟩
def f_leap_Table_Len_m (T : Unit) (d : Unit × (((Option ((List (Int × Int)) × (Int × Int))) × Unit) × Unit)) : Option (Unit × ((Int × Unit) × Unit)) :=
  (g_leap_Table_list ((), ((d.2.1.1, ()), ()))).bind fun x1 =>
  let x2 : Int := (x1.2.1.1.length : Int)
  some ((), ((x2, ()), ()))
def c_leap_Table_Len : List Nat := []
def L_leap_Table_Len (_ : Nat) : Pts po_leap_Table_Len.den := []
def E_leap_Table_Len : Env := (E0.add 173 (typedSem pi_leap_Table_list po_leap_Table_list g_leap_Table_list))
theorem q_leap_Table_Len_m (k : Nat) (d : Unit × (((Option ((List (Int × Int)) × (Int × Int))) × Unit) × Unit)) : evCode E_leap_Table_Len (tab (L_leap_Table_Len k)) c_leap_Table_Len (bodyOf Tryz.f171) 0 (finK E_leap_Table_Len po_leap_Table_Len [.tmp 2]) (startSt pi_leap_Table_Len 6 d) = f_leap_Table_Len_m () d := by kernel_rfl
def g_leap_Table_Len (d : Unit × (((Option ((List (Int × Int)) × (Int × Int))) × Unit) × Unit)) : Option (Unit × ((Int × Unit) × Unit)) := f_leap_Table_Len_m () d
theorem ok_leap_Table_Len : FnOk Tryz.prog ET0 171 pi_leap_Table_Len po_leap_Table_Len g_leap_Table_Len :=
  fn_of_body (E := E_leap_Table_Len) (envOk_add e0_ok (typed_ok ok_leap_Table_list)) (fn := Tryz.f171) Tryz.func171 (by kernel_rfl) (by kernel_rfl) [.tmp 2] (by kernel_rfl) (by kernel_rfl) (by decide) rfl c_leap_Table_Len L_leap_Table_Len
    (by intro x hx; cases hx) (by intro k x hx; cases hx) (fun d out h => ⟨0, (q_leap_Table_Len_m 0 d).trans h⟩)
end
end Go.Proofs.YticfncahnhbhbaaGreat.Ev
