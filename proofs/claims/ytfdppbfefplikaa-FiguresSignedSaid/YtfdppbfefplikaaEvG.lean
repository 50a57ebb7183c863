/- Printed by wip/tools/evgen.py. -/
import Derived.Test.YtfdppbfefplikaaEv32
import Derived.Test.YtfdppbfefplikaaShelf
import Derived.Test.YtfdppbfefplikaaEv19
import Derived.Test.YtfdppbfefplikaaProg
import Derived.KernelRfl
set_option maxRecDepth 100000
set_option maxHeartbeats 2000000
set_option linter.unusedVariables false
namespace Go.Proofs.Ytfdppbfefplikaa.Ev
open Go
noncomputable section
def rows0 : List (TypeId × Row) := [
  (2, ⟨.int .i64, 1, 8, (.int .i64), [AV.val (.int .i64) (0 : Int)], none⟩),
  (4, ⟨.bool, 1, 1, .bool, [AV.val .bool false], none⟩),
  (5, ⟨.int .u8, 1, 1, (.int .u8), [AV.val (.int .u8) (0 : Int)], none⟩),
  (9, ⟨.str, 1, 16, .str, [AV.val .str ByteArray.empty], none⟩),
  (24, ⟨.iface, 1, 16, .err, [AV.val .err (none : Option Int)], none⟩),
  (46, ⟨.int .i64, 1, 8, (.int .i64), [AV.val (.int .i64) (0 : Int)], none⟩),
  (48, ⟨.int .u64, 1, 8, (.int .u64), [AV.val (.int .u64) (0 : Int)], none⟩),
  (55, ⟨.slice 48, 1, 24, (.sl (.int .u64)), [AV.nilS], none⟩),
  (57, ⟨.struct [(0, 1, false), (1, 1, false)], 2, 32, (.pair .bool (.sl (.int .u64))), [AV.val .bool false, AV.nilS], none⟩),
  (66, ⟨.slice 5, 1, 24, (.sl (.int .u8)), [AV.nilS], none⟩)]
def ET0 : TypeId := 46
def E0 : Env := ⟨rows0, [], ET0, 0, [], []⟩
theorem e0_ok : EnvOk Try.prog E0 := envOk_rows (by kernel_rfl) (by kernel_rfl) 0
/- strings.Repeat -/
@[reducible] def pi_strings_Repeat : PSh := pi_lib_repeat
@[reducible] def po_strings_Repeat : PSh := po_lib_repeat
def g_strings_Repeat := lib_repeat
theorem ok_strings_Repeat : FnOk Try.prog ET0 29 pi_strings_Repeat po_strings_Repeat g_strings_Repeat := lib_repeat_ok ⟨Try.f29, Try.func29, by kernel_rfl, by kernel_rfl⟩ Try.strings_Repeat

/- slices.Reverse[[]byte,byte] -/
@[reducible] def pi_slices_Reverse_byte_byte_io : PSh := ⟨[.row 5 (.int .u8)], [.mk false [.osl 0]]⟩
@[reducible] def po_slices_Reverse_byte_byte_io : PSh := ⟨[.row 5 (.int .u8)], [.mk false [.osl 0]]⟩
@[reducible] def TT_slices_Reverse_byte_byte_io : Type := (((((List Int) × Unit) × (Unit × ((Int × Unit) × ((Int × Unit) × Unit)))) → Option (((List Int) × Unit) × (Unit × Unit))) × Unit)
@[reducible] def sh_slices_Reverse_byte_byte_io_1 : PSh := ⟨[.row 5 (.int .u8)], [.mk false [.osl 0], .any, .mk false [.v (.int .i64)], .mk false [.v (.int .i64)], .any, .any, .any, .any, .any, .any, .any, .any, .any, .any, .any, .any, .any, .any, .any, .any, .any, .any, .any, .any, .any, .any, .any, .any]⟩
def f_slices_Reverse_byte_byte_io_p1 (T : TT_slices_Reverse_byte_byte_io) (d : ((List Int) × Unit) × (Unit × ((Int × Unit) × ((Int × Unit) × Unit)))) : Option (((List Int) × Unit) × (Unit × Unit)) :=
  let x3 : Bool := (decide (d.2.2.1.1 < d.2.2.2.1.1))
  bif x3 then (
  bif decide ((0 : Int) ≤ d.2.2.2.1.1) && decide (d.2.2.2.1.1 < (d.1.1.length : Int)) then (
  bif decide ((0 : Int) ≤ d.2.2.1.1) && decide (d.2.2.1.1 < (d.1.1.length : Int)) then (
  bif decide ((0 : Int) ≤ d.2.2.1.1) && decide (d.2.2.1.1 < (d.1.1.length : Int)) then (
  let x4 : (List Int) := (List.set d.1.1 (Int.toNat d.2.2.1.1) (gd (.int .u8) d.1.1 d.2.2.2.1.1))
  bif decide ((0 : Int) ≤ d.2.2.2.1.1) && decide (d.2.2.2.1.1 < (x4.length : Int)) then (
  let x5 : (List Int) := (List.set x4 (Int.toNat d.2.2.2.1.1) (gd (.int .u8) d.1.1 d.2.2.1.1))
  let x6 : Int := (iadd .i64 d.2.2.1.1 (1 : Int))
  let x7 : Int := (isub .i64 d.2.2.2.1.1 (1 : Int))
  (T.1 ((x5, ()), ((), ((x6, ()), ((x7, ()), ()))))))
  else none)
  else none)
  else none)
  else none)
  else (
  some ((d.1.1, ()), ((), ())))
def f_slices_Reverse_byte_byte_io_t : Nat → TT_slices_Reverse_byte_byte_io
  | 0 => (fun _ => none, ())
  | k + 1 => (f_slices_Reverse_byte_byte_io_p1 (f_slices_Reverse_byte_byte_io_t k), ())
theorem t_slices_Reverse_byte_byte_io (k : Nat) : f_slices_Reverse_byte_byte_io_t (k + 1) = (f_slices_Reverse_byte_byte_io_p1 (f_slices_Reverse_byte_byte_io_t k), ()) := rfl
def f_slices_Reverse_byte_byte_io_m (T : TT_slices_Reverse_byte_byte_io) (d : ((List Int) × Unit) × (Unit × Unit)) : Option (((List Int) × Unit) × (Unit × Unit)) :=
  let x1 : Int := (d.1.1.length : Int)
  let x2 : Int := (isub .i64 x1 (1 : Int))
  (T.1 ((d.1.1, ()), ((), (((0 : Int), ()), ((x2, ()), ())))))
def c_slices_Reverse_byte_byte_io : List Nat := []
def L_slices_Reverse_byte_byte_io (k : Nat) : Pts po_slices_Reverse_byte_byte_io.den := [(1, ⟨sh_slices_Reverse_byte_byte_io_1, (f_slices_Reverse_byte_byte_io_t k).1⟩)]
def E_slices_Reverse_byte_byte_io : Env := (E0.kp [0])
theorem q_slices_Reverse_byte_byte_io_1 (k : Nat) (d : ((List Int) × Unit) × (Unit × ((Int × Unit) × ((Int × Unit) × Unit)))) : evAt E_slices_Reverse_byte_byte_io (tab (L_slices_Reverse_byte_byte_io k)) c_slices_Reverse_byte_byte_io 1 (bodyOf Try.f30) 0 (finKio E_slices_Reverse_byte_byte_io po_slices_Reverse_byte_byte_io [] [(0, none)]) (ptSt sh_slices_Reverse_byte_byte_io_1 d) = f_slices_Reverse_byte_byte_io_p1 (f_slices_Reverse_byte_byte_io_t k) d := by kernel_rfl
theorem q_slices_Reverse_byte_byte_io_m (k : Nat) (d : ((List Int) × Unit) × (Unit × Unit)) : evCode E_slices_Reverse_byte_byte_io (tab (L_slices_Reverse_byte_byte_io k)) c_slices_Reverse_byte_byte_io (bodyOf Try.f30) 0 (finKio E_slices_Reverse_byte_byte_io po_slices_Reverse_byte_byte_io [] [(0, none)]) (startSt pi_slices_Reverse_byte_byte_io 28 d) = f_slices_Reverse_byte_byte_io_m (f_slices_Reverse_byte_byte_io_t k) d := by kernel_rfl
theorem go_slices_Reverse_byte_byte_io (G : ((List Int) × Unit) × (Unit × Unit) → Option (((List Int) × Unit) × (Unit × Unit))) (hG : ∀ d out, G d = some out → ∃ k, f_slices_Reverse_byte_byte_io_m (f_slices_Reverse_byte_byte_io_t k) d = some out) : FnIo Try.prog ET0 30 pi_slices_Reverse_byte_byte_io po_slices_Reverse_byte_byte_io 0 [(0, 0, none)] G :=
  fn_of_bodyIo (E := E_slices_Reverse_byte_byte_io) (envOk_kp e0_ok) (fn := Try.f30) Try.func30 (by kernel_rfl) (by kernel_rfl) [] [(0, none)] [(0, 0, none)] (by kernel_rfl) (by kernel_rfl) (by kernel_rfl) (by kernel_rfl) (by decide) (by decide) c_slices_Reverse_byte_byte_io L_slices_Reverse_byte_byte_io
    (by intro x hx d; simp only [L_slices_Reverse_byte_byte_io, List.mem_cons, List.not_mem_nil, or_false] at hx; subst hx; rfl)
    (by intro k x hx d out h; simp only [L_slices_Reverse_byte_byte_io, List.mem_cons, List.not_mem_nil, or_false] at hx; subst hx; exact (q_slices_Reverse_byte_byte_io_1 k d).trans h)
    (by intro d out h; obtain ⟨k, hk⟩ := hG d out h; exact ⟨k, (q_slices_Reverse_byte_byte_io_m k d).trans hk⟩)
def g_slices_Reverse_byte_byte_io (d : ((List Int) × Unit) × (Unit × Unit)) : Option (((List Int) × Unit) × (Unit × Unit)) := lim fun k => f_slices_Reverse_byte_byte_io_m (f_slices_Reverse_byte_byte_io_t k) d
theorem ok_slices_Reverse_byte_byte_io : FnIo Try.prog ET0 30 pi_slices_Reverse_byte_byte_io po_slices_Reverse_byte_byte_io 0 [(0, 0, none)] g_slices_Reverse_byte_byte_io := go_slices_Reverse_byte_byte_io g_slices_Reverse_byte_byte_io fun d out h => lim_some h

/- horologe/figures.raw -/
@[reducible] def pi_figures_raw : PSh := ⟨[], [.mk false [.v (.int .u64)], .mk false [.v (.int .i64)]]⟩
@[reducible] def po_figures_raw : PSh := ⟨[], [.mk false [.v .str]]⟩
@[reducible] def TT_figures_raw : Type := (((((List Int) × Unit) × ((Int × Unit) × ((Int × Unit) × (Unit × Unit)))) → Option (Unit × ((ByteArray × Unit) × Unit))) × Unit)
@[reducible] def sh_figures_raw_3 : PSh := ⟨[.row 5 (.int .u8)], [.mk false [.v (.int .u64)], .mk false [.v (.int .i64)], .any, .any, .any, .mk false [.osl 0], .any, .any, .any, .any, .any, .any, .any, .any, .any, .any, .any, .any, .any, .any, .any, .any, .any, .any, .any, .any, .any, .any]⟩
def f_figures_raw_p3 (T : TT_figures_raw) (d : ((List Int) × Unit) × ((Int × Unit) × ((Int × Unit) × (Unit × Unit)))) : Option (Unit × ((ByteArray × Unit) × Unit)) :=
  let x1 : Bool := (decide (d.2.1.1 > (0 : Int)))
  bif x1 then (
  let x2 : Int := (Int.tmod d.2.1.1 (10 : Int))
  let x3 : Int := (iconv .u8 x2)
  let x4 : Int := (iadd .u8 (48 : Int) x3)
  let x5 : (List Int) := ([x4] : List Int)
  bif decide (((d.1.1.length + x5.length) * 1 : Nat) ≤ 140737488355328) && decide (d.1.1.length + x5.length ≤ 9223372036854775807) then (
  let x6 : (List Int) := (d.1.1 ++ x5)
  let x7 : Int := (iquo .u64 d.2.1.1 (10 : Int))
  (T.1 ((x6, ()), ((x7, ()), ((d.2.2.1.1, ()), ((), ()))))))
  else none)
  else (
  let x8 : Int := (d.1.1.length : Int)
  let x9 : Int := (if (1 : Int) > d.2.2.1.1 then (1 : Int) else d.2.2.1.1)
  let x10 : Bool := (decide (x8 < x9))
  bif x10 then (
  let x11 : Int := (Int.tmod d.2.1.1 (10 : Int))
  let x12 : Int := (iconv .u8 x11)
  let x13 : Int := (iadd .u8 (48 : Int) x12)
  let x14 : (List Int) := ([x13] : List Int)
  bif decide (((d.1.1.length + x14.length) * 1 : Nat) ≤ 140737488355328) && decide (d.1.1.length + x14.length ≤ 9223372036854775807) then (
  let x15 : (List Int) := (d.1.1 ++ x14)
  let x16 : Int := (iquo .u64 d.2.1.1 (10 : Int))
  (T.1 ((x15, ()), ((x16, ()), ((d.2.2.1.1, ()), ((), ()))))))
  else none)
  else (
  (g_slices_Reverse_byte_byte_io ((d.1.1, ()), ((), ()))).bind fun x17 =>
  let x18 : ByteArray := (strOf x17.1.1)
  some ((), ((x18, ()), ()))))
def f_figures_raw_t : Nat → TT_figures_raw
  | 0 => (fun _ => none, ())
  | k + 1 => (f_figures_raw_p3 (f_figures_raw_t k), ())
theorem t_figures_raw (k : Nat) : f_figures_raw_t (k + 1) = (f_figures_raw_p3 (f_figures_raw_t k), ()) := rfl
def f_figures_raw_m (T : TT_figures_raw) (d : Unit × ((Int × Unit) × ((Int × Unit) × Unit))) : Option (Unit × ((ByteArray × Unit) × Unit)) :=
  (T.1 ((([] : List Int), ()), ((d.2.1.1, ()), ((d.2.2.1.1, ()), ((), ())))))
def c_figures_raw : List Nat := []
def L_figures_raw (k : Nat) : Pts po_figures_raw.den := [(3, ⟨sh_figures_raw_3, (f_figures_raw_t k).1⟩)]
def E_figures_raw : Env := (E0.add 30 (ioSem pi_slices_Reverse_byte_byte_io po_slices_Reverse_byte_byte_io 0 [(0, 0, none)] g_slices_Reverse_byte_byte_io))
theorem q_figures_raw_3 (k : Nat) (d : ((List Int) × Unit) × ((Int × Unit) × ((Int × Unit) × (Unit × Unit)))) : evAt E_figures_raw (tab (L_figures_raw k)) c_figures_raw 3 (bodyOf Try.f19) 0 (finK E_figures_raw po_figures_raw [.tmp 4]) (ptSt sh_figures_raw_3 d) = f_figures_raw_p3 (f_figures_raw_t k) d := by kernel_rfl
theorem q_figures_raw_m (k : Nat) (d : Unit × ((Int × Unit) × ((Int × Unit) × Unit))) : evCode E_figures_raw (tab (L_figures_raw k)) c_figures_raw (bodyOf Try.f19) 0 (finK E_figures_raw po_figures_raw [.tmp 4]) (startSt pi_figures_raw 28 d) = f_figures_raw_m (f_figures_raw_t k) d := by kernel_rfl
theorem go_figures_raw (G : Unit × ((Int × Unit) × ((Int × Unit) × Unit)) → Option (Unit × ((ByteArray × Unit) × Unit))) (hG : ∀ d out, G d = some out → ∃ k, f_figures_raw_m (f_figures_raw_t k) d = some out) : FnOk Try.prog ET0 19 pi_figures_raw po_figures_raw G :=
  fn_of_body (E := E_figures_raw) (envOk_add e0_ok (io_ok ok_slices_Reverse_byte_byte_io)) (fn := Try.f19) Try.func19 (by kernel_rfl) (by kernel_rfl) [.tmp 4] (by kernel_rfl) (by kernel_rfl) (by decide) rfl c_figures_raw L_figures_raw
    (by intro x hx d; simp only [L_figures_raw, List.mem_cons, List.not_mem_nil, or_false] at hx; subst hx; rfl)
    (by intro k x hx d out h; simp only [L_figures_raw, List.mem_cons, List.not_mem_nil, or_false] at hx; subst hx; exact (q_figures_raw_3 k d).trans h)
    (by intro d out h; obtain ⟨k, hk⟩ := hG d out h; exact ⟨k, (q_figures_raw_m k d).trans hk⟩)
def g_figures_raw (d : Unit × ((Int × Unit) × ((Int × Unit) × Unit))) : Option (Unit × ((ByteArray × Unit) × Unit)) := lim fun k => f_figures_raw_m (f_figures_raw_t k) d
theorem ok_figures_raw : FnOk Try.prog ET0 19 pi_figures_raw po_figures_raw g_figures_raw := go_figures_raw g_figures_raw fun d out h => lim_some h

/- horologe/figures.Put -/
@[reducible] def pi_figures_Put : PSh := ⟨[], [.mk false [.v (.int .i64)], .mk false [.v (.int .i64)]]⟩
@[reducible] def po_figures_Put : PSh := ⟨[], [.mk false [.v .str], .mk false [.v .err]]⟩
def f_figures_Put_m (T : Unit) (d : Unit × ((Int × Unit) × ((Int × Unit) × Unit))) : Option (Unit × ((ByteArray × Unit) × (((Option Int) × Unit) × Unit))) :=
  let x1 : Bool := (decide (d.2.2.1.1 < (0 : Int)))
  bif x1 then (
  let x2 : (Option Int) := (some (1 : Int))
  some ((), (((⟨#[]⟩ : ByteArray), ()), ((x2, ()), ()))))
  else (
  let x3 : Bool := (decide (d.2.2.1.1 > (20 : Int)))
  bif x3 then (
  let x4 : (Option Int) := (some (1 : Int))
  some ((), (((⟨#[]⟩ : ByteArray), ()), ((x4, ()), ()))))
  else (
  let x5 : Bool := (decide (d.2.1.1 < (0 : Int)))
  bif x5 then (
  let x6 : Int := (iconv .u64 d.2.1.1)
  let x7 : Int := (ineg .u64 x6)
  (g_figures_raw ((), ((x7, ()), ((d.2.2.1.1, ()), ())))).bind fun x8 =>
  bif decide ((((⟨#[45]⟩ : ByteArray).size + x8.2.1.1.size : Nat) : Int) ≤ 9223372036854775807) then (
  let x9 : ByteArray := ((⟨#[45]⟩ : ByteArray) ++ x8.2.1.1)
  some ((), ((x9, ()), (((none : Option Int), ()), ()))))
  else none)
  else (
  let x10 : Int := (iconv .u64 d.2.1.1)
  (g_figures_raw ((), ((x10, ()), ((d.2.2.1.1, ()), ())))).bind fun x11 =>
  some ((), ((x11.2.1.1, ()), (((none : Option Int), ()), ()))))))
def c_figures_Put : List Nat := []
def L_figures_Put (_ : Nat) : Pts po_figures_Put.den := []
def E_figures_Put : Env := (E0.add 19 (typedSem pi_figures_raw po_figures_raw g_figures_raw))
theorem q_figures_Put_m (k : Nat) (d : Unit × ((Int × Unit) × ((Int × Unit) × Unit))) : evCode E_figures_Put (tab (L_figures_Put k)) c_figures_Put (bodyOf Try.f7) 0 (finK E_figures_Put po_figures_Put [.tmp 4, .tmp 5]) (startSt pi_figures_Put 27 d) = f_figures_Put_m () d := by kernel_rfl
def g_figures_Put (d : Unit × ((Int × Unit) × ((Int × Unit) × Unit))) : Option (Unit × ((ByteArray × Unit) × (((Option Int) × Unit) × Unit))) := f_figures_Put_m () d
theorem ok_figures_Put : FnOk Try.prog ET0 7 pi_figures_Put po_figures_Put g_figures_Put :=
  fn_of_body (E := E_figures_Put) (envOk_add e0_ok (typed_ok ok_figures_raw)) (fn := Try.f7) Try.func7 (by kernel_rfl) (by kernel_rfl) [.tmp 4, .tmp 5] (by kernel_rfl) (by kernel_rfl) (by decide) rfl c_figures_Put L_figures_Put
    (by intro x hx; cases hx) (by intro k x hx; cases hx) (fun d out h => ⟨0, (q_figures_Put_m 0 d).trans h⟩)

/- horologe/figures.Is -/
@[reducible] def pi_figures_Is : PSh := ⟨[], [.mk false [.v (.int .u8)]]⟩
@[reducible] def po_figures_Is : PSh := ⟨[], [.mk false [.v .bool]]⟩
def f_figures_Is_m (T : Unit) (d : Unit × ((Int × Unit) × Unit)) : Option (Unit × ((Bool × Unit) × Unit)) :=
  let x1 : Bool := (decide (d.2.1.1 ≥ (48 : Int)))
  bif x1 then (
  let x2 : Bool := (decide (d.2.1.1 ≤ (57 : Int)))
  some ((), ((x2, ()), ())))
  else (
  some ((), ((false, ()), ())))
def c_figures_Is : List Nat := []
def L_figures_Is (_ : Nat) : Pts po_figures_Is.den := []
def E_figures_Is : Env := E0
theorem q_figures_Is_m (k : Nat) (d : Unit × ((Int × Unit) × Unit)) : evCode E_figures_Is (tab (L_figures_Is k)) c_figures_Is (bodyOf Try.f10) 0 (finK E_figures_Is po_figures_Is [.tmp 2]) (startSt pi_figures_Is 9 d) = f_figures_Is_m () d := by kernel_rfl
def g_figures_Is (d : Unit × ((Int × Unit) × Unit)) : Option (Unit × ((Bool × Unit) × Unit)) := f_figures_Is_m () d
theorem ok_figures_Is : FnOk Try.prog ET0 10 pi_figures_Is po_figures_Is g_figures_Is :=
  fn_of_body (E := E_figures_Is) e0_ok (fn := Try.f10) Try.func10 (by kernel_rfl) (by kernel_rfl) [.tmp 2] (by kernel_rfl) (by kernel_rfl) (by decide) rfl c_figures_Is L_figures_Is
    (by intro x hx; cases hx) (by intro k x hx; cases hx) (fun d out h => ⟨0, (q_figures_Is_m 0 d).trans h⟩)

/- horologe/figures.run -/
@[reducible] def pi_figures_run : PSh := ⟨[], [.mk false [.v .str], .mk false [.v (.int .i64)]]⟩
@[reducible] def po_figures_run : PSh := ⟨[], [.mk false [.v (.int .i64)]]⟩
@[reducible] def TT_figures_run : Type := (((Unit × ((ByteArray × Unit) × ((Int × Unit) × ((Int × Unit) × Unit)))) → Option (Unit × ((Int × Unit) × Unit))) × Unit)
@[reducible] def sh_figures_run_3 : PSh := ⟨[], [.mk false [.v .str], .mk false [.v (.int .i64)], .any, .any, .any, .mk false [.v (.int .i64)], .any, .any, .any, .any, .any, .any, .any, .any, .any, .any, .any, .any, .any, .any, .any]⟩
def f_figures_run_p3 (T : TT_figures_run) (d : Unit × ((ByteArray × Unit) × ((Int × Unit) × ((Int × Unit) × Unit)))) : Option (Unit × ((Int × Unit) × Unit)) :=
  let x1 : Int := (d.2.1.1.size : Int)
  let x2 : Int := (if d.2.2.1.1 < x1 then d.2.2.1.1 else x1)
  let x3 : Bool := (decide (d.2.2.2.1.1 < x2))
  bif x3 then (
  bif decide ((0 : Int) ≤ d.2.2.2.1.1) && decide (d.2.2.2.1.1 < ((d.2.1.1.size : Int) : Int)) then (
  let x4 : Int := (bt d.2.1.1 d.2.2.2.1.1)
  (g_figures_Is ((), ((x4, ()), ()))).bind fun x5 =>
  bif x5.2.1.1 then (
  let x6 : Int := (iadd .i64 d.2.2.2.1.1 (1 : Int))
  (T.1 ((), ((d.2.1.1, ()), ((d.2.2.1.1, ()), ((x6, ()), ()))))))
  else (
  some ((), ((d.2.2.2.1.1, ()), ()))))
  else none)
  else (
  some ((), ((d.2.2.2.1.1, ()), ())))
def f_figures_run_t : Nat → TT_figures_run
  | 0 => (fun _ => none, ())
  | k + 1 => (f_figures_run_p3 (f_figures_run_t k), ())
theorem t_figures_run (k : Nat) : f_figures_run_t (k + 1) = (f_figures_run_p3 (f_figures_run_t k), ()) := rfl
def f_figures_run_m (T : TT_figures_run) (d : Unit × ((ByteArray × Unit) × ((Int × Unit) × Unit))) : Option (Unit × ((Int × Unit) × Unit)) :=
  (T.1 ((), ((d.2.1.1, ()), ((d.2.2.1.1, ()), (((0 : Int), ()), ())))))
def c_figures_run : List Nat := []
def L_figures_run (k : Nat) : Pts po_figures_run.den := [(3, ⟨sh_figures_run_3, (f_figures_run_t k).1⟩)]
def E_figures_run : Env := (E0.add 10 (typedSem pi_figures_Is po_figures_Is g_figures_Is))
theorem q_figures_run_3 (k : Nat) (d : Unit × ((ByteArray × Unit) × ((Int × Unit) × ((Int × Unit) × Unit)))) : evAt E_figures_run (tab (L_figures_run k)) c_figures_run 3 (bodyOf Try.f31) 0 (finK E_figures_run po_figures_run [.tmp 4]) (ptSt sh_figures_run_3 d) = f_figures_run_p3 (f_figures_run_t k) d := by kernel_rfl
theorem q_figures_run_m (k : Nat) (d : Unit × ((ByteArray × Unit) × ((Int × Unit) × Unit))) : evCode E_figures_run (tab (L_figures_run k)) c_figures_run (bodyOf Try.f31) 0 (finK E_figures_run po_figures_run [.tmp 4]) (startSt pi_figures_run 21 d) = f_figures_run_m (f_figures_run_t k) d := by kernel_rfl
theorem go_figures_run (G : Unit × ((ByteArray × Unit) × ((Int × Unit) × Unit)) → Option (Unit × ((Int × Unit) × Unit))) (hG : ∀ d out, G d = some out → ∃ k, f_figures_run_m (f_figures_run_t k) d = some out) : FnOk Try.prog ET0 31 pi_figures_run po_figures_run G :=
  fn_of_body (E := E_figures_run) (envOk_add e0_ok (typed_ok ok_figures_Is)) (fn := Try.f31) Try.func31 (by kernel_rfl) (by kernel_rfl) [.tmp 4] (by kernel_rfl) (by kernel_rfl) (by decide) rfl c_figures_run L_figures_run
    (by intro x hx d; simp only [L_figures_run, List.mem_cons, List.not_mem_nil, or_false] at hx; subst hx; rfl)
    (by intro k x hx d out h; simp only [L_figures_run, List.mem_cons, List.not_mem_nil, or_false] at hx; subst hx; exact (q_figures_run_3 k d).trans h)
    (by intro d out h; obtain ⟨k, hk⟩ := hG d out h; exact ⟨k, (q_figures_run_m k d).trans hk⟩)
def g_figures_run (d : Unit × ((ByteArray × Unit) × ((Int × Unit) × Unit))) : Option (Unit × ((Int × Unit) × Unit)) := lim fun k => f_figures_run_m (f_figures_run_t k) d
theorem ok_figures_run : FnOk Try.prog ET0 31 pi_figures_run po_figures_run g_figures_run := go_figures_run g_figures_run fun d out h => lim_some h

/- horologe/figures.value -/
@[reducible] def pi_figures_value : PSh := ⟨[], [.mk false [.v .str], .mk false [.v (.int .u64)]]⟩
@[reducible] def po_figures_value : PSh := ⟨[], [.mk false [.v (.int .u64)], .mk false [.v .err]]⟩
@[reducible] def TT_figures_value : Type := (((Unit × ((ByteArray × Unit) × ((Int × Unit) × ((Int × Unit) × ((Int × Unit) × ((Int × Unit) × Unit)))))) → Option (Unit × ((Int × Unit) × (((Option Int) × Unit) × Unit)))) × Unit)
@[reducible] def sh_figures_value_4 : PSh := ⟨[], [.mk false [.v .str], .mk false [.v (.int .u64)], .any, .any, .any, .any, .mk false [.v (.int .u64)], .any, .any, .any, .mk false [.v (.int .i64)], .mk false [.v (.int .i64)], .any, .any, .any, .any, .any, .any, .any, .any, .any, .any, .any, .any, .any, .any, .any, .any, .any, .any, .any, .any]⟩
def f_figures_value_p4 (T : TT_figures_value) (d : Unit × ((ByteArray × Unit) × ((Int × Unit) × ((Int × Unit) × ((Int × Unit) × ((Int × Unit) × Unit)))))) : Option (Unit × ((Int × Unit) × (((Option Int) × Unit) × Unit))) :=
  let x2 : Bool := (decide (d.2.2.2.2.2.1.1 < d.2.2.2.2.1.1))
  bif x2 then (
  bif decide ((0 : Int) ≤ d.2.2.2.2.2.1.1) && decide (d.2.2.2.2.2.1.1 < ((d.2.1.1.size : Int) : Int)) then (
  let x3 : Int := (bt d.2.1.1 d.2.2.2.2.2.1.1)
  let x4 : Int := (isub .u8 x3 (48 : Int))
  let x5 : Int := (iconv .u64 x4)
  let x6 : Int := (isub .u64 d.2.2.1.1 x5)
  let x7 : Int := (iquo .u64 x6 (10 : Int))
  let x8 : Bool := (decide (d.2.2.2.1.1 > x7))
  bif x8 then (
  let x9 : (Option Int) := (some (5 : Int))
  some ((), (((0 : Int), ()), ((x9, ()), ()))))
  else (
  let x10 : Int := (imul .u64 d.2.2.2.1.1 (10 : Int))
  let x11 : Int := (iadd .u64 x10 x5)
  let x12 : Int := (iadd .i64 d.2.2.2.2.2.1.1 (1 : Int))
  (T.1 ((), ((d.2.1.1, ()), ((d.2.2.1.1, ()), ((x11, ()), ((d.2.2.2.2.1.1, ()), ((x12, ()), ())))))))))
  else none)
  else (
  some ((), ((d.2.2.2.1.1, ()), (((none : Option Int), ()), ()))))
def f_figures_value_t : Nat → TT_figures_value
  | 0 => (fun _ => none, ())
  | k + 1 => (f_figures_value_p4 (f_figures_value_t k), ())
theorem t_figures_value (k : Nat) : f_figures_value_t (k + 1) = (f_figures_value_p4 (f_figures_value_t k), ()) := rfl
def f_figures_value_m (T : TT_figures_value) (d : Unit × ((ByteArray × Unit) × ((Int × Unit) × Unit))) : Option (Unit × ((Int × Unit) × (((Option Int) × Unit) × Unit))) :=
  let x1 : Int := (d.2.1.1.size : Int)
  (T.1 ((), ((d.2.1.1, ()), ((d.2.2.1.1, ()), (((0 : Int), ()), ((x1, ()), (((0 : Int), ()), ())))))))
def c_figures_value : List Nat := []
def L_figures_value (k : Nat) : Pts po_figures_value.den := [(4, ⟨sh_figures_value_4, (f_figures_value_t k).1⟩)]
def E_figures_value : Env := E0
theorem q_figures_value_4 (k : Nat) (d : Unit × ((ByteArray × Unit) × ((Int × Unit) × ((Int × Unit) × ((Int × Unit) × ((Int × Unit) × Unit)))))) : evAt E_figures_value (tab (L_figures_value k)) c_figures_value 4 (bodyOf Try.f32) 0 (finK E_figures_value po_figures_value [.tmp 4, .tmp 5]) (ptSt sh_figures_value_4 d) = f_figures_value_p4 (f_figures_value_t k) d := by kernel_rfl
theorem q_figures_value_m (k : Nat) (d : Unit × ((ByteArray × Unit) × ((Int × Unit) × Unit))) : evCode E_figures_value (tab (L_figures_value k)) c_figures_value (bodyOf Try.f32) 0 (finK E_figures_value po_figures_value [.tmp 4, .tmp 5]) (startSt pi_figures_value 32 d) = f_figures_value_m (f_figures_value_t k) d := by kernel_rfl
theorem go_figures_value (G : Unit × ((ByteArray × Unit) × ((Int × Unit) × Unit)) → Option (Unit × ((Int × Unit) × (((Option Int) × Unit) × Unit)))) (hG : ∀ d out, G d = some out → ∃ k, f_figures_value_m (f_figures_value_t k) d = some out) : FnOk Try.prog ET0 32 pi_figures_value po_figures_value G :=
  fn_of_body (E := E_figures_value) e0_ok (fn := Try.f32) Try.func32 (by kernel_rfl) (by kernel_rfl) [.tmp 4, .tmp 5] (by kernel_rfl) (by kernel_rfl) (by decide) rfl c_figures_value L_figures_value
    (by intro x hx d; simp only [L_figures_value, List.mem_cons, List.not_mem_nil, or_false] at hx; subst hx; rfl)
    (by intro k x hx d out h; simp only [L_figures_value, List.mem_cons, List.not_mem_nil, or_false] at hx; subst hx; exact (q_figures_value_4 k d).trans h)
    (by intro d out h; obtain ⟨k, hk⟩ := hG d out h; exact ⟨k, (q_figures_value_m k d).trans hk⟩)
def g_figures_value (d : Unit × ((ByteArray × Unit) × ((Int × Unit) × Unit))) : Option (Unit × ((Int × Unit) × (((Option Int) × Unit) × Unit))) := lim fun k => f_figures_value_m (f_figures_value_t k) d
theorem ok_figures_value : FnOk Try.prog ET0 32 pi_figures_value po_figures_value g_figures_value := go_figures_value g_figures_value fun d out h => lim_some h

/- horologe/figures.take -/
@[reducible] def pi_figures_take : PSh := ⟨[], [.mk false [.v .str], .mk false [.v (.int .i64)], .mk false [.v (.int .i64)], .mk false [.v (.int .u64)]]⟩
@[reducible] def po_figures_take : PSh := ⟨[], [.mk false [.v (.int .u64)], .mk false [.v (.int .i64)], .mk false [.v .err]]⟩
def f_figures_take_m (T : Unit) (d : Unit × ((ByteArray × Unit) × ((Int × Unit) × ((Int × Unit) × ((Int × Unit) × Unit))))) : Option (Unit × ((Int × Unit) × ((Int × Unit) × (((Option Int) × Unit) × Unit)))) :=
  let x1 : Bool := (decide (d.2.2.1.1 < (1 : Int)))
  bif x1 then (
  let x2 : (Option Int) := (some (1 : Int))
  some ((), (((0 : Int), ()), (((0 : Int), ()), ((x2, ()), ())))))
  else (
  let x3 : Bool := (decide (d.2.2.1.1 > d.2.2.2.1.1))
  bif x3 then (
  let x4 : (Option Int) := (some (1 : Int))
  some ((), (((0 : Int), ()), (((0 : Int), ()), ((x4, ()), ())))))
  else (
  let x5 : Bool := (decide (d.2.2.2.1.1 > (20 : Int)))
  bif x5 then (
  let x6 : (Option Int) := (some (1 : Int))
  some ((), (((0 : Int), ()), (((0 : Int), ()), ((x6, ()), ())))))
  else (
  (g_figures_run ((), ((d.2.1.1, ()), ((d.2.2.2.1.1, ()), ())))).bind fun x7 =>
  let x8 : Bool := (decide (x7.2.1.1 < d.2.2.1.1))
  bif x8 then (
  let x9 : (Option Int) := (some (2 : Int))
  some ((), (((0 : Int), ()), (((0 : Int), ()), ((x9, ()), ())))))
  else (
  bif decide ((0 : Int) ≤ (0 : Int)) && decide ((0 : Int) ≤ x7.2.1.1) && decide (x7.2.1.1 ≤ (d.2.1.1.size : Int)) then (
  let x10 : ByteArray := (d.2.1.1.extract (Int.toNat (0 : Int)) (Int.toNat x7.2.1.1))
  (g_figures_value ((), ((x10, ()), ((d.2.2.2.2.1.1, ()), ())))).bind fun x11 =>
  let x12 : Bool := (!x11.2.2.1.1.isNone)
  bif x12 then (
  some ((), (((0 : Int), ()), (((0 : Int), ()), ((x11.2.2.1.1, ()), ())))))
  else (
  some ((), ((x11.2.1.1, ()), ((x7.2.1.1, ()), (((none : Option Int), ()), ()))))))
  else none))))
def c_figures_take : List Nat := []
def L_figures_take (_ : Nat) : Pts po_figures_take.den := []
def E_figures_take : Env := ((E0.add 31 (typedSem pi_figures_run po_figures_run g_figures_run)).add 32 (typedSem pi_figures_value po_figures_value g_figures_value))
theorem q_figures_take_m (k : Nat) (d : Unit × ((ByteArray × Unit) × ((Int × Unit) × ((Int × Unit) × ((Int × Unit) × Unit))))) : evCode E_figures_take (tab (L_figures_take k)) c_figures_take (bodyOf Try.f21) 0 (finK E_figures_take po_figures_take [.tmp 8, .tmp 9, .tmp 10]) (startSt pi_figures_take 46 d) = f_figures_take_m () d := by kernel_rfl
def g_figures_take (d : Unit × ((ByteArray × Unit) × ((Int × Unit) × ((Int × Unit) × ((Int × Unit) × Unit))))) : Option (Unit × ((Int × Unit) × ((Int × Unit) × (((Option Int) × Unit) × Unit)))) := f_figures_take_m () d
theorem ok_figures_take : FnOk Try.prog ET0 21 pi_figures_take po_figures_take g_figures_take :=
  fn_of_body (E := E_figures_take) (envOk_add (envOk_add e0_ok (typed_ok ok_figures_run)) (typed_ok ok_figures_value)) (fn := Try.f21) Try.func21 (by kernel_rfl) (by kernel_rfl) [.tmp 8, .tmp 9, .tmp 10] (by kernel_rfl) (by kernel_rfl) (by decide) rfl c_figures_take L_figures_take
    (by intro x hx; cases hx) (by intro k x hx; cases hx) (fun d out h => ⟨0, (q_figures_take_m 0 d).trans h⟩)

/- horologe/figures.whole -/
@[reducible] def pi_figures_whole : PSh := ⟨[], [.mk false [.v .str], .mk false [.v (.int .i64)], .mk false [.v (.int .i64)], .mk false [.v (.int .u64)]]⟩
@[reducible] def po_figures_whole : PSh := ⟨[], [.mk false [.v (.int .u64)], .mk false [.v .err]]⟩
def f_figures_whole_m (T : Unit) (d : Unit × ((ByteArray × Unit) × ((Int × Unit) × ((Int × Unit) × ((Int × Unit) × Unit))))) : Option (Unit × ((Int × Unit) × (((Option Int) × Unit) × Unit))) :=
  (g_figures_take ((), ((d.2.1.1, ()), ((d.2.2.1.1, ()), ((d.2.2.2.1.1, ()), ((d.2.2.2.2.1.1, ()), ())))))).bind fun x1 =>
  let x2 : Bool := (!x1.2.2.2.1.1.isNone)
  bif x2 then (
  some ((), (((0 : Int), ()), ((x1.2.2.2.1.1, ()), ()))))
  else (
  let x3 : Int := (d.2.1.1.size : Int)
  let x4 : Bool := (decide (x1.2.2.1.1 < x3))
  bif x4 then (
  let x5 : (Option Int) := (some (2 : Int))
  some ((), (((0 : Int), ()), ((x5, ()), ()))))
  else (
  some ((), ((x1.2.1.1, ()), (((none : Option Int), ()), ())))))
def c_figures_whole : List Nat := []
def L_figures_whole (_ : Nat) : Pts po_figures_whole.den := []
def E_figures_whole : Env := (E0.add 21 (typedSem pi_figures_take po_figures_take g_figures_take))
theorem q_figures_whole_m (k : Nat) (d : Unit × ((ByteArray × Unit) × ((Int × Unit) × ((Int × Unit) × ((Int × Unit) × Unit))))) : evCode E_figures_whole (tab (L_figures_whole k)) c_figures_whole (bodyOf Try.f25) 0 (finK E_figures_whole po_figures_whole [.tmp 8, .tmp 9]) (startSt pi_figures_whole 33 d) = f_figures_whole_m () d := by kernel_rfl
def g_figures_whole (d : Unit × ((ByteArray × Unit) × ((Int × Unit) × ((Int × Unit) × ((Int × Unit) × Unit))))) : Option (Unit × ((Int × Unit) × (((Option Int) × Unit) × Unit))) := f_figures_whole_m () d
theorem ok_figures_whole : FnOk Try.prog ET0 25 pi_figures_whole po_figures_whole g_figures_whole :=
  fn_of_body (E := E_figures_whole) (envOk_add e0_ok (typed_ok ok_figures_take)) (fn := Try.f25) Try.func25 (by kernel_rfl) (by kernel_rfl) [.tmp 8, .tmp 9] (by kernel_rfl) (by kernel_rfl) (by decide) rfl c_figures_whole L_figures_whole
    (by intro x hx; cases hx) (by intro k x hx; cases hx) (fun d out h => ⟨0, (q_figures_whole_m 0 d).trans h⟩)

/- horologe/figures.Whole -/
@[reducible] def pi_figures_Whole : PSh := ⟨[], [.mk false [.v .str], .mk false [.v (.int .i64)], .mk false [.v (.int .i64)]]⟩
@[reducible] def po_figures_Whole : PSh := ⟨[], [.mk false [.v (.int .i64)], .mk false [.v .err]]⟩
def f_figures_Whole_m (T : Unit) (d : Unit × ((ByteArray × Unit) × ((Int × Unit) × ((Int × Unit) × Unit)))) : Option (Unit × ((Int × Unit) × (((Option Int) × Unit) × Unit))) :=
  (g_figures_whole ((), ((d.2.1.1, ()), ((d.2.2.1.1, ()), ((d.2.2.2.1.1, ()), (((9223372036854775807 : Int), ()), ())))))).bind fun x1 =>
  let x2 : Int := (iconv .i64 x1.2.1.1)
  some ((), ((x2, ()), ((x1.2.2.1.1, ()), ())))
def c_figures_Whole : List Nat := []
def L_figures_Whole (_ : Nat) : Pts po_figures_Whole.den := []
def E_figures_Whole : Env := (E0.add 25 (typedSem pi_figures_whole po_figures_whole g_figures_whole))
theorem q_figures_Whole_m (k : Nat) (d : Unit × ((ByteArray × Unit) × ((Int × Unit) × ((Int × Unit) × Unit)))) : evCode E_figures_Whole (tab (L_figures_Whole k)) c_figures_Whole (bodyOf Try.f14) 0 (finK E_figures_Whole po_figures_Whole [.tmp 6, .tmp 7]) (startSt pi_figures_Whole 20 d) = f_figures_Whole_m () d := by kernel_rfl
def g_figures_Whole (d : Unit × ((ByteArray × Unit) × ((Int × Unit) × ((Int × Unit) × Unit)))) : Option (Unit × ((Int × Unit) × (((Option Int) × Unit) × Unit))) := f_figures_Whole_m () d
theorem ok_figures_Whole : FnOk Try.prog ET0 14 pi_figures_Whole po_figures_Whole g_figures_Whole :=
  fn_of_body (E := E_figures_Whole) (envOk_add e0_ok (typed_ok ok_figures_whole)) (fn := Try.f14) Try.func14 (by kernel_rfl) (by kernel_rfl) [.tmp 6, .tmp 7] (by kernel_rfl) (by kernel_rfl) (by decide) rfl c_figures_Whole L_figures_Whole
    (by intro x hx; cases hx) (by intro k x hx; cases hx) (fun d out h => ⟨0, (q_figures_Whole_m 0 d).trans h⟩)

/- horologe/figures.Fraction -/
@[reducible] def pi_figures_Fraction : PSh := ⟨[], [.mk false [.v .str]]⟩
@[reducible] def po_figures_Fraction : PSh := ⟨[], [.mk false [.v (.int .i64)], .mk false [.v .err]]⟩
def f_figures_Fraction_m (T : Unit) (d : Unit × ((ByteArray × Unit) × Unit)) : Option (Unit × ((Int × Unit) × (((Option Int) × Unit) × Unit))) :=
  let x1 : Int := (d.2.1.1.size : Int)
  let x2 : Bool := (decide (x1 > (9 : Int)))
  bif x2 then (
  let x3 : (Option Int) := (some (3 : Int))
  some ((), (((0 : Int), ()), ((x3, ()), ()))))
  else (
  (g_figures_Whole ((), ((d.2.1.1, ()), (((1 : Int), ()), (((9 : Int), ()), ()))))).bind fun x4 =>
  let x5 : Bool := (!x4.2.2.1.1.isNone)
  bif x5 then (
  some ((), (((0 : Int), ()), ((x4.2.2.1.1, ()), ()))))
  else (
  let x6 : Int := (d.2.1.1.size : Int)
  let x7 : Int := (isub .i64 (9 : Int) x6)
  (g_strings_Repeat ((), (((⟨#[48]⟩ : ByteArray), ()), ((x7, ()), ())))).bind fun x8 =>
  bif decide (((d.2.1.1.size + x8.2.1.1.size : Nat) : Int) ≤ 9223372036854775807) then (
  let x9 : ByteArray := (d.2.1.1 ++ x8.2.1.1)
  (g_figures_Whole ((), ((x9, ()), (((9 : Int), ()), (((9 : Int), ()), ()))))).bind fun x10 =>
  some ((), ((x10.2.1.1, ()), ((x10.2.2.1.1, ()), ()))))
  else none))
def c_figures_Fraction : List Nat := []
def L_figures_Fraction (_ : Nat) : Pts po_figures_Fraction.den := []
def E_figures_Fraction : Env := ((E0.add 14 (typedSem pi_figures_Whole po_figures_Whole g_figures_Whole)).add 29 (typedSem pi_strings_Repeat po_strings_Repeat g_strings_Repeat))
theorem q_figures_Fraction_m (k : Nat) (d : Unit × ((ByteArray × Unit) × Unit)) : evCode E_figures_Fraction (tab (L_figures_Fraction k)) c_figures_Fraction (bodyOf Try.f18) 0 (finK E_figures_Fraction po_figures_Fraction [.tmp 2, .tmp 3]) (startSt pi_figures_Fraction 32 d) = f_figures_Fraction_m () d := by kernel_rfl
def g_figures_Fraction (d : Unit × ((ByteArray × Unit) × Unit)) : Option (Unit × ((Int × Unit) × (((Option Int) × Unit) × Unit))) := f_figures_Fraction_m () d
theorem ok_figures_Fraction : FnOk Try.prog ET0 18 pi_figures_Fraction po_figures_Fraction g_figures_Fraction :=
  fn_of_body (E := E_figures_Fraction) (envOk_add (envOk_add e0_ok (typed_ok ok_figures_Whole)) (typed_ok ok_strings_Repeat)) (fn := Try.f18) Try.func18 (by kernel_rfl) (by kernel_rfl) [.tmp 2, .tmp 3] (by kernel_rfl) (by kernel_rfl) (by decide) rfl c_figures_Fraction L_figures_Fraction
    (by intro x hx; cases hx) (by intro k x hx; cases hx) (fun d out h => ⟨0, (q_figures_Fraction_m 0 d).trans h⟩)

/- horologe/horologelaw02.alive -/
@[reducible] def pi_law02_alive : PSh := ⟨[], []⟩
@[reducible] def po_law02_alive : PSh := ⟨[], [.mk false [.v .bool]]⟩
def f_law02_alive_m (T : Unit) (d : Unit × Unit) : Option (Unit × ((Bool × Unit) × Unit)) :=
  (g_figures_Put ((), (((7 : Int), ()), (((2 : Int), ()), ())))).bind fun x1 =>
  (g_figures_Fraction ((), (((⟨#[48, 53]⟩ : ByteArray), ()), ()))).bind fun x2 =>
  bif x1.2.2.1.1.isNone then (
  bif x2.2.2.1.1.isNone then (
  let x3 : Bool := (x1.2.1.1.toList == (⟨#[48, 55]⟩ : ByteArray).toList)
  bif x3 then (
  let x4 : Bool := (x2.2.1.1 == (50000000 : Int))
  some ((), ((x4, ()), ())))
  else (
  some ((), ((false, ()), ()))))
  else (
  some ((), ((false, ()), ()))))
  else (
  some ((), ((false, ()), ())))
def c_law02_alive : List Nat := []
def L_law02_alive (_ : Nat) : Pts po_law02_alive.den := []
def E_law02_alive : Env := ((E0.add 7 (typedSem pi_figures_Put po_figures_Put g_figures_Put)).add 18 (typedSem pi_figures_Fraction po_figures_Fraction g_figures_Fraction))
theorem q_law02_alive_m (k : Nat) (d : Unit × Unit) : evCode E_law02_alive (tab (L_law02_alive k)) c_law02_alive (bodyOf Try.f6) 0 (finK E_law02_alive po_law02_alive [.tmp 0]) (startSt pi_law02_alive 27 d) = f_law02_alive_m () d := by kernel_rfl
def g_law02_alive (d : Unit × Unit) : Option (Unit × ((Bool × Unit) × Unit)) := f_law02_alive_m () d
theorem ok_law02_alive : FnOk Try.prog ET0 6 pi_law02_alive po_law02_alive g_law02_alive :=
  fn_of_body (E := E_law02_alive) (envOk_add (envOk_add e0_ok (typed_ok ok_figures_Put)) (typed_ok ok_figures_Fraction)) (fn := Try.f6) Try.func6 (by kernel_rfl) (by kernel_rfl) [.tmp 0] (by kernel_rfl) (by kernel_rfl) (by decide) rfl c_law02_alive L_law02_alive
    (by intro x hx; cases hx) (by intro k x hx; cases hx) (fun d out h => ⟨0, (q_law02_alive_m 0 d).trans h⟩)

/- horologe/horologeref02.Raw -/
@[reducible] def pi_ref02_Raw : PSh := ⟨[], [.mk false [.v (.int .i64)], .mk false [.v (.int .i64)]]⟩
@[reducible] def po_ref02_Raw : PSh := ⟨[], [.mk false [.v .str]]⟩
@[reducible] def TT_ref02_Raw : Type := (((Unit × ((Int × Unit) × ((Int × Unit) × ((ByteArray × Unit) × Unit)))) → Option (Unit × ((ByteArray × Unit) × Unit))) × (((Unit × ((Int × Unit) × ((ByteArray × Unit) × Unit))) → Option (Unit × ((ByteArray × Unit) × Unit))) × Unit))
@[reducible] def sh_ref02_Raw_3 : PSh := ⟨[], [.mk false [.v (.int .i64)], .mk false [.v (.int .i64)], .any, .any, .any, .mk false [.v .str], .any, .any, .any, .any, .any, .any, .any, .any, .any, .any, .any, .any, .any, .any, .any, .any, .any, .any, .any, .any, .any, .any, .any, .any]⟩
@[reducible] def sh_ref02_Raw_8 : PSh := ⟨[], [.any, .mk false [.v (.int .i64)], .any, .any, .any, .mk false [.v .str], .any, .any, .any, .any, .any, .any, .any, .any, .any, .any, .any, .any, .any, .any, .any, .any, .any, .any, .any, .any, .any, .any, .any, .any]⟩
def f_ref02_Raw_p3 (T : TT_ref02_Raw) (d : Unit × ((Int × Unit) × ((Int × Unit) × ((ByteArray × Unit) × Unit)))) : Option (Unit × ((ByteArray × Unit) × Unit)) :=
  let x1 : Bool := (decide (d.2.1.1 > (0 : Int)))
  bif x1 then (
  let x2 : Int := (Int.tmod d.2.1.1 (10 : Int))
  let x3 : Int := (iadd .i64 (48 : Int) x2)
  let x4 : Int := (iconv .u8 x3)
  let x5 : (List Int) := ([x4] : List Int)
  let x6 : ByteArray := (strOf x5)
  bif decide (((x6.size + d.2.2.2.1.1.size : Nat) : Int) ≤ 9223372036854775807) then (
  let x7 : ByteArray := (x6 ++ d.2.2.2.1.1)
  let x8 : Int := (iquo .i64 d.2.1.1 (10 : Int))
  (T.1 ((), ((x8, ()), ((d.2.2.1.1, ()), ((x7, ()), ()))))))
  else none)
  else (
  (T.2.1 ((), ((d.2.2.1.1, ()), ((d.2.2.2.1.1, ()), ())))))
def f_ref02_Raw_p8 (T : TT_ref02_Raw) (d : Unit × ((Int × Unit) × ((ByteArray × Unit) × Unit))) : Option (Unit × ((ByteArray × Unit) × Unit)) :=
  let x9 : Int := (d.2.2.1.1.size : Int)
  let x10 : Bool := (decide (x9 < d.2.1.1))
  bif x10 then (
  bif decide ((((⟨#[48]⟩ : ByteArray).size + d.2.2.1.1.size : Nat) : Int) ≤ 9223372036854775807) then (
  let x11 : ByteArray := ((⟨#[48]⟩ : ByteArray) ++ d.2.2.1.1)
  (T.2.1 ((), ((d.2.1.1, ()), ((x11, ()), ())))))
  else none)
  else (
  let x12 : Int := (d.2.2.1.1.size : Int)
  let x13 : Bool := (x12 == (0 : Int))
  bif x13 then (
  bif decide ((((⟨#[48]⟩ : ByteArray).size + d.2.2.1.1.size : Nat) : Int) ≤ 9223372036854775807) then (
  let x14 : ByteArray := ((⟨#[48]⟩ : ByteArray) ++ d.2.2.1.1)
  (T.2.1 ((), ((d.2.1.1, ()), ((x14, ()), ())))))
  else none)
  else (
  some ((), ((d.2.2.1.1, ()), ()))))
def f_ref02_Raw_t : Nat → TT_ref02_Raw
  | 0 => (fun _ => none, (fun _ => none, ()))
  | k + 1 => (f_ref02_Raw_p3 (f_ref02_Raw_t k), (f_ref02_Raw_p8 (f_ref02_Raw_t k), ()))
theorem t_ref02_Raw (k : Nat) : f_ref02_Raw_t (k + 1) = (f_ref02_Raw_p3 (f_ref02_Raw_t k), (f_ref02_Raw_p8 (f_ref02_Raw_t k), ())) := rfl
def f_ref02_Raw_m (T : TT_ref02_Raw) (d : Unit × ((Int × Unit) × ((Int × Unit) × Unit))) : Option (Unit × ((ByteArray × Unit) × Unit)) :=
  (T.1 ((), ((d.2.1.1, ()), ((d.2.2.1.1, ()), (((⟨#[]⟩ : ByteArray), ()), ())))))
def c_ref02_Raw : List Nat := []
def L_ref02_Raw (k : Nat) : Pts po_ref02_Raw.den := [(3, ⟨sh_ref02_Raw_3, (f_ref02_Raw_t k).1⟩), (8, ⟨sh_ref02_Raw_8, (f_ref02_Raw_t k).2.1⟩)]
def E_ref02_Raw : Env := E0
theorem q_ref02_Raw_3 (k : Nat) (d : Unit × ((Int × Unit) × ((Int × Unit) × ((ByteArray × Unit) × Unit)))) : evAt E_ref02_Raw (tab (L_ref02_Raw k)) c_ref02_Raw 3 (bodyOf Try.f20) 0 (finK E_ref02_Raw po_ref02_Raw [.tmp 4]) (ptSt sh_ref02_Raw_3 d) = f_ref02_Raw_p3 (f_ref02_Raw_t k) d := by kernel_rfl
theorem q_ref02_Raw_8 (k : Nat) (d : Unit × ((Int × Unit) × ((ByteArray × Unit) × Unit))) : evAt E_ref02_Raw (tab (L_ref02_Raw k)) c_ref02_Raw 8 (bodyOf Try.f20) 0 (finK E_ref02_Raw po_ref02_Raw [.tmp 4]) (ptSt sh_ref02_Raw_8 d) = f_ref02_Raw_p8 (f_ref02_Raw_t k) d := by kernel_rfl
theorem q_ref02_Raw_m (k : Nat) (d : Unit × ((Int × Unit) × ((Int × Unit) × Unit))) : evCode E_ref02_Raw (tab (L_ref02_Raw k)) c_ref02_Raw (bodyOf Try.f20) 0 (finK E_ref02_Raw po_ref02_Raw [.tmp 4]) (startSt pi_ref02_Raw 30 d) = f_ref02_Raw_m (f_ref02_Raw_t k) d := by kernel_rfl
theorem go_ref02_Raw (G : Unit × ((Int × Unit) × ((Int × Unit) × Unit)) → Option (Unit × ((ByteArray × Unit) × Unit))) (hG : ∀ d out, G d = some out → ∃ k, f_ref02_Raw_m (f_ref02_Raw_t k) d = some out) : FnOk Try.prog ET0 20 pi_ref02_Raw po_ref02_Raw G :=
  fn_of_body (E := E_ref02_Raw) e0_ok (fn := Try.f20) Try.func20 (by kernel_rfl) (by kernel_rfl) [.tmp 4] (by kernel_rfl) (by kernel_rfl) (by decide) rfl c_ref02_Raw L_ref02_Raw
    (by intro x hx d; simp only [L_ref02_Raw, List.mem_cons, List.not_mem_nil, or_false] at hx; rcases hx with rfl | rfl; rfl; rfl)
    (by intro k x hx d out h; simp only [L_ref02_Raw, List.mem_cons, List.not_mem_nil, or_false] at hx; rcases hx with rfl | rfl; exact (q_ref02_Raw_3 k d).trans h; exact (q_ref02_Raw_8 k d).trans h)
    (by intro d out h; obtain ⟨k, hk⟩ := hG d out h; exact ⟨k, (q_ref02_Raw_m k d).trans hk⟩)
def g_ref02_Raw (d : Unit × ((Int × Unit) × ((Int × Unit) × Unit))) : Option (Unit × ((ByteArray × Unit) × Unit)) := lim fun k => f_ref02_Raw_m (f_ref02_Raw_t k) d
theorem ok_ref02_Raw : FnOk Try.prog ET0 20 pi_ref02_Raw po_ref02_Raw g_ref02_Raw := go_ref02_Raw g_ref02_Raw fun d out h => lim_some h

/- horologe/horologeref02.Put -/
@[reducible] def pi_ref02_Put : PSh := ⟨[], [.mk false [.v (.int .i64)], .mk false [.v (.int .i64)]]⟩
@[reducible] def po_ref02_Put : PSh := ⟨[], [.mk false [.v .str], .mk false [.v (.int .i64)]]⟩
@[reducible] def TT_ref02_Put : Type := (((Unit × ((Int × Unit) × ((ByteArray × Unit) × Unit))) → Option (Unit × ((ByteArray × Unit) × ((Int × Unit) × Unit)))) × Unit)
@[reducible] def sh_ref02_Put_8 : PSh := ⟨[], [.any, .mk false [.v (.int .i64)], .any, .any, .any, .any, .mk false [.v .str], .any, .any, .any, .any, .any, .any, .any, .any, .any, .any, .any, .any, .any, .any, .any, .any, .any, .any, .any, .any, .any, .any, .any, .any, .any, .any]⟩
def f_ref02_Put_p8 (T : TT_ref02_Put) (d : Unit × ((Int × Unit) × ((ByteArray × Unit) × Unit))) : Option (Unit × ((ByteArray × Unit) × ((Int × Unit) × Unit))) :=
  let x9 : Int := (d.2.2.1.1.size : Int)
  let x10 : Bool := (decide (x9 < d.2.1.1))
  bif x10 then (
  bif decide ((((⟨#[48]⟩ : ByteArray).size + d.2.2.1.1.size : Nat) : Int) ≤ 9223372036854775807) then (
  let x11 : ByteArray := ((⟨#[48]⟩ : ByteArray) ++ d.2.2.1.1)
  (T.1 ((), ((d.2.1.1, ()), ((x11, ()), ())))))
  else none)
  else (
  bif decide ((((⟨#[45]⟩ : ByteArray).size + d.2.2.1.1.size : Nat) : Int) ≤ 9223372036854775807) then (
  let x12 : ByteArray := ((⟨#[45]⟩ : ByteArray) ++ d.2.2.1.1)
  some ((), ((x12, ()), (((0 : Int), ()), ()))))
  else none)
def f_ref02_Put_t : Nat → TT_ref02_Put
  | 0 => (fun _ => none, ())
  | k + 1 => (f_ref02_Put_p8 (f_ref02_Put_t k), ())
theorem t_ref02_Put (k : Nat) : f_ref02_Put_t (k + 1) = (f_ref02_Put_p8 (f_ref02_Put_t k), ()) := rfl
def f_ref02_Put_m (T : TT_ref02_Put) (d : Unit × ((Int × Unit) × ((Int × Unit) × Unit))) : Option (Unit × ((ByteArray × Unit) × ((Int × Unit) × Unit))) :=
  let x1 : Bool := (decide (d.2.2.1.1 < (0 : Int)))
  bif x1 then (
  some ((), (((⟨#[]⟩ : ByteArray), ()), (((1 : Int), ()), ()))))
  else (
  let x2 : Bool := (decide (d.2.2.1.1 > (20 : Int)))
  bif x2 then (
  some ((), (((⟨#[]⟩ : ByteArray), ()), (((1 : Int), ()), ()))))
  else (
  let x3 : Bool := (d.2.1.1 == (-9223372036854775808 : Int))
  bif x3 then (
  (T.1 ((), ((d.2.2.1.1, ()), (((⟨#[57, 50, 50, 51, 51, 55, 50, 48, 51, 54, 56, 53, 52, 55, 55, 53, 56, 48, 56]⟩ : ByteArray), ()), ())))))
  else (
  let x4 : Bool := (decide (d.2.1.1 < (0 : Int)))
  bif x4 then (
  let x5 : Int := (isub .i64 (0 : Int) d.2.1.1)
  (g_ref02_Raw ((), ((x5, ()), ((d.2.2.1.1, ()), ())))).bind fun x6 =>
  bif decide ((((⟨#[45]⟩ : ByteArray).size + x6.2.1.1.size : Nat) : Int) ≤ 9223372036854775807) then (
  let x7 : ByteArray := ((⟨#[45]⟩ : ByteArray) ++ x6.2.1.1)
  some ((), ((x7, ()), (((0 : Int), ()), ()))))
  else none)
  else (
  (g_ref02_Raw ((), ((d.2.1.1, ()), ((d.2.2.1.1, ()), ())))).bind fun x8 =>
  some ((), ((x8.2.1.1, ()), (((0 : Int), ()), ())))))))
def c_ref02_Put : List Nat := []
def L_ref02_Put (k : Nat) : Pts po_ref02_Put.den := [(8, ⟨sh_ref02_Put_8, (f_ref02_Put_t k).1⟩)]
def E_ref02_Put : Env := (E0.add 20 (typedSem pi_ref02_Raw po_ref02_Raw g_ref02_Raw))
theorem q_ref02_Put_8 (k : Nat) (d : Unit × ((Int × Unit) × ((ByteArray × Unit) × Unit))) : evAt E_ref02_Put (tab (L_ref02_Put k)) c_ref02_Put 8 (bodyOf Try.f8) 0 (finK E_ref02_Put po_ref02_Put [.tmp 4, .tmp 5]) (ptSt sh_ref02_Put_8 d) = f_ref02_Put_p8 (f_ref02_Put_t k) d := by kernel_rfl
theorem q_ref02_Put_m (k : Nat) (d : Unit × ((Int × Unit) × ((Int × Unit) × Unit))) : evCode E_ref02_Put (tab (L_ref02_Put k)) c_ref02_Put (bodyOf Try.f8) 0 (finK E_ref02_Put po_ref02_Put [.tmp 4, .tmp 5]) (startSt pi_ref02_Put 33 d) = f_ref02_Put_m (f_ref02_Put_t k) d := by kernel_rfl
theorem go_ref02_Put (G : Unit × ((Int × Unit) × ((Int × Unit) × Unit)) → Option (Unit × ((ByteArray × Unit) × ((Int × Unit) × Unit)))) (hG : ∀ d out, G d = some out → ∃ k, f_ref02_Put_m (f_ref02_Put_t k) d = some out) : FnOk Try.prog ET0 8 pi_ref02_Put po_ref02_Put G :=
  fn_of_body (E := E_ref02_Put) (envOk_add e0_ok (typed_ok ok_ref02_Raw)) (fn := Try.f8) Try.func8 (by kernel_rfl) (by kernel_rfl) [.tmp 4, .tmp 5] (by kernel_rfl) (by kernel_rfl) (by decide) rfl c_ref02_Put L_ref02_Put
    (by intro x hx d; simp only [L_ref02_Put, List.mem_cons, List.not_mem_nil, or_false] at hx; subst hx; rfl)
    (by intro k x hx d out h; simp only [L_ref02_Put, List.mem_cons, List.not_mem_nil, or_false] at hx; subst hx; exact (q_ref02_Put_8 k d).trans h)
    (by intro d out h; obtain ⟨k, hk⟩ := hG d out h; exact ⟨k, (q_ref02_Put_m k d).trans hk⟩)
def g_ref02_Put (d : Unit × ((Int × Unit) × ((Int × Unit) × Unit))) : Option (Unit × ((ByteArray × Unit) × ((Int × Unit) × Unit))) := lim fun k => f_ref02_Put_m (f_ref02_Put_t k) d
theorem ok_ref02_Put : FnOk Try.prog ET0 8 pi_ref02_Put po_ref02_Put g_ref02_Put := go_ref02_Put g_ref02_Put fun d out h => lim_some h

/- horologe/horologenum.Num -/
@[reducible] def pi_hnum_Num : PSh := ⟨[], [.mk false [.v .err]]⟩
@[reducible] def po_hnum_Num : PSh := ⟨[], [.mk false [.v (.int .i64)]]⟩
def f_hnum_Num_m (T : Unit) (d : Unit × (((Option Int) × Unit) × Unit)) : Option (Unit × ((Int × Unit) × Unit)) :=
  bif d.2.1.1.isNone then (
  some ((), (((0 : Int), ()), ())))
  else (
  bif d.2.1.1.isSome then (
  let x1 : Bool := ((d.2.1.1.getD 0) != (0 : Int))
  bif x1 then (
  some ((), (((d.2.1.1.getD 0), ()), ())))
  else (
  some ((), (((-1 : Int), ()), ()))))
  else (
  some ((), (((-1 : Int), ()), ()))))
def c_hnum_Num : List Nat := []
def L_hnum_Num (_ : Nat) : Pts po_hnum_Num.den := []
def E_hnum_Num : Env := E0
theorem q_hnum_Num_m (k : Nat) (d : Unit × (((Option Int) × Unit) × Unit)) : evCode E_hnum_Num (tab (L_hnum_Num k)) c_hnum_Num (bodyOf Try.f9) 0 (finK E_hnum_Num po_hnum_Num [.tmp 2]) (startSt pi_hnum_Num 18 d) = f_hnum_Num_m () d := by kernel_rfl
def g_hnum_Num (d : Unit × (((Option Int) × Unit) × Unit)) : Option (Unit × ((Int × Unit) × Unit)) := f_hnum_Num_m () d
theorem ok_hnum_Num : FnOk Try.prog ET0 9 pi_hnum_Num po_hnum_Num g_hnum_Num :=
  fn_of_body (E := E_hnum_Num) e0_ok (fn := Try.f9) Try.func9 (by kernel_rfl) (by kernel_rfl) [.tmp 2] (by kernel_rfl) (by kernel_rfl) (by decide) rfl c_hnum_Num L_hnum_Num
    (by intro x hx; cases hx) (by intro k x hx; cases hx) (fun d out h => ⟨0, (q_hnum_Num_m 0 d).trans h⟩)

/- horologe/horologeref02.Is -/
@[reducible] def pi_ref02_Is : PSh := ⟨[], [.mk false [.v (.int .u8)]]⟩
@[reducible] def po_ref02_Is : PSh := ⟨[], [.mk false [.v .bool]]⟩
@[reducible] def TT_ref02_Is : Type := (((Unit × ((Int × Unit) × ((Int × Unit) × Unit))) → Option (Unit × ((Bool × Unit) × Unit))) × Unit)
@[reducible] def sh_ref02_Is_3 : PSh := ⟨[], [.mk false [.v (.int .u8)], .any, .any, .mk false [.v (.int .u8)], .any, .any, .any, .any, .any, .any, .any]⟩
def f_ref02_Is_p3 (T : TT_ref02_Is) (d : Unit × ((Int × Unit) × ((Int × Unit) × Unit))) : Option (Unit × ((Bool × Unit) × Unit)) :=
  let x1 : Bool := (decide (d.2.2.1.1 ≤ (57 : Int)))
  bif x1 then (
  let x2 : Bool := (d.2.1.1 == d.2.2.1.1)
  bif x2 then (
  some ((), ((true, ()), ())))
  else (
  let x3 : Int := (iadd .u8 d.2.2.1.1 (1 : Int))
  (T.1 ((), ((d.2.1.1, ()), ((x3, ()), ()))))))
  else (
  some ((), ((false, ()), ())))
def f_ref02_Is_t : Nat → TT_ref02_Is
  | 0 => (fun _ => none, ())
  | k + 1 => (f_ref02_Is_p3 (f_ref02_Is_t k), ())
theorem t_ref02_Is (k : Nat) : f_ref02_Is_t (k + 1) = (f_ref02_Is_p3 (f_ref02_Is_t k), ()) := rfl
def f_ref02_Is_m (T : TT_ref02_Is) (d : Unit × ((Int × Unit) × Unit)) : Option (Unit × ((Bool × Unit) × Unit)) :=
  (T.1 ((), ((d.2.1.1, ()), (((48 : Int), ()), ()))))
def c_ref02_Is : List Nat := []
def L_ref02_Is (k : Nat) : Pts po_ref02_Is.den := [(3, ⟨sh_ref02_Is_3, (f_ref02_Is_t k).1⟩)]
def E_ref02_Is : Env := E0
theorem q_ref02_Is_3 (k : Nat) (d : Unit × ((Int × Unit) × ((Int × Unit) × Unit))) : evAt E_ref02_Is (tab (L_ref02_Is k)) c_ref02_Is 3 (bodyOf Try.f11) 0 (finK E_ref02_Is po_ref02_Is [.tmp 2]) (ptSt sh_ref02_Is_3 d) = f_ref02_Is_p3 (f_ref02_Is_t k) d := by kernel_rfl
theorem q_ref02_Is_m (k : Nat) (d : Unit × ((Int × Unit) × Unit)) : evCode E_ref02_Is (tab (L_ref02_Is k)) c_ref02_Is (bodyOf Try.f11) 0 (finK E_ref02_Is po_ref02_Is [.tmp 2]) (startSt pi_ref02_Is 11 d) = f_ref02_Is_m (f_ref02_Is_t k) d := by kernel_rfl
theorem go_ref02_Is (G : Unit × ((Int × Unit) × Unit) → Option (Unit × ((Bool × Unit) × Unit))) (hG : ∀ d out, G d = some out → ∃ k, f_ref02_Is_m (f_ref02_Is_t k) d = some out) : FnOk Try.prog ET0 11 pi_ref02_Is po_ref02_Is G :=
  fn_of_body (E := E_ref02_Is) e0_ok (fn := Try.f11) Try.func11 (by kernel_rfl) (by kernel_rfl) [.tmp 2] (by kernel_rfl) (by kernel_rfl) (by decide) rfl c_ref02_Is L_ref02_Is
    (by intro x hx d; simp only [L_ref02_Is, List.mem_cons, List.not_mem_nil, or_false] at hx; subst hx; rfl)
    (by intro k x hx d out h; simp only [L_ref02_Is, List.mem_cons, List.not_mem_nil, or_false] at hx; subst hx; exact (q_ref02_Is_3 k d).trans h)
    (by intro d out h; obtain ⟨k, hk⟩ := hG d out h; exact ⟨k, (q_ref02_Is_m k d).trans hk⟩)
def g_ref02_Is (d : Unit × ((Int × Unit) × Unit)) : Option (Unit × ((Bool × Unit) × Unit)) := lim fun k => f_ref02_Is_m (f_ref02_Is_t k) d
theorem ok_ref02_Is : FnOk Try.prog ET0 11 pi_ref02_Is po_ref02_Is g_ref02_Is := go_ref02_Is g_ref02_Is fun d out h => lim_some h

/- horologe/horologelaw02.FiguresPuts -/
@[reducible] def pi_law02_FiguresPuts : PSh := ⟨[], [.mk false [.v (.int .i64)], .mk false [.v (.int .i64)], .mk false [.v (.int .u8)]]⟩
@[reducible] def po_law02_FiguresPuts : PSh := ⟨[], [.mk false [.v .bool]]⟩
def f_law02_FiguresPuts_m (T : Unit) (d : Unit × ((Int × Unit) × ((Int × Unit) × ((Int × Unit) × Unit)))) : Option (Unit × ((Bool × Unit) × Unit)) :=
  (g_law02_alive ((), ())).bind fun x1 =>
  let x2 : Bool := (!x1.2.1.1)
  bif x2 then (
  some ((), ((false, ()), ())))
  else (
  (g_figures_Put ((), ((d.2.1.1, ()), ((d.2.2.1.1, ()), ())))).bind fun x3 =>
  (g_ref02_Put ((), ((d.2.1.1, ()), ((d.2.2.1.1, ()), ())))).bind fun x4 =>
  let x5 : Bool := (x3.2.1.1.toList == x4.2.1.1.toList)
  bif x5 then (
  (g_hnum_Num ((), ((x3.2.2.1.1, ()), ()))).bind fun x6 =>
  let x7 : Bool := (x6.2.1.1 == x4.2.2.1.1)
  bif x7 then (
  (g_figures_Is ((), ((d.2.2.2.1.1, ()), ()))).bind fun x8 =>
  (g_ref02_Is ((), ((d.2.2.2.1.1, ()), ()))).bind fun x9 =>
  let x10 : Bool := (x8.2.1.1 == x9.2.1.1)
  some ((), ((x10, ()), ())))
  else (
  some ((), ((false, ()), ()))))
  else (
  some ((), ((false, ()), ()))))
def c_law02_FiguresPuts : List Nat := []
def L_law02_FiguresPuts (_ : Nat) : Pts po_law02_FiguresPuts.den := []
def E_law02_FiguresPuts : Env := ((((((E0.add 6 (typedSem pi_law02_alive po_law02_alive g_law02_alive)).add 7 (typedSem pi_figures_Put po_figures_Put g_figures_Put)).add 8 (typedSem pi_ref02_Put po_ref02_Put g_ref02_Put)).add 9 (typedSem pi_hnum_Num po_hnum_Num g_hnum_Num)).add 10 (typedSem pi_figures_Is po_figures_Is g_figures_Is)).add 11 (typedSem pi_ref02_Is po_ref02_Is g_ref02_Is))
theorem q_law02_FiguresPuts_m (k : Nat) (d : Unit × ((Int × Unit) × ((Int × Unit) × ((Int × Unit) × Unit)))) : evCode E_law02_FiguresPuts (tab (L_law02_FiguresPuts k)) c_law02_FiguresPuts (bodyOf Try.f3) 0 (finK E_law02_FiguresPuts po_law02_FiguresPuts [.tmp 6]) (startSt pi_law02_FiguresPuts 41 d) = f_law02_FiguresPuts_m () d := by kernel_rfl
def g_law02_FiguresPuts (d : Unit × ((Int × Unit) × ((Int × Unit) × ((Int × Unit) × Unit)))) : Option (Unit × ((Bool × Unit) × Unit)) := f_law02_FiguresPuts_m () d
theorem ok_law02_FiguresPuts : FnOk Try.prog ET0 3 pi_law02_FiguresPuts po_law02_FiguresPuts g_law02_FiguresPuts :=
  fn_of_body (E := E_law02_FiguresPuts) (envOk_add (envOk_add (envOk_add (envOk_add (envOk_add (envOk_add e0_ok (typed_ok ok_law02_alive)) (typed_ok ok_figures_Put)) (typed_ok ok_ref02_Put)) (typed_ok ok_hnum_Num)) (typed_ok ok_figures_Is)) (typed_ok ok_ref02_Is)) (fn := Try.f3) Try.func3 (by kernel_rfl) (by kernel_rfl) [.tmp 6] (by kernel_rfl) (by kernel_rfl) (by decide) rfl c_law02_FiguresPuts L_law02_FiguresPuts
    (by intro x hx; cases hx) (by intro k x hx; cases hx) (fun d out h => ⟨0, (q_law02_FiguresPuts_m 0 d).trans h⟩)

/- horologe/figures.Take -/
@[reducible] def pi_figures_Take : PSh := ⟨[], [.mk false [.v .str], .mk false [.v (.int .i64)], .mk false [.v (.int .i64)]]⟩
@[reducible] def po_figures_Take : PSh := ⟨[], [.mk false [.v (.int .i64)], .mk false [.v (.int .i64)], .mk false [.v .err]]⟩
def f_figures_Take_m (T : Unit) (d : Unit × ((ByteArray × Unit) × ((Int × Unit) × ((Int × Unit) × Unit)))) : Option (Unit × ((Int × Unit) × ((Int × Unit) × (((Option Int) × Unit) × Unit)))) :=
  (g_figures_take ((), ((d.2.1.1, ()), ((d.2.2.1.1, ()), ((d.2.2.2.1.1, ()), (((9223372036854775807 : Int), ()), ())))))).bind fun x1 =>
  let x2 : Int := (iconv .i64 x1.2.1.1)
  some ((), ((x2, ()), ((x1.2.2.1.1, ()), ((x1.2.2.2.1.1, ()), ()))))
def c_figures_Take : List Nat := []
def L_figures_Take (_ : Nat) : Pts po_figures_Take.den := []
def E_figures_Take : Env := (E0.add 21 (typedSem pi_figures_take po_figures_take g_figures_take))
theorem q_figures_Take_m (k : Nat) (d : Unit × ((ByteArray × Unit) × ((Int × Unit) × ((Int × Unit) × Unit)))) : evCode E_figures_Take (tab (L_figures_Take k)) c_figures_Take (bodyOf Try.f12) 0 (finK E_figures_Take po_figures_Take [.tmp 6, .tmp 7, .tmp 8]) (startSt pi_figures_Take 24 d) = f_figures_Take_m () d := by kernel_rfl
def g_figures_Take (d : Unit × ((ByteArray × Unit) × ((Int × Unit) × ((Int × Unit) × Unit)))) : Option (Unit × ((Int × Unit) × ((Int × Unit) × (((Option Int) × Unit) × Unit)))) := f_figures_Take_m () d
theorem ok_figures_Take : FnOk Try.prog ET0 12 pi_figures_Take po_figures_Take g_figures_Take :=
  fn_of_body (E := E_figures_Take) (envOk_add e0_ok (typed_ok ok_figures_take)) (fn := Try.f12) Try.func12 (by kernel_rfl) (by kernel_rfl) [.tmp 6, .tmp 7, .tmp 8] (by kernel_rfl) (by kernel_rfl) (by decide) rfl c_figures_Take L_figures_Take
    (by intro x hx; cases hx) (by intro k x hx; cases hx) (fun d out h => ⟨0, (q_figures_Take_m 0 d).trans h⟩)

/- horologe/horologeref02.Many -/
@[reducible] def pi_ref02_Many : PSh := ⟨[], [.mk false [.v .str]]⟩
@[reducible] def po_ref02_Many : PSh := ⟨[], [.mk false [.v (.int .i64)]]⟩
@[reducible] def TT_ref02_Many : Type := (((Unit × ((ByteArray × Unit) × ((Int × Unit) × Unit))) → Option (Unit × ((Int × Unit) × Unit))) × Unit)
@[reducible] def sh_ref02_Many_3 : PSh := ⟨[], [.mk false [.v .str], .any, .any, .mk false [.v (.int .i64)], .any, .any, .any, .any, .any, .any, .any, .any, .any, .any, .any, .any, .any, .any]⟩
def f_ref02_Many_p3 (T : TT_ref02_Many) (d : Unit × ((ByteArray × Unit) × ((Int × Unit) × Unit))) : Option (Unit × ((Int × Unit) × Unit)) :=
  let x1 : Int := (d.2.1.1.size : Int)
  let x2 : Bool := (decide (d.2.2.1.1 < x1))
  bif x2 then (
  bif decide ((0 : Int) ≤ d.2.2.1.1) && decide (d.2.2.1.1 < ((d.2.1.1.size : Int) : Int)) then (
  let x3 : Int := (bt d.2.1.1 d.2.2.1.1)
  (g_ref02_Is ((), ((x3, ()), ()))).bind fun x4 =>
  let x5 : Bool := (!x4.2.1.1)
  bif x5 then (
  some ((), ((d.2.2.1.1, ()), ())))
  else (
  let x6 : Int := (iadd .i64 d.2.2.1.1 (1 : Int))
  (T.1 ((), ((d.2.1.1, ()), ((x6, ()), ()))))))
  else none)
  else (
  let x7 : Int := (d.2.1.1.size : Int)
  some ((), ((x7, ()), ())))
def f_ref02_Many_t : Nat → TT_ref02_Many
  | 0 => (fun _ => none, ())
  | k + 1 => (f_ref02_Many_p3 (f_ref02_Many_t k), ())
theorem t_ref02_Many (k : Nat) : f_ref02_Many_t (k + 1) = (f_ref02_Many_p3 (f_ref02_Many_t k), ()) := rfl
def f_ref02_Many_m (T : TT_ref02_Many) (d : Unit × ((ByteArray × Unit) × Unit)) : Option (Unit × ((Int × Unit) × Unit)) :=
  (T.1 ((), ((d.2.1.1, ()), (((0 : Int), ()), ()))))
def c_ref02_Many : List Nat := []
def L_ref02_Many (k : Nat) : Pts po_ref02_Many.den := [(3, ⟨sh_ref02_Many_3, (f_ref02_Many_t k).1⟩)]
def E_ref02_Many : Env := (E0.add 11 (typedSem pi_ref02_Is po_ref02_Is g_ref02_Is))
theorem q_ref02_Many_3 (k : Nat) (d : Unit × ((ByteArray × Unit) × ((Int × Unit) × Unit))) : evAt E_ref02_Many (tab (L_ref02_Many k)) c_ref02_Many 3 (bodyOf Try.f22) 0 (finK E_ref02_Many po_ref02_Many [.tmp 2]) (ptSt sh_ref02_Many_3 d) = f_ref02_Many_p3 (f_ref02_Many_t k) d := by kernel_rfl
theorem q_ref02_Many_m (k : Nat) (d : Unit × ((ByteArray × Unit) × Unit)) : evCode E_ref02_Many (tab (L_ref02_Many k)) c_ref02_Many (bodyOf Try.f22) 0 (finK E_ref02_Many po_ref02_Many [.tmp 2]) (startSt pi_ref02_Many 18 d) = f_ref02_Many_m (f_ref02_Many_t k) d := by kernel_rfl
theorem go_ref02_Many (G : Unit × ((ByteArray × Unit) × Unit) → Option (Unit × ((Int × Unit) × Unit))) (hG : ∀ d out, G d = some out → ∃ k, f_ref02_Many_m (f_ref02_Many_t k) d = some out) : FnOk Try.prog ET0 22 pi_ref02_Many po_ref02_Many G :=
  fn_of_body (E := E_ref02_Many) (envOk_add e0_ok (typed_ok ok_ref02_Is)) (fn := Try.f22) Try.func22 (by kernel_rfl) (by kernel_rfl) [.tmp 2] (by kernel_rfl) (by kernel_rfl) (by decide) rfl c_ref02_Many L_ref02_Many
    (by intro x hx d; simp only [L_ref02_Many, List.mem_cons, List.not_mem_nil, or_false] at hx; subst hx; rfl)
    (by intro k x hx d out h; simp only [L_ref02_Many, List.mem_cons, List.not_mem_nil, or_false] at hx; subst hx; exact (q_ref02_Many_3 k d).trans h)
    (by intro d out h; obtain ⟨k, hk⟩ := hG d out h; exact ⟨k, (q_ref02_Many_m k d).trans hk⟩)
def g_ref02_Many (d : Unit × ((ByteArray × Unit) × Unit)) : Option (Unit × ((Int × Unit) × Unit)) := lim fun k => f_ref02_Many_m (f_ref02_Many_t k) d
theorem ok_ref02_Many : FnOk Try.prog ET0 22 pi_ref02_Many po_ref02_Many g_ref02_Many := go_ref02_Many g_ref02_Many fun d out h => lim_some h

/- horologe/horologeref01.Of -/
@[reducible] def pi_ref01_Of : PSh := ⟨[], [.mk false [.v (.int .i64)]]⟩
@[reducible] def po_ref01_Of : PSh := ⟨[.row 48 (.int .u64)], [.mk true [.v .bool, .osl 0]]⟩
@[reducible] def TT_ref01_Of : Type := (((((Bool × Unit) × ((List Int) × ((List Int) × Unit))) × ((Int × Unit) × (Unit × (Unit × ((Bool × Unit) × Unit))))) → Option (((List Int) × Unit) × ((Bool × Unit) × Unit))) × Unit)
@[reducible] def sh_ref01_Of_4 : PSh := ⟨[.var 57 [.v .bool, .osl 1], .row 48 (.int .u64), .row 48 (.int .u64)], [.mk false [.v (.int .i64)], .any, .mk false [.ref 0 0], .mk false [.osl 2], .mk false [.v .bool], .any, .any, .any, .any, .any, .any, .any, .any, .any, .any, .any, .any, .any, .any, .any, .any, .any, .any, .any, .any, .any]⟩
def f_ref01_Of_p4 (T : TT_ref01_Of) (d : ((Bool × Unit) × ((List Int) × ((List Int) × Unit))) × ((Int × Unit) × (Unit × (Unit × ((Bool × Unit) × Unit))))) : Option (((List Int) × Unit) × ((Bool × Unit) × Unit)) :=
  let x2 : Bool := (d.2.1.1 != (0 : Int))
  bif x2 then (
  let x3 : Int := (Int.tmod d.2.1.1 (65536 : Int))
  let x4 : Bool := (decide (x3 < (0 : Int)))
  bif x4 then (
  let x5 : Int := (isub .i64 (0 : Int) x3)
  let x6 : Int := (iconv .u64 x5)
  let x7 : (List Int) := ([x6] : List Int)
  bif decide (((d.1.2.2.1.length + x7.length) * 8 : Nat) ≤ 140737488355328) && decide (d.1.2.2.1.length + x7.length ≤ 9223372036854775807) then (
  let x8 : (List Int) := (d.1.2.2.1 ++ x7)
  let x9 : Int := (iquo .i64 d.2.1.1 (65536 : Int))
  (T.1 (((d.1.1.1, ()), (d.1.2.1, (x8, ()))), ((x9, ()), ((), ((), ((d.2.2.2.2.1.1, ()), ())))))))
  else none)
  else (
  let x10 : Int := (iconv .u64 x3)
  let x11 : (List Int) := ([x10] : List Int)
  bif decide (((d.1.2.2.1.length + x11.length) * 8 : Nat) ≤ 140737488355328) && decide (d.1.2.2.1.length + x11.length ≤ 9223372036854775807) then (
  let x12 : (List Int) := (d.1.2.2.1 ++ x11)
  let x13 : Int := (iquo .i64 d.2.1.1 (65536 : Int))
  (T.1 (((d.1.1.1, ()), (d.1.2.1, (x12, ()))), ((x13, ()), ((), ((), ((d.2.2.2.2.1.1, ()), ())))))))
  else none))
  else (
  some ((d.1.2.2.1, ()), ((d.2.2.2.2.1.1, ()), ())))
def f_ref01_Of_t : Nat → TT_ref01_Of
  | 0 => (fun _ => none, ())
  | k + 1 => (f_ref01_Of_p4 (f_ref01_Of_t k), ())
theorem t_ref01_Of (k : Nat) : f_ref01_Of_t (k + 1) = (f_ref01_Of_p4 (f_ref01_Of_t k), ()) := rfl
def f_ref01_Of_m (T : TT_ref01_Of) (d : Unit × ((Int × Unit) × Unit)) : Option (((List Int) × Unit) × ((Bool × Unit) × Unit)) :=
  let x1 : Bool := (decide (d.2.1.1 < (0 : Int)))
  (T.1 (((false, ()), (([] : List Int), (([] : List Int), ()))), ((d.2.1.1, ()), ((), ((), ((x1, ()), ()))))))
def c_ref01_Of : List Nat := []
def L_ref01_Of (k : Nat) : Pts po_ref01_Of.den := [(4, ⟨sh_ref01_Of_4, (f_ref01_Of_t k).1⟩)]
def E_ref01_Of : Env := E0
theorem q_ref01_Of_4 (k : Nat) (d : ((Bool × Unit) × ((List Int) × ((List Int) × Unit))) × ((Int × Unit) × (Unit × (Unit × ((Bool × Unit) × Unit))))) : evAt E_ref01_Of (tab (L_ref01_Of k)) c_ref01_Of 4 (bodyOf Try.f33) 0 (finK E_ref01_Of po_ref01_Of [.cell 2 57]) (ptSt sh_ref01_Of_4 d) = f_ref01_Of_p4 (f_ref01_Of_t k) d := by kernel_rfl
theorem q_ref01_Of_m (k : Nat) (d : Unit × ((Int × Unit) × Unit)) : evCode E_ref01_Of (tab (L_ref01_Of k)) c_ref01_Of (bodyOf Try.f33) 0 (finK E_ref01_Of po_ref01_Of [.cell 2 57]) (startSt pi_ref01_Of 26 d) = f_ref01_Of_m (f_ref01_Of_t k) d := by kernel_rfl
theorem go_ref01_Of (G : Unit × ((Int × Unit) × Unit) → Option (((List Int) × Unit) × ((Bool × Unit) × Unit))) (hG : ∀ d out, G d = some out → ∃ k, f_ref01_Of_m (f_ref01_Of_t k) d = some out) : FnOk Try.prog ET0 33 pi_ref01_Of po_ref01_Of G :=
  fn_of_body (E := E_ref01_Of) e0_ok (fn := Try.f33) Try.func33 (by kernel_rfl) (by kernel_rfl) [.cell 2 57] (by kernel_rfl) (by kernel_rfl) (by decide) rfl c_ref01_Of L_ref01_Of
    (by intro x hx d; simp only [L_ref01_Of, List.mem_cons, List.not_mem_nil, or_false] at hx; subst hx; rfl)
    (by intro k x hx d out h; simp only [L_ref01_Of, List.mem_cons, List.not_mem_nil, or_false] at hx; subst hx; exact (q_ref01_Of_4 k d).trans h)
    (by intro d out h; obtain ⟨k, hk⟩ := hG d out h; exact ⟨k, (q_ref01_Of_m k d).trans hk⟩)
def g_ref01_Of (d : Unit × ((Int × Unit) × Unit)) : Option (((List Int) × Unit) × ((Bool × Unit) × Unit)) := lim fun k => f_ref01_Of_m (f_ref01_Of_t k) d
theorem ok_ref01_Of : FnOk Try.prog ET0 33 pi_ref01_Of po_ref01_Of g_ref01_Of := go_ref01_Of g_ref01_Of fun d out h => lim_some h

/- horologe/horologeref01.digit -/
@[reducible] def pi_ref01_digit : PSh := ⟨[], [.mk false [.v (.sl (.int .u64))], .mk false [.v (.int .i64)]]⟩
@[reducible] def po_ref01_digit : PSh := ⟨[], [.mk false [.v (.int .u64)]]⟩
def f_ref01_digit_m (T : Unit) (d : Unit × (((List Int) × Unit) × ((Int × Unit) × Unit))) : Option (Unit × ((Int × Unit) × Unit)) :=
  let x1 : Int := (d.2.1.1.length : Int)
  let x2 : Bool := (decide (d.2.2.1.1 < x1))
  bif x2 then (
  bif decide ((0 : Int) ≤ d.2.2.1.1) && decide (d.2.2.1.1 < (d.2.1.1.length : Int)) then (
  some ((), (((gd (.int .u64) d.2.1.1 d.2.2.1.1), ()), ())))
  else none)
  else (
  some ((), (((0 : Int), ()), ())))
def c_ref01_digit : List Nat := []
def L_ref01_digit (_ : Nat) : Pts po_ref01_digit.den := []
def E_ref01_digit : Env := E0
theorem q_ref01_digit_m (k : Nat) (d : Unit × (((List Int) × Unit) × ((Int × Unit) × Unit))) : evCode E_ref01_digit (tab (L_ref01_digit k)) c_ref01_digit (bodyOf Try.f54) 0 (finK E_ref01_digit po_ref01_digit [.tmp 4]) (startSt pi_ref01_digit 13 d) = f_ref01_digit_m () d := by kernel_rfl
def g_ref01_digit (d : Unit × (((List Int) × Unit) × ((Int × Unit) × Unit))) : Option (Unit × ((Int × Unit) × Unit)) := f_ref01_digit_m () d
theorem ok_ref01_digit : FnOk Try.prog ET0 54 pi_ref01_digit po_ref01_digit g_ref01_digit :=
  fn_of_body (E := E_ref01_digit) e0_ok (fn := Try.f54) Try.func54 (by kernel_rfl) (by kernel_rfl) [.tmp 4] (by kernel_rfl) (by kernel_rfl) (by decide) rfl c_ref01_digit L_ref01_digit
    (by intro x hx; cases hx) (by intro k x hx; cases hx) (fun d out h => ⟨0, (q_ref01_digit_m 0 d).trans h⟩)

/- horologe/horologeref01.less -/
@[reducible] def pi_ref01_less : PSh := ⟨[], [.mk false [.v (.sl (.int .u64))], .mk false [.v (.sl (.int .u64))]]⟩
@[reducible] def po_ref01_less : PSh := ⟨[], [.mk false [.v .bool]]⟩
@[reducible] def TT_ref01_less : Type := (((Unit × (((List Int) × Unit) × (((List Int) × Unit) × ((Int × Unit) × Unit)))) → Option (Unit × ((Bool × Unit) × Unit))) × Unit)
@[reducible] def sh_ref01_less_3 : PSh := ⟨[], [.mk false [.v (.sl (.int .u64))], .mk false [.v (.sl (.int .u64))], .any, .any, .any, .mk false [.v (.int .i64)], .any, .any, .any, .any, .any, .any, .any, .any, .any, .any, .any, .any, .any, .any, .any, .any, .any, .any, .any, .any, .any, .any, .any, .any]⟩
def f_ref01_less_p3 (T : TT_ref01_less) (d : Unit × (((List Int) × Unit) × (((List Int) × Unit) × ((Int × Unit) × Unit)))) : Option (Unit × ((Bool × Unit) × Unit)) :=
  let x5 : Bool := (decide (d.2.2.2.1.1 ≥ (0 : Int)))
  bif x5 then (
  (g_ref01_digit ((), ((d.2.1.1, ()), ((d.2.2.2.1.1, ()), ())))).bind fun x6 =>
  (g_ref01_digit ((), ((d.2.2.1.1, ()), ((d.2.2.2.1.1, ()), ())))).bind fun x7 =>
  let x8 : Bool := (x6.2.1.1 != x7.2.1.1)
  bif x8 then (
  (g_ref01_digit ((), ((d.2.1.1, ()), ((d.2.2.2.1.1, ()), ())))).bind fun x9 =>
  (g_ref01_digit ((), ((d.2.2.1.1, ()), ((d.2.2.2.1.1, ()), ())))).bind fun x10 =>
  let x11 : Bool := (decide (x9.2.1.1 < x10.2.1.1))
  some ((), ((x11, ()), ())))
  else (
  let x12 : Int := (isub .i64 d.2.2.2.1.1 (1 : Int))
  (T.1 ((), ((d.2.1.1, ()), ((d.2.2.1.1, ()), ((x12, ()), ())))))))
  else (
  some ((), ((false, ()), ())))
def f_ref01_less_t : Nat → TT_ref01_less
  | 0 => (fun _ => none, ())
  | k + 1 => (f_ref01_less_p3 (f_ref01_less_t k), ())
theorem t_ref01_less (k : Nat) : f_ref01_less_t (k + 1) = (f_ref01_less_p3 (f_ref01_less_t k), ()) := rfl
def f_ref01_less_m (T : TT_ref01_less) (d : Unit × (((List Int) × Unit) × (((List Int) × Unit) × Unit))) : Option (Unit × ((Bool × Unit) × Unit)) :=
  let x1 : Int := (d.2.1.1.length : Int)
  let x2 : Int := (d.2.2.1.1.length : Int)
  let x3 : Int := (if x2 > x1 then x2 else x1)
  let x4 : Int := (isub .i64 x3 (1 : Int))
  (T.1 ((), ((d.2.1.1, ()), ((d.2.2.1.1, ()), ((x4, ()), ())))))
def c_ref01_less : List Nat := []
def L_ref01_less (k : Nat) : Pts po_ref01_less.den := [(3, ⟨sh_ref01_less_3, (f_ref01_less_t k).1⟩)]
def E_ref01_less : Env := (E0.add 54 (typedSem pi_ref01_digit po_ref01_digit g_ref01_digit))
theorem q_ref01_less_3 (k : Nat) (d : Unit × (((List Int) × Unit) × (((List Int) × Unit) × ((Int × Unit) × Unit)))) : evAt E_ref01_less (tab (L_ref01_less k)) c_ref01_less 3 (bodyOf Try.f45) 0 (finK E_ref01_less po_ref01_less [.tmp 4]) (ptSt sh_ref01_less_3 d) = f_ref01_less_p3 (f_ref01_less_t k) d := by kernel_rfl
theorem q_ref01_less_m (k : Nat) (d : Unit × (((List Int) × Unit) × (((List Int) × Unit) × Unit))) : evCode E_ref01_less (tab (L_ref01_less k)) c_ref01_less (bodyOf Try.f45) 0 (finK E_ref01_less po_ref01_less [.tmp 4]) (startSt pi_ref01_less 30 d) = f_ref01_less_m (f_ref01_less_t k) d := by kernel_rfl
theorem go_ref01_less (G : Unit × (((List Int) × Unit) × (((List Int) × Unit) × Unit)) → Option (Unit × ((Bool × Unit) × Unit))) (hG : ∀ d out, G d = some out → ∃ k, f_ref01_less_m (f_ref01_less_t k) d = some out) : FnOk Try.prog ET0 45 pi_ref01_less po_ref01_less G :=
  fn_of_body (E := E_ref01_less) (envOk_add e0_ok (typed_ok ok_ref01_digit)) (fn := Try.f45) Try.func45 (by kernel_rfl) (by kernel_rfl) [.tmp 4] (by kernel_rfl) (by kernel_rfl) (by decide) rfl c_ref01_less L_ref01_less
    (by intro x hx d; simp only [L_ref01_less, List.mem_cons, List.not_mem_nil, or_false] at hx; subst hx; rfl)
    (by intro k x hx d out h; simp only [L_ref01_less, List.mem_cons, List.not_mem_nil, or_false] at hx; subst hx; exact (q_ref01_less_3 k d).trans h)
    (by intro d out h; obtain ⟨k, hk⟩ := hG d out h; exact ⟨k, (q_ref01_less_m k d).trans hk⟩)
def g_ref01_less (d : Unit × (((List Int) × Unit) × (((List Int) × Unit) × Unit))) : Option (Unit × ((Bool × Unit) × Unit)) := lim fun k => f_ref01_less_m (f_ref01_less_t k) d
theorem ok_ref01_less : FnOk Try.prog ET0 45 pi_ref01_less po_ref01_less g_ref01_less := go_ref01_less g_ref01_less fun d out h => lim_some h

/- horologe/horologeref01.Less -/
@[reducible] def pi_ref01_Less : PSh := ⟨[], [.mk true [.v .bool, .v (.sl (.int .u64))], .mk true [.v .bool, .v (.sl (.int .u64))]]⟩
@[reducible] def po_ref01_Less : PSh := ⟨[], [.mk false [.v .bool]]⟩
def f_ref01_Less_m (T : Unit) (d : Unit × ((Bool × ((List Int) × Unit)) × ((Bool × ((List Int) × Unit)) × Unit))) : Option (Unit × ((Bool × Unit) × Unit)) :=
  let x1 : Bool := (!(d.2.1.1 == d.2.2.1.1))
  bif x1 then (
  some ((), ((d.2.1.1, ()), ())))
  else (
  bif d.2.1.1 then (
  (g_ref01_less ((), ((d.2.2.1.2.1, ()), ((d.2.1.2.1, ()), ())))).bind fun x2 =>
  some ((), ((x2.2.1.1, ()), ())))
  else (
  (g_ref01_less ((), ((d.2.1.2.1, ()), ((d.2.2.1.2.1, ()), ())))).bind fun x3 =>
  some ((), ((x3.2.1.1, ()), ()))))
def c_ref01_Less : List Nat := []
def L_ref01_Less (_ : Nat) : Pts po_ref01_Less.den := []
def E_ref01_Less : Env := (E0.add 45 (typedSem pi_ref01_less po_ref01_less g_ref01_less))
theorem q_ref01_Less_m (k : Nat) (d : Unit × ((Bool × ((List Int) × Unit)) × ((Bool × ((List Int) × Unit)) × Unit))) : evCode E_ref01_Less (tab (L_ref01_Less k)) c_ref01_Less (bodyOf Try.f34) 0 (finK E_ref01_Less po_ref01_Less [.tmp 4]) (startSt pi_ref01_Less 24 d) = f_ref01_Less_m () d := by kernel_rfl
def g_ref01_Less (d : Unit × ((Bool × ((List Int) × Unit)) × ((Bool × ((List Int) × Unit)) × Unit))) : Option (Unit × ((Bool × Unit) × Unit)) := f_ref01_Less_m () d
theorem ok_ref01_Less : FnOk Try.prog ET0 34 pi_ref01_Less po_ref01_Less g_ref01_Less :=
  fn_of_body (E := E_ref01_Less) (envOk_add e0_ok (typed_ok ok_ref01_less)) (fn := Try.f34) Try.func34 (by kernel_rfl) (by kernel_rfl) [.tmp 4] (by kernel_rfl) (by kernel_rfl) (by decide) rfl c_ref01_Less L_ref01_Less
    (by intro x hx; cases hx) (by intro k x hx; cases hx) (fun d out h => ⟨0, (q_ref01_Less_m 0 d).trans h⟩)

/- horologe/horologeref01.Small -/
@[reducible] def pi_ref01_Small : PSh := ⟨[], [.mk true [.v .bool, .v (.sl (.int .u64))]]⟩
@[reducible] def po_ref01_Small : PSh := ⟨[], [.mk false [.v (.int .i64)], .mk false [.v (.int .i64)]]⟩
@[reducible] def TT_ref01_Small : Type := (((((Bool × ((List Int) × Unit)) × Unit) × (Unit × ((Int × Unit) × ((Int × Unit) × Unit)))) → Option (Unit × ((Int × Unit) × ((Int × Unit) × Unit)))) × Unit)
@[reducible] def sh_ref01_Small_8 : PSh := ⟨[.var 57 [.v .bool, .v (.sl (.int .u64))]], [.any, .mk false [.ref 0 0], .any, .any, .any, .any, .mk false [.v (.int .i64)], .mk false [.v (.int .i64)], .any, .any, .any, .any, .any, .any, .any, .any, .any, .any, .any, .any, .any, .any, .any, .any, .any, .any, .any, .any, .any, .any, .any, .any, .any, .any, .any, .any, .any, .any, .any, .any, .any, .any, .any, .any, .any, .any, .any]⟩
def f_ref01_Small_p8 (T : TT_ref01_Small) (d : ((Bool × ((List Int) × Unit)) × Unit) × (Unit × ((Int × Unit) × ((Int × Unit) × Unit)))) : Option (Unit × ((Int × Unit) × ((Int × Unit) × Unit))) :=
  let x7 : Bool := (decide (d.2.2.2.1.1 ≥ (0 : Int)))
  bif x7 then (
  let x8 : Int := (imul .i64 d.2.2.1.1 (65536 : Int))
  bif d.1.1.1 then (
  bif decide ((0 : Int) ≤ d.2.2.2.1.1) && decide (d.2.2.2.1.1 < (d.1.1.2.1.length : Int)) then (
  let x9 : Int := (iconv .i64 (gd (.int .u64) d.1.1.2.1 d.2.2.2.1.1))
  let x10 : Int := (isub .i64 x8 x9)
  let x11 : Int := (isub .i64 d.2.2.2.1.1 (1 : Int))
  (T.1 (((d.1.1.1, (d.1.1.2.1, ())), ()), ((), ((x10, ()), ((x11, ()), ()))))))
  else none)
  else (
  bif decide ((0 : Int) ≤ d.2.2.2.1.1) && decide (d.2.2.2.1.1 < (d.1.1.2.1.length : Int)) then (
  let x12 : Int := (iconv .i64 (gd (.int .u64) d.1.1.2.1 d.2.2.2.1.1))
  let x13 : Int := (iadd .i64 x8 x12)
  let x14 : Int := (isub .i64 d.2.2.2.1.1 (1 : Int))
  (T.1 (((d.1.1.1, (d.1.1.2.1, ())), ()), ((), ((x13, ()), ((x14, ()), ()))))))
  else none))
  else (
  some ((), ((d.2.2.1.1, ()), (((0 : Int), ()), ()))))
def f_ref01_Small_t : Nat → TT_ref01_Small
  | 0 => (fun _ => none, ())
  | k + 1 => (f_ref01_Small_p8 (f_ref01_Small_t k), ())
theorem t_ref01_Small (k : Nat) : f_ref01_Small_t (k + 1) = (f_ref01_Small_p8 (f_ref01_Small_t k), ()) := rfl
def f_ref01_Small_m (T : TT_ref01_Small) (d : Unit × ((Bool × ((List Int) × Unit)) × Unit)) : Option (Unit × ((Int × Unit) × ((Int × Unit) × Unit))) :=
  (g_ref01_Of ((), (((-9223372036854775808 : Int), ()), ()))).bind fun x1 =>
  (g_ref01_Of ((), (((9223372036854775807 : Int), ()), ()))).bind fun x2 =>
  (g_ref01_Less ((), ((d.2.1.1, (d.2.1.2.1, ())), ((x1.2.1.1, (x1.1.1, ())), ())))).bind fun x3 =>
  bif x3.2.1.1 then (
  some ((), (((0 : Int), ()), (((5 : Int), ()), ()))))
  else (
  (g_ref01_Less ((), ((x2.2.1.1, (x2.1.1, ())), ((d.2.1.1, (d.2.1.2.1, ())), ())))).bind fun x4 =>
  bif x4.2.1.1 then (
  some ((), (((0 : Int), ()), (((5 : Int), ()), ()))))
  else (
  let x5 : Int := (d.2.1.2.1.length : Int)
  let x6 : Int := (isub .i64 x5 (1 : Int))
  (T.1 (((d.2.1.1, (d.2.1.2.1, ())), ()), ((), (((0 : Int), ()), ((x6, ()), ())))))))
def c_ref01_Small : List Nat := []
def L_ref01_Small (k : Nat) : Pts po_ref01_Small.den := [(8, ⟨sh_ref01_Small_8, (f_ref01_Small_t k).1⟩)]
def E_ref01_Small : Env := ((E0.add 33 (typedSem pi_ref01_Of po_ref01_Of g_ref01_Of)).add 34 (typedSem pi_ref01_Less po_ref01_Less g_ref01_Less))
theorem q_ref01_Small_8 (k : Nat) (d : ((Bool × ((List Int) × Unit)) × Unit) × (Unit × ((Int × Unit) × ((Int × Unit) × Unit)))) : evAt E_ref01_Small (tab (L_ref01_Small k)) c_ref01_Small 8 (bodyOf Try.f23) 0 (finK E_ref01_Small po_ref01_Small [.tmp 2, .tmp 3]) (ptSt sh_ref01_Small_8 d) = f_ref01_Small_p8 (f_ref01_Small_t k) d := by kernel_rfl
theorem q_ref01_Small_m (k : Nat) (d : Unit × ((Bool × ((List Int) × Unit)) × Unit)) : evCode E_ref01_Small (tab (L_ref01_Small k)) c_ref01_Small (bodyOf Try.f23) 0 (finK E_ref01_Small po_ref01_Small [.tmp 2, .tmp 3]) (startSt pi_ref01_Small 47 d) = f_ref01_Small_m (f_ref01_Small_t k) d := by kernel_rfl
theorem go_ref01_Small (G : Unit × ((Bool × ((List Int) × Unit)) × Unit) → Option (Unit × ((Int × Unit) × ((Int × Unit) × Unit)))) (hG : ∀ d out, G d = some out → ∃ k, f_ref01_Small_m (f_ref01_Small_t k) d = some out) : FnOk Try.prog ET0 23 pi_ref01_Small po_ref01_Small G :=
  fn_of_body (E := E_ref01_Small) (envOk_add (envOk_add e0_ok (typed_ok ok_ref01_Of)) (typed_ok ok_ref01_Less)) (fn := Try.f23) Try.func23 (by kernel_rfl) (by kernel_rfl) [.tmp 2, .tmp 3] (by kernel_rfl) (by kernel_rfl) (by decide) rfl c_ref01_Small L_ref01_Small
    (by intro x hx d; simp only [L_ref01_Small, List.mem_cons, List.not_mem_nil, or_false] at hx; subst hx; rfl)
    (by intro k x hx d out h; simp only [L_ref01_Small, List.mem_cons, List.not_mem_nil, or_false] at hx; subst hx; exact (q_ref01_Small_8 k d).trans h)
    (by intro d out h; obtain ⟨k, hk⟩ := hG d out h; exact ⟨k, (q_ref01_Small_m k d).trans hk⟩)
def g_ref01_Small (d : Unit × ((Bool × ((List Int) × Unit)) × Unit)) : Option (Unit × ((Int × Unit) × ((Int × Unit) × Unit))) := lim fun k => f_ref01_Small_m (f_ref01_Small_t k) d
theorem ok_ref01_Small : FnOk Try.prog ET0 23 pi_ref01_Small po_ref01_Small g_ref01_Small := go_ref01_Small g_ref01_Small fun d out h => lim_some h

/- horologe/horologeref01.plus -/
@[reducible] def pi_ref01_plus : PSh := ⟨[], [.mk false [.v (.sl (.int .u64))], .mk false [.v (.sl (.int .u64))]]⟩
@[reducible] def po_ref01_plus : PSh := ⟨[.row 48 (.int .u64)], [.mk false [.osl 0]]⟩
@[reducible] def TT_ref01_plus : Type := (((((List Int) × Unit) × (((List Int) × Unit) × (((List Int) × Unit) × (Unit × ((Int × Unit) × ((Int × Unit) × Unit)))))) → Option (((List Int) × Unit) × (Unit × Unit))) × Unit)
@[reducible] def sh_ref01_plus_5 : PSh := ⟨[.row 48 (.int .u64)], [.mk false [.v (.sl (.int .u64))], .mk false [.v (.sl (.int .u64))], .any, .any, .any, .mk false [.osl 0], .mk false [.v (.int .u64)], .mk false [.v (.int .i64)], .any, .any, .any, .any, .any, .any, .any, .any, .any, .any, .any, .any, .any, .any, .any, .any, .any, .any, .any, .any, .any, .any, .any, .any, .any, .any, .any, .any, .any, .any, .any, .any, .any, .any]⟩
def f_ref01_plus_p5 (T : TT_ref01_plus) (d : ((List Int) × Unit) × (((List Int) × Unit) × (((List Int) × Unit) × (Unit × ((Int × Unit) × ((Int × Unit) × Unit)))))) : Option (((List Int) × Unit) × (Unit × Unit)) :=
  let x1 : Int := (d.2.1.1.length : Int)
  let x2 : Bool := (decide (d.2.2.2.2.2.1.1 < x1))
  bif x2 then (
  (g_ref01_digit ((), ((d.2.1.1, ()), ((d.2.2.2.2.2.1.1, ()), ())))).bind fun x3 =>
  (g_ref01_digit ((), ((d.2.2.1.1, ()), ((d.2.2.2.2.2.1.1, ()), ())))).bind fun x4 =>
  let x5 : Int := (iadd .u64 x3.2.1.1 x4.2.1.1)
  let x6 : Int := (iadd .u64 x5 d.2.2.2.2.1.1)
  let x7 : Int := (Int.tmod x6 (65536 : Int))
  let x8 : (List Int) := ([x7] : List Int)
  bif decide (((d.1.1.length + x8.length) * 8 : Nat) ≤ 140737488355328) && decide (d.1.1.length + x8.length ≤ 9223372036854775807) then (
  let x9 : (List Int) := (d.1.1 ++ x8)
  let x10 : Int := (iquo .u64 x6 (65536 : Int))
  let x11 : Int := (iadd .i64 d.2.2.2.2.2.1.1 (1 : Int))
  (T.1 ((x9, ()), ((d.2.1.1, ()), ((d.2.2.1.1, ()), ((), ((x10, ()), ((x11, ()), ()))))))))
  else none)
  else (
  let x12 : Int := (d.2.2.1.1.length : Int)
  let x13 : Bool := (decide (d.2.2.2.2.2.1.1 < x12))
  bif x13 then (
  (g_ref01_digit ((), ((d.2.1.1, ()), ((d.2.2.2.2.2.1.1, ()), ())))).bind fun x14 =>
  (g_ref01_digit ((), ((d.2.2.1.1, ()), ((d.2.2.2.2.2.1.1, ()), ())))).bind fun x15 =>
  let x16 : Int := (iadd .u64 x14.2.1.1 x15.2.1.1)
  let x17 : Int := (iadd .u64 x16 d.2.2.2.2.1.1)
  let x18 : Int := (Int.tmod x17 (65536 : Int))
  let x19 : (List Int) := ([x18] : List Int)
  bif decide (((d.1.1.length + x19.length) * 8 : Nat) ≤ 140737488355328) && decide (d.1.1.length + x19.length ≤ 9223372036854775807) then (
  let x20 : (List Int) := (d.1.1 ++ x19)
  let x21 : Int := (iquo .u64 x17 (65536 : Int))
  let x22 : Int := (iadd .i64 d.2.2.2.2.2.1.1 (1 : Int))
  (T.1 ((x20, ()), ((d.2.1.1, ()), ((d.2.2.1.1, ()), ((), ((x21, ()), ((x22, ()), ()))))))))
  else none)
  else (
  let x23 : Bool := (decide (d.2.2.2.2.1.1 > (0 : Int)))
  bif x23 then (
  (g_ref01_digit ((), ((d.2.1.1, ()), ((d.2.2.2.2.2.1.1, ()), ())))).bind fun x24 =>
  (g_ref01_digit ((), ((d.2.2.1.1, ()), ((d.2.2.2.2.2.1.1, ()), ())))).bind fun x25 =>
  let x26 : Int := (iadd .u64 x24.2.1.1 x25.2.1.1)
  let x27 : Int := (iadd .u64 x26 d.2.2.2.2.1.1)
  let x28 : Int := (Int.tmod x27 (65536 : Int))
  let x29 : (List Int) := ([x28] : List Int)
  bif decide (((d.1.1.length + x29.length) * 8 : Nat) ≤ 140737488355328) && decide (d.1.1.length + x29.length ≤ 9223372036854775807) then (
  let x30 : (List Int) := (d.1.1 ++ x29)
  let x31 : Int := (iquo .u64 x27 (65536 : Int))
  let x32 : Int := (iadd .i64 d.2.2.2.2.2.1.1 (1 : Int))
  (T.1 ((x30, ()), ((d.2.1.1, ()), ((d.2.2.1.1, ()), ((), ((x31, ()), ((x32, ()), ()))))))))
  else none)
  else (
  some ((d.1.1, ()), ((), ())))))
def f_ref01_plus_t : Nat → TT_ref01_plus
  | 0 => (fun _ => none, ())
  | k + 1 => (f_ref01_plus_p5 (f_ref01_plus_t k), ())
theorem t_ref01_plus (k : Nat) : f_ref01_plus_t (k + 1) = (f_ref01_plus_p5 (f_ref01_plus_t k), ()) := rfl
def f_ref01_plus_m (T : TT_ref01_plus) (d : Unit × (((List Int) × Unit) × (((List Int) × Unit) × Unit))) : Option (((List Int) × Unit) × (Unit × Unit)) :=
  (T.1 ((([] : List Int), ()), ((d.2.1.1, ()), ((d.2.2.1.1, ()), ((), (((0 : Int), ()), (((0 : Int), ()), ())))))))
def c_ref01_plus : List Nat := []
def L_ref01_plus (k : Nat) : Pts po_ref01_plus.den := [(5, ⟨sh_ref01_plus_5, (f_ref01_plus_t k).1⟩)]
def E_ref01_plus : Env := (E0.add 54 (typedSem pi_ref01_digit po_ref01_digit g_ref01_digit))
theorem q_ref01_plus_5 (k : Nat) (d : ((List Int) × Unit) × (((List Int) × Unit) × (((List Int) × Unit) × (Unit × ((Int × Unit) × ((Int × Unit) × Unit)))))) : evAt E_ref01_plus (tab (L_ref01_plus k)) c_ref01_plus 5 (bodyOf Try.f46) 0 (finK E_ref01_plus po_ref01_plus [.tmp 4]) (ptSt sh_ref01_plus_5 d) = f_ref01_plus_p5 (f_ref01_plus_t k) d := by kernel_rfl
theorem q_ref01_plus_m (k : Nat) (d : Unit × (((List Int) × Unit) × (((List Int) × Unit) × Unit))) : evCode E_ref01_plus (tab (L_ref01_plus k)) c_ref01_plus (bodyOf Try.f46) 0 (finK E_ref01_plus po_ref01_plus [.tmp 4]) (startSt pi_ref01_plus 42 d) = f_ref01_plus_m (f_ref01_plus_t k) d := by kernel_rfl
theorem go_ref01_plus (G : Unit × (((List Int) × Unit) × (((List Int) × Unit) × Unit)) → Option (((List Int) × Unit) × (Unit × Unit))) (hG : ∀ d out, G d = some out → ∃ k, f_ref01_plus_m (f_ref01_plus_t k) d = some out) : FnOk Try.prog ET0 46 pi_ref01_plus po_ref01_plus G :=
  fn_of_body (E := E_ref01_plus) (envOk_add e0_ok (typed_ok ok_ref01_digit)) (fn := Try.f46) Try.func46 (by kernel_rfl) (by kernel_rfl) [.tmp 4] (by kernel_rfl) (by kernel_rfl) (by decide) rfl c_ref01_plus L_ref01_plus
    (by intro x hx d; simp only [L_ref01_plus, List.mem_cons, List.not_mem_nil, or_false] at hx; subst hx; rfl)
    (by intro k x hx d out h; simp only [L_ref01_plus, List.mem_cons, List.not_mem_nil, or_false] at hx; subst hx; exact (q_ref01_plus_5 k d).trans h)
    (by intro d out h; obtain ⟨k, hk⟩ := hG d out h; exact ⟨k, (q_ref01_plus_m k d).trans hk⟩)
def g_ref01_plus (d : Unit × (((List Int) × Unit) × (((List Int) × Unit) × Unit))) : Option (((List Int) × Unit) × (Unit × Unit)) := lim fun k => f_ref01_plus_m (f_ref01_plus_t k) d
theorem ok_ref01_plus : FnOk Try.prog ET0 46 pi_ref01_plus po_ref01_plus g_ref01_plus := go_ref01_plus g_ref01_plus fun d out h => lim_some h

/- horologe/horologeref01.cut -/
@[reducible] def pi_ref01_cut : PSh := ⟨[], [.mk false [.v (.sl (.int .u64))]]⟩
@[reducible] def po_ref01_cut : PSh := ⟨[], [.mk false [.v (.sl (.int .u64))]]⟩
@[reducible] def TT_ref01_cut : Type := (((Unit × (((List Int) × Unit) × Unit)) → Option (Unit × (((List Int) × Unit) × Unit))) × Unit)
@[reducible] def sh_ref01_cut_2 : PSh := ⟨[], [.mk false [.v (.sl (.int .u64))], .any, .any, .any, .any, .any, .any, .any, .any, .any, .any, .any, .any, .any, .any, .any, .any, .any, .any, .any, .any]⟩
def f_ref01_cut_p2 (T : TT_ref01_cut) (d : Unit × (((List Int) × Unit) × Unit)) : Option (Unit × (((List Int) × Unit) × Unit)) :=
  let x1 : Int := (d.2.1.1.length : Int)
  let x2 : Bool := (decide (x1 > (0 : Int)))
  bif x2 then (
  let x3 : Int := (d.2.1.1.length : Int)
  let x4 : Int := (isub .i64 x3 (1 : Int))
  bif decide ((0 : Int) ≤ x4) && decide (x4 < (d.2.1.1.length : Int)) then (
  let x5 : Bool := ((gd (.int .u64) d.2.1.1 x4) == (0 : Int))
  bif x5 then (
  let x6 : Int := (d.2.1.1.length : Int)
  let x7 : Int := (isub .i64 x6 (1 : Int))
  bif decide ((0 : Int) ≤ (0 : Int)) && decide ((0 : Int) ≤ x7) && decide (x7 ≤ (d.2.1.1.length : Int)) then (
  let x8 : (List Int) := (List.drop (Int.toNat (0 : Int)) (List.take (Int.toNat x7) d.2.1.1))
  (T.1 ((), ((x8, ()), ()))))
  else none)
  else (
  some ((), ((d.2.1.1, ()), ()))))
  else none)
  else (
  some ((), ((d.2.1.1, ()), ())))
def f_ref01_cut_t : Nat → TT_ref01_cut
  | 0 => (fun _ => none, ())
  | k + 1 => (f_ref01_cut_p2 (f_ref01_cut_t k), ())
theorem t_ref01_cut (k : Nat) : f_ref01_cut_t (k + 1) = (f_ref01_cut_p2 (f_ref01_cut_t k), ()) := rfl
def f_ref01_cut_m (T : TT_ref01_cut) (d : Unit × (((List Int) × Unit) × Unit)) : Option (Unit × (((List Int) × Unit) × Unit)) :=
  (T.1 ((), ((d.2.1.1, ()), ())))
def c_ref01_cut : List Nat := []
def L_ref01_cut (k : Nat) : Pts po_ref01_cut.den := [(2, ⟨sh_ref01_cut_2, (f_ref01_cut_t k).1⟩)]
def E_ref01_cut : Env := E0
theorem q_ref01_cut_2 (k : Nat) (d : Unit × (((List Int) × Unit) × Unit)) : evAt E_ref01_cut (tab (L_ref01_cut k)) c_ref01_cut 2 (bodyOf Try.f55) 0 (finK E_ref01_cut po_ref01_cut [.tmp 2]) (ptSt sh_ref01_cut_2 d) = f_ref01_cut_p2 (f_ref01_cut_t k) d := by kernel_rfl
theorem q_ref01_cut_m (k : Nat) (d : Unit × (((List Int) × Unit) × Unit)) : evCode E_ref01_cut (tab (L_ref01_cut k)) c_ref01_cut (bodyOf Try.f55) 0 (finK E_ref01_cut po_ref01_cut [.tmp 2]) (startSt pi_ref01_cut 21 d) = f_ref01_cut_m (f_ref01_cut_t k) d := by kernel_rfl
theorem go_ref01_cut (G : Unit × (((List Int) × Unit) × Unit) → Option (Unit × (((List Int) × Unit) × Unit))) (hG : ∀ d out, G d = some out → ∃ k, f_ref01_cut_m (f_ref01_cut_t k) d = some out) : FnOk Try.prog ET0 55 pi_ref01_cut po_ref01_cut G :=
  fn_of_body (E := E_ref01_cut) e0_ok (fn := Try.f55) Try.func55 (by kernel_rfl) (by kernel_rfl) [.tmp 2] (by kernel_rfl) (by kernel_rfl) (by decide) rfl c_ref01_cut L_ref01_cut
    (by intro x hx d; simp only [L_ref01_cut, List.mem_cons, List.not_mem_nil, or_false] at hx; subst hx; rfl)
    (by intro k x hx d out h; simp only [L_ref01_cut, List.mem_cons, List.not_mem_nil, or_false] at hx; subst hx; exact (q_ref01_cut_2 k d).trans h)
    (by intro d out h; obtain ⟨k, hk⟩ := hG d out h; exact ⟨k, (q_ref01_cut_m k d).trans hk⟩)
def g_ref01_cut (d : Unit × (((List Int) × Unit) × Unit)) : Option (Unit × (((List Int) × Unit) × Unit)) := lim fun k => f_ref01_cut_m (f_ref01_cut_t k) d
theorem ok_ref01_cut : FnOk Try.prog ET0 55 pi_ref01_cut po_ref01_cut g_ref01_cut := go_ref01_cut g_ref01_cut fun d out h => lim_some h

/- horologe/horologeref01.minus -/
@[reducible] def pi_ref01_minus : PSh := ⟨[], [.mk false [.v (.sl (.int .u64))], .mk false [.v (.sl (.int .u64))]]⟩
@[reducible] def po_ref01_minus : PSh := ⟨[], [.mk false [.v (.sl (.int .u64))]]⟩
@[reducible] def TT_ref01_minus : Type := (((((List Int) × Unit) × (((List Int) × Unit) × (((List Int) × Unit) × (Unit × ((Int × Unit) × ((Int × Unit) × Unit)))))) → Option (Unit × (((List Int) × Unit) × Unit))) × Unit)
@[reducible] def sh_ref01_minus_5 : PSh := ⟨[.row 48 (.int .u64)], [.mk false [.v (.sl (.int .u64))], .mk false [.v (.sl (.int .u64))], .any, .any, .any, .mk false [.osl 0], .mk false [.v (.int .u64)], .mk false [.v (.int .i64)], .any, .any, .any, .any, .any, .any, .any, .any, .any, .any, .any, .any, .any, .any, .any, .any, .any, .any, .any, .any, .any, .any, .any, .any, .any, .any, .any]⟩
def f_ref01_minus_p5 (T : TT_ref01_minus) (d : ((List Int) × Unit) × (((List Int) × Unit) × (((List Int) × Unit) × (Unit × ((Int × Unit) × ((Int × Unit) × Unit)))))) : Option (Unit × (((List Int) × Unit) × Unit)) :=
  let x1 : Int := (d.2.1.1.length : Int)
  let x2 : Bool := (decide (d.2.2.2.2.2.1.1 < x1))
  bif x2 then (
  (g_ref01_digit ((), ((d.2.1.1, ()), ((d.2.2.2.2.2.1.1, ()), ())))).bind fun x3 =>
  let x4 : Int := (iadd .u64 (65536 : Int) x3.2.1.1)
  (g_ref01_digit ((), ((d.2.2.1.1, ()), ((d.2.2.2.2.2.1.1, ()), ())))).bind fun x5 =>
  let x6 : Int := (isub .u64 x4 x5.2.1.1)
  let x7 : Int := (isub .u64 x6 d.2.2.2.2.1.1)
  let x8 : Int := (Int.tmod x7 (65536 : Int))
  let x9 : (List Int) := ([x8] : List Int)
  bif decide (((d.1.1.length + x9.length) * 8 : Nat) ≤ 140737488355328) && decide (d.1.1.length + x9.length ≤ 9223372036854775807) then (
  let x10 : (List Int) := (d.1.1 ++ x9)
  let x11 : Int := (iquo .u64 x7 (65536 : Int))
  let x12 : Int := (isub .u64 (1 : Int) x11)
  let x13 : Int := (iadd .i64 d.2.2.2.2.2.1.1 (1 : Int))
  (T.1 ((x10, ()), ((d.2.1.1, ()), ((d.2.2.1.1, ()), ((), ((x12, ()), ((x13, ()), ()))))))))
  else none)
  else (
  (g_ref01_cut ((), ((d.1.1, ()), ()))).bind fun x14 =>
  some ((), ((x14.2.1.1, ()), ())))
def f_ref01_minus_t : Nat → TT_ref01_minus
  | 0 => (fun _ => none, ())
  | k + 1 => (f_ref01_minus_p5 (f_ref01_minus_t k), ())
theorem t_ref01_minus (k : Nat) : f_ref01_minus_t (k + 1) = (f_ref01_minus_p5 (f_ref01_minus_t k), ()) := rfl
def f_ref01_minus_m (T : TT_ref01_minus) (d : Unit × (((List Int) × Unit) × (((List Int) × Unit) × Unit))) : Option (Unit × (((List Int) × Unit) × Unit)) :=
  (T.1 ((([] : List Int), ()), ((d.2.1.1, ()), ((d.2.2.1.1, ()), ((), (((0 : Int), ()), (((0 : Int), ()), ())))))))
def c_ref01_minus : List Nat := []
def L_ref01_minus (k : Nat) : Pts po_ref01_minus.den := [(5, ⟨sh_ref01_minus_5, (f_ref01_minus_t k).1⟩)]
def E_ref01_minus : Env := (((E0.add 54 (typedSem pi_ref01_digit po_ref01_digit g_ref01_digit)).add 55 (typedSem pi_ref01_cut po_ref01_cut g_ref01_cut)).fr [(34, [33])])
theorem q_ref01_minus_5 (k : Nat) (d : ((List Int) × Unit) × (((List Int) × Unit) × (((List Int) × Unit) × (Unit × ((Int × Unit) × ((Int × Unit) × Unit)))))) : evAt E_ref01_minus (tab (L_ref01_minus k)) c_ref01_minus 5 (bodyOf Try.f47) 0 (finK E_ref01_minus po_ref01_minus [.tmp 4]) (ptSt sh_ref01_minus_5 d) = f_ref01_minus_p5 (f_ref01_minus_t k) d := by kernel_rfl
theorem q_ref01_minus_m (k : Nat) (d : Unit × (((List Int) × Unit) × (((List Int) × Unit) × Unit))) : evCode E_ref01_minus (tab (L_ref01_minus k)) c_ref01_minus (bodyOf Try.f47) 0 (finK E_ref01_minus po_ref01_minus [.tmp 4]) (startSt pi_ref01_minus 35 d) = f_ref01_minus_m (f_ref01_minus_t k) d := by kernel_rfl
theorem go_ref01_minus (G : Unit × (((List Int) × Unit) × (((List Int) × Unit) × Unit)) → Option (Unit × (((List Int) × Unit) × Unit))) (hG : ∀ d out, G d = some out → ∃ k, f_ref01_minus_m (f_ref01_minus_t k) d = some out) : FnOk Try.prog ET0 47 pi_ref01_minus po_ref01_minus G :=
  fn_of_body (E := E_ref01_minus) (envOk_fr (envOk_add (envOk_add e0_ok (typed_ok ok_ref01_digit)) (typed_ok ok_ref01_cut))) (fn := Try.f47) Try.func47 (by kernel_rfl) (by kernel_rfl) [.tmp 4] (by kernel_rfl) (by kernel_rfl) (by decide) rfl c_ref01_minus L_ref01_minus
    (by intro x hx d; simp only [L_ref01_minus, List.mem_cons, List.not_mem_nil, or_false] at hx; subst hx; rfl)
    (by intro k x hx d out h; simp only [L_ref01_minus, List.mem_cons, List.not_mem_nil, or_false] at hx; subst hx; exact (q_ref01_minus_5 k d).trans h)
    (by intro d out h; obtain ⟨k, hk⟩ := hG d out h; exact ⟨k, (q_ref01_minus_m k d).trans hk⟩)
def g_ref01_minus (d : Unit × (((List Int) × Unit) × (((List Int) × Unit) × Unit))) : Option (Unit × (((List Int) × Unit) × Unit)) := lim fun k => f_ref01_minus_m (f_ref01_minus_t k) d
theorem ok_ref01_minus : FnOk Try.prog ET0 47 pi_ref01_minus po_ref01_minus g_ref01_minus := go_ref01_minus g_ref01_minus fun d out h => lim_some h

/- horologe/horologeref01.Plus -/
@[reducible] def pi_ref01_Plus : PSh := ⟨[], [.mk true [.v .bool, .v (.sl (.int .u64))], .mk true [.v .bool, .v (.sl (.int .u64))]]⟩
@[reducible] def po_ref01_Plus : PSh := ⟨[], [.mk true [.v .bool, .v (.sl (.int .u64))]]⟩
def f_ref01_Plus_m (T : Unit) (d : Unit × ((Bool × ((List Int) × Unit)) × ((Bool × ((List Int) × Unit)) × Unit))) : Option (Unit × ((Bool × ((List Int) × Unit)) × Unit)) :=
  let x1 : Bool := (d.2.1.1 == d.2.2.1.1)
  bif x1 then (
  (g_ref01_plus ((), ((d.2.1.2.1, ()), ((d.2.2.1.2.1, ()), ())))).bind fun x2 =>
  some ((), ((d.2.1.1, (x2.1.1, ())), ())))
  else (
  (g_ref01_less ((), ((d.2.1.2.1, ()), ((d.2.2.1.2.1, ()), ())))).bind fun x3 =>
  bif x3.2.1.1 then (
  (g_ref01_minus ((), ((d.2.2.1.2.1, ()), ((d.2.1.2.1, ()), ())))).bind fun x4 =>
  some ((), ((d.2.2.1.1, (x4.2.1.1, ())), ())))
  else (
  (g_ref01_minus ((), ((d.2.1.2.1, ()), ((d.2.2.1.2.1, ()), ())))).bind fun x5 =>
  bif d.2.1.1 then (
  let x6 : Int := (x5.2.1.1.length : Int)
  let x7 : Bool := (decide (x6 > (0 : Int)))
  some ((), ((x7, (x5.2.1.1, ())), ())))
  else (
  some ((), ((false, (x5.2.1.1, ())), ())))))
def c_ref01_Plus : List Nat := []
def L_ref01_Plus (_ : Nat) : Pts po_ref01_Plus.den := []
def E_ref01_Plus : Env := (((E0.add 45 (typedSem pi_ref01_less po_ref01_less g_ref01_less)).add 46 (typedSem pi_ref01_plus po_ref01_plus g_ref01_plus)).add 47 (typedSem pi_ref01_minus po_ref01_minus g_ref01_minus))
theorem q_ref01_Plus_m (k : Nat) (d : Unit × ((Bool × ((List Int) × Unit)) × ((Bool × ((List Int) × Unit)) × Unit))) : evCode E_ref01_Plus (tab (L_ref01_Plus k)) c_ref01_Plus (bodyOf Try.f35) 0 (finK E_ref01_Plus po_ref01_Plus [.cell 4 57]) (startSt pi_ref01_Plus 46 d) = f_ref01_Plus_m () d := by kernel_rfl
def g_ref01_Plus (d : Unit × ((Bool × ((List Int) × Unit)) × ((Bool × ((List Int) × Unit)) × Unit))) : Option (Unit × ((Bool × ((List Int) × Unit)) × Unit)) := f_ref01_Plus_m () d
theorem ok_ref01_Plus : FnOk Try.prog ET0 35 pi_ref01_Plus po_ref01_Plus g_ref01_Plus :=
  fn_of_body (E := E_ref01_Plus) (envOk_add (envOk_add (envOk_add e0_ok (typed_ok ok_ref01_less)) (typed_ok ok_ref01_plus)) (typed_ok ok_ref01_minus)) (fn := Try.f35) Try.func35 (by kernel_rfl) (by kernel_rfl) [.cell 4 57] (by kernel_rfl) (by kernel_rfl) (by decide) rfl c_ref01_Plus L_ref01_Plus
    (by intro x hx; cases hx) (by intro k x hx; cases hx) (fun d out h => ⟨0, (q_ref01_Plus_m 0 d).trans h⟩)

/- horologe/horologeref01.times -/
@[reducible] def pi_ref01_times : PSh := ⟨[], [.mk false [.v (.sl (.int .u64))], .mk false [.v (.sl (.int .u64))]]⟩
@[reducible] def po_ref01_times : PSh := ⟨[], [.mk false [.v (.sl (.int .u64))]]⟩
@[reducible] def TT_ref01_times : Type := (((((List Int) × Unit) × (((List Int) × Unit) × (((List Int) × Unit) × (Unit × ((Int × Unit) × Unit))))) → Option (Unit × (((List Int) × Unit) × Unit))) × (((((List Int) × ((List Int) × Unit)) × (((List Int) × Unit) × (((List Int) × Unit) × (Unit × ((Int × Unit) × (Unit × ((Int × Unit) × ((Int × Unit) × Unit)))))))) → Option (Unit × (((List Int) × Unit) × Unit))) × Unit))
@[reducible] def sh_ref01_times_4 : PSh := ⟨[.row 48 (.int .u64)], [.mk false [.v (.sl (.int .u64))], .mk false [.v (.sl (.int .u64))], .any, .any, .any, .mk false [.osl 0], .mk false [.v (.int .i64)], .any, .any, .any, .any, .any, .any, .any, .any, .any, .any, .any, .any, .any, .any, .any, .any, .any, .any, .any, .any, .any, .any, .any, .any, .any, .any, .any, .any, .any, .any, .any, .any, .any, .any, .any, .any, .any, .any, .any, .any, .any, .any, .any, .any]⟩
@[reducible] def sh_ref01_times_12 : PSh := ⟨[.row 48 (.int .u64), .row 48 (.int .u64)], [.mk false [.v (.sl (.int .u64))], .mk false [.v (.sl (.int .u64))], .any, .any, .any, .mk false [.osl 0], .mk false [.v (.int .i64)], .mk false [.osl 1], .mk false [.v (.int .u64)], .mk false [.v (.int .i64)], .any, .any, .any, .any, .any, .any, .any, .any, .any, .any, .any, .any, .any, .any, .any, .any, .any, .any, .any, .any, .any, .any, .any, .any, .any, .any, .any, .any, .any, .any, .any, .any, .any, .any, .any, .any, .any, .any, .any, .any, .any]⟩
def f_ref01_times_p4 (T : TT_ref01_times) (d : ((List Int) × Unit) × (((List Int) × Unit) × (((List Int) × Unit) × (Unit × ((Int × Unit) × Unit))))) : Option (Unit × (((List Int) × Unit) × Unit)) :=
  let x1 : Int := (d.2.2.1.1.length : Int)
  let x2 : Bool := (decide (d.2.2.2.2.1.1 < x1))
  bif x2 then (
  bif decide ((0 : Int) ≤ d.2.2.2.2.1.1) && decide (d.2.2.2.2.1.1 ≤ d.2.2.2.2.1.1) && decide (d.2.2.2.2.1.1 * (8 : Int) ≤ 140737488355328) && decide (d.2.2.2.2.1.1 ≤ 9223372036854775807) then (
  let x3 : (List Int) := (List.replicate (Int.toNat d.2.2.2.2.1.1) (0 : Int))
  (T.2.1 ((d.1.1, (x3, ())), ((d.2.1.1, ()), ((d.2.2.1.1, ()), ((), ((d.2.2.2.2.1.1, ()), ((), (((0 : Int), ()), (((0 : Int), ()), ()))))))))))
  else none)
  else (
  (g_ref01_cut ((), ((d.1.1, ()), ()))).bind fun x4 =>
  some ((), ((x4.2.1.1, ()), ())))
def f_ref01_times_p12 (T : TT_ref01_times) (d : ((List Int) × ((List Int) × Unit)) × (((List Int) × Unit) × (((List Int) × Unit) × (Unit × ((Int × Unit) × (Unit × ((Int × Unit) × ((Int × Unit) × Unit)))))))) : Option (Unit × (((List Int) × Unit) × Unit)) :=
  let x5 : Int := (d.2.1.1.length : Int)
  let x6 : Bool := (decide (d.2.2.2.2.2.2.2.1.1 < x5))
  bif x6 then (
  (g_ref01_digit ((), ((d.2.1.1, ()), ((d.2.2.2.2.2.2.2.1.1, ()), ())))).bind fun x7 =>
  bif decide ((0 : Int) ≤ d.2.2.2.2.1.1) && decide (d.2.2.2.2.1.1 < (d.2.2.1.1.length : Int)) then (
  let x8 : Int := (imul .u64 x7.2.1.1 (gd (.int .u64) d.2.2.1.1 d.2.2.2.2.1.1))
  let x9 : Int := (iadd .u64 x8 d.2.2.2.2.2.2.1.1)
  let x10 : Int := (Int.tmod x9 (65536 : Int))
  let x11 : (List Int) := ([x10] : List Int)
  bif decide (((d.1.2.1.length + x11.length) * 8 : Nat) ≤ 140737488355328) && decide (d.1.2.1.length + x11.length ≤ 9223372036854775807) then (
  let x12 : (List Int) := (d.1.2.1 ++ x11)
  let x13 : Int := (iquo .u64 x9 (65536 : Int))
  let x14 : Int := (iadd .i64 d.2.2.2.2.2.2.2.1.1 (1 : Int))
  (T.2.1 ((d.1.1, (x12, ())), ((d.2.1.1, ()), ((d.2.2.1.1, ()), ((), ((d.2.2.2.2.1.1, ()), ((), ((x13, ()), ((x14, ()), ()))))))))))
  else none)
  else none)
  else (
  let x15 : Bool := (decide (d.2.2.2.2.2.2.1.1 > (0 : Int)))
  bif x15 then (
  (g_ref01_digit ((), ((d.2.1.1, ()), ((d.2.2.2.2.2.2.2.1.1, ()), ())))).bind fun x16 =>
  bif decide ((0 : Int) ≤ d.2.2.2.2.1.1) && decide (d.2.2.2.2.1.1 < (d.2.2.1.1.length : Int)) then (
  let x17 : Int := (imul .u64 x16.2.1.1 (gd (.int .u64) d.2.2.1.1 d.2.2.2.2.1.1))
  let x18 : Int := (iadd .u64 x17 d.2.2.2.2.2.2.1.1)
  let x19 : Int := (Int.tmod x18 (65536 : Int))
  let x20 : (List Int) := ([x19] : List Int)
  bif decide (((d.1.2.1.length + x20.length) * 8 : Nat) ≤ 140737488355328) && decide (d.1.2.1.length + x20.length ≤ 9223372036854775807) then (
  let x21 : (List Int) := (d.1.2.1 ++ x20)
  let x22 : Int := (iquo .u64 x18 (65536 : Int))
  let x23 : Int := (iadd .i64 d.2.2.2.2.2.2.2.1.1 (1 : Int))
  (T.2.1 ((d.1.1, (x21, ())), ((d.2.1.1, ()), ((d.2.2.1.1, ()), ((), ((d.2.2.2.2.1.1, ()), ((), ((x22, ()), ((x23, ()), ()))))))))))
  else none)
  else none)
  else (
  (g_ref01_plus ((), ((d.1.1, ()), ((d.1.2.1, ()), ())))).bind fun x24 =>
  let x25 : Int := (iadd .i64 d.2.2.2.2.1.1 (1 : Int))
  (T.1 ((x24.1.1, ()), ((d.2.1.1, ()), ((d.2.2.1.1, ()), ((), ((x25, ()), ()))))))))
def f_ref01_times_t : Nat → TT_ref01_times
  | 0 => (fun _ => none, (fun _ => none, ()))
  | k + 1 => (f_ref01_times_p4 (f_ref01_times_t k), (f_ref01_times_p12 (f_ref01_times_t k), ()))
theorem t_ref01_times (k : Nat) : f_ref01_times_t (k + 1) = (f_ref01_times_p4 (f_ref01_times_t k), (f_ref01_times_p12 (f_ref01_times_t k), ())) := rfl
def f_ref01_times_m (T : TT_ref01_times) (d : Unit × (((List Int) × Unit) × (((List Int) × Unit) × Unit))) : Option (Unit × (((List Int) × Unit) × Unit)) :=
  (T.1 ((([] : List Int), ()), ((d.2.1.1, ()), ((d.2.2.1.1, ()), ((), (((0 : Int), ()), ()))))))
def c_ref01_times : List Nat := []
def L_ref01_times (k : Nat) : Pts po_ref01_times.den := [(4, ⟨sh_ref01_times_4, (f_ref01_times_t k).1⟩), (12, ⟨sh_ref01_times_12, (f_ref01_times_t k).2.1⟩)]
def E_ref01_times : Env := ((((E0.add 46 (typedSem pi_ref01_plus po_ref01_plus g_ref01_plus)).add 54 (typedSem pi_ref01_digit po_ref01_digit g_ref01_digit)).add 55 (typedSem pi_ref01_cut po_ref01_cut g_ref01_cut)).fr [(50, [49])])
theorem q_ref01_times_4 (k : Nat) (d : ((List Int) × Unit) × (((List Int) × Unit) × (((List Int) × Unit) × (Unit × ((Int × Unit) × Unit))))) : evAt E_ref01_times (tab (L_ref01_times k)) c_ref01_times 4 (bodyOf Try.f48) 0 (finK E_ref01_times po_ref01_times [.tmp 4]) (ptSt sh_ref01_times_4 d) = f_ref01_times_p4 (f_ref01_times_t k) d := by kernel_rfl
theorem q_ref01_times_12 (k : Nat) (d : ((List Int) × ((List Int) × Unit)) × (((List Int) × Unit) × (((List Int) × Unit) × (Unit × ((Int × Unit) × (Unit × ((Int × Unit) × ((Int × Unit) × Unit)))))))) : evAt E_ref01_times (tab (L_ref01_times k)) c_ref01_times 12 (bodyOf Try.f48) 0 (finK E_ref01_times po_ref01_times [.tmp 4]) (ptSt sh_ref01_times_12 d) = f_ref01_times_p12 (f_ref01_times_t k) d := by kernel_rfl
theorem q_ref01_times_m (k : Nat) (d : Unit × (((List Int) × Unit) × (((List Int) × Unit) × Unit))) : evCode E_ref01_times (tab (L_ref01_times k)) c_ref01_times (bodyOf Try.f48) 0 (finK E_ref01_times po_ref01_times [.tmp 4]) (startSt pi_ref01_times 51 d) = f_ref01_times_m (f_ref01_times_t k) d := by kernel_rfl
theorem go_ref01_times (G : Unit × (((List Int) × Unit) × (((List Int) × Unit) × Unit)) → Option (Unit × (((List Int) × Unit) × Unit))) (hG : ∀ d out, G d = some out → ∃ k, f_ref01_times_m (f_ref01_times_t k) d = some out) : FnOk Try.prog ET0 48 pi_ref01_times po_ref01_times G :=
  fn_of_body (E := E_ref01_times) (envOk_fr (envOk_add (envOk_add (envOk_add e0_ok (typed_ok ok_ref01_plus)) (typed_ok ok_ref01_digit)) (typed_ok ok_ref01_cut))) (fn := Try.f48) Try.func48 (by kernel_rfl) (by kernel_rfl) [.tmp 4] (by kernel_rfl) (by kernel_rfl) (by decide) rfl c_ref01_times L_ref01_times
    (by intro x hx d; simp only [L_ref01_times, List.mem_cons, List.not_mem_nil, or_false] at hx; rcases hx with rfl | rfl; rfl; rfl)
    (by intro k x hx d out h; simp only [L_ref01_times, List.mem_cons, List.not_mem_nil, or_false] at hx; rcases hx with rfl | rfl; exact (q_ref01_times_4 k d).trans h; exact (q_ref01_times_12 k d).trans h)
    (by intro d out h; obtain ⟨k, hk⟩ := hG d out h; exact ⟨k, (q_ref01_times_m k d).trans hk⟩)
def g_ref01_times (d : Unit × (((List Int) × Unit) × (((List Int) × Unit) × Unit))) : Option (Unit × (((List Int) × Unit) × Unit)) := lim fun k => f_ref01_times_m (f_ref01_times_t k) d
theorem ok_ref01_times : FnOk Try.prog ET0 48 pi_ref01_times po_ref01_times g_ref01_times := go_ref01_times g_ref01_times fun d out h => lim_some h

/- horologe/horologeref01.Times -/
@[reducible] def pi_ref01_Times : PSh := ⟨[], [.mk true [.v .bool, .v (.sl (.int .u64))], .mk true [.v .bool, .v (.sl (.int .u64))]]⟩
@[reducible] def po_ref01_Times : PSh := ⟨[], [.mk true [.v .bool, .v (.sl (.int .u64))]]⟩
def f_ref01_Times_m (T : Unit) (d : Unit × ((Bool × ((List Int) × Unit)) × ((Bool × ((List Int) × Unit)) × Unit))) : Option (Unit × ((Bool × ((List Int) × Unit)) × Unit)) :=
  (g_ref01_times ((), ((d.2.1.2.1, ()), ((d.2.2.1.2.1, ()), ())))).bind fun x1 =>
  let x2 : Bool := (!(d.2.1.1 == d.2.2.1.1))
  bif x2 then (
  let x3 : Int := (x1.2.1.1.length : Int)
  let x4 : Bool := (decide (x3 > (0 : Int)))
  some ((), ((x4, (x1.2.1.1, ())), ())))
  else (
  some ((), ((false, (x1.2.1.1, ())), ())))
def c_ref01_Times : List Nat := []
def L_ref01_Times (_ : Nat) : Pts po_ref01_Times.den := []
def E_ref01_Times : Env := (E0.add 48 (typedSem pi_ref01_times po_ref01_times g_ref01_times))
theorem q_ref01_Times_m (k : Nat) (d : Unit × ((Bool × ((List Int) × Unit)) × ((Bool × ((List Int) × Unit)) × Unit))) : evCode E_ref01_Times (tab (L_ref01_Times k)) c_ref01_Times (bodyOf Try.f36) 0 (finK E_ref01_Times po_ref01_Times [.cell 4 57]) (startSt pi_ref01_Times 23 d) = f_ref01_Times_m () d := by kernel_rfl
def g_ref01_Times (d : Unit × ((Bool × ((List Int) × Unit)) × ((Bool × ((List Int) × Unit)) × Unit))) : Option (Unit × ((Bool × ((List Int) × Unit)) × Unit)) := f_ref01_Times_m () d
theorem ok_ref01_Times : FnOk Try.prog ET0 36 pi_ref01_Times po_ref01_Times g_ref01_Times :=
  fn_of_body (E := E_ref01_Times) (envOk_add e0_ok (typed_ok ok_ref01_times)) (fn := Try.f36) Try.func36 (by kernel_rfl) (by kernel_rfl) [.cell 4 57] (by kernel_rfl) (by kernel_rfl) (by decide) rfl c_ref01_Times L_ref01_Times
    (by intro x hx; cases hx) (by intro k x hx; cases hx) (fun d out h => ⟨0, (q_ref01_Times_m 0 d).trans h⟩)

/- horologe/horologeref02.Big -/
@[reducible] def pi_ref02_Big : PSh := ⟨[], [.mk false [.v .str]]⟩
@[reducible] def po_ref02_Big : PSh := ⟨[], [.mk true [.v .bool, .v (.sl (.int .u64))]]⟩
@[reducible] def TT_ref02_Big : Type := (((((Bool × Unit) × ((List Int) × ((Bool × ((List Int) × Unit)) × Unit))) × ((ByteArray × Unit) × (Unit × (Unit × ((Int × Unit) × Unit))))) → Option (Unit × ((Bool × ((List Int) × Unit)) × Unit))) × Unit)
@[reducible] def sh_ref02_Big_4 : PSh := ⟨[.var 57 [.v .bool, .osl 1], .row 48 (.int .u64), .var 57 [.v .bool, .v (.sl (.int .u64))]], [.mk false [.v .str], .any, .mk false [.ref 0 0], .mk false [.ref 2 0], .mk false [.v (.int .i64)], .any, .any, .any, .any, .any, .any, .any, .any, .any, .any, .any, .any, .any, .any, .any, .any, .any, .any]⟩
def f_ref02_Big_p4 (T : TT_ref02_Big) (d : ((Bool × Unit) × ((List Int) × ((Bool × ((List Int) × Unit)) × Unit))) × ((ByteArray × Unit) × (Unit × (Unit × ((Int × Unit) × Unit))))) : Option (Unit × ((Bool × ((List Int) × Unit)) × Unit)) :=
  let x2 : Int := (d.2.1.1.size : Int)
  let x3 : Bool := (decide (d.2.2.2.2.1.1 < x2))
  bif x3 then (
  (g_ref01_Of ((), (((10 : Int), ()), ()))).bind fun x4 =>
  (g_ref01_Times ((), ((d.1.2.2.1.1, (d.1.2.2.1.2.1, ())), ((x4.2.1.1, (x4.1.1, ())), ())))).bind fun x5 =>
  bif decide ((0 : Int) ≤ d.2.2.2.2.1.1) && decide (d.2.2.2.2.1.1 < ((d.2.1.1.size : Int) : Int)) then (
  let x6 : Int := (bt d.2.1.1 d.2.2.2.2.1.1)
  let x7 : Int := (isub .u8 x6 (48 : Int))
  let x8 : Int := (iconv .i64 x7)
  (g_ref01_Of ((), ((x8, ()), ()))).bind fun x9 =>
  (g_ref01_Plus ((), ((x5.2.1.1, (x5.2.1.2.1, ())), ((x9.2.1.1, (x9.1.1, ())), ())))).bind fun x10 =>
  let x11 : Int := (iadd .i64 d.2.2.2.2.1.1 (1 : Int))
  (T.1 (((d.1.1.1, ()), (d.1.2.1, ((x10.2.1.1, (x10.2.1.2.1, ())), ()))), ((d.2.1.1, ()), ((), ((), ((x11, ()), ())))))))
  else none)
  else (
  some ((), ((d.1.2.2.1.1, (d.1.2.2.1.2.1, ())), ())))
def f_ref02_Big_t : Nat → TT_ref02_Big
  | 0 => (fun _ => none, ())
  | k + 1 => (f_ref02_Big_p4 (f_ref02_Big_t k), ())
theorem t_ref02_Big (k : Nat) : f_ref02_Big_t (k + 1) = (f_ref02_Big_p4 (f_ref02_Big_t k), ()) := rfl
def f_ref02_Big_m (T : TT_ref02_Big) (d : Unit × ((ByteArray × Unit) × Unit)) : Option (Unit × ((Bool × ((List Int) × Unit)) × Unit)) :=
  (g_ref01_Of ((), (((0 : Int), ()), ()))).bind fun x1 =>
  (T.1 (((false, ()), (([] : List Int), ((x1.2.1.1, (x1.1.1, ())), ()))), ((d.2.1.1, ()), ((), ((), (((0 : Int), ()), ()))))))
def c_ref02_Big : List Nat := []
def L_ref02_Big (k : Nat) : Pts po_ref02_Big.den := [(4, ⟨sh_ref02_Big_4, (f_ref02_Big_t k).1⟩)]
def E_ref02_Big : Env := ((((E0.add 33 (typedSem pi_ref01_Of po_ref01_Of g_ref01_Of)).add 35 (typedSem pi_ref01_Plus po_ref01_Plus g_ref01_Plus)).add 36 (typedSem pi_ref01_Times po_ref01_Times g_ref01_Times)).fr [(1000005, [1000003])])
theorem q_ref02_Big_4 (k : Nat) (d : ((Bool × Unit) × ((List Int) × ((Bool × ((List Int) × Unit)) × Unit))) × ((ByteArray × Unit) × (Unit × (Unit × ((Int × Unit) × Unit))))) : evAt E_ref02_Big (tab (L_ref02_Big k)) c_ref02_Big 4 (bodyOf Try.f24) 0 (finK E_ref02_Big po_ref02_Big [.cell 2 57]) (ptSt sh_ref02_Big_4 d) = f_ref02_Big_p4 (f_ref02_Big_t k) d := by kernel_rfl
theorem q_ref02_Big_m (k : Nat) (d : Unit × ((ByteArray × Unit) × Unit)) : evCode E_ref02_Big (tab (L_ref02_Big k)) c_ref02_Big (bodyOf Try.f24) 0 (finK E_ref02_Big po_ref02_Big [.cell 2 57]) (startSt pi_ref02_Big 23 d) = f_ref02_Big_m (f_ref02_Big_t k) d := by kernel_rfl
theorem go_ref02_Big (G : Unit × ((ByteArray × Unit) × Unit) → Option (Unit × ((Bool × ((List Int) × Unit)) × Unit))) (hG : ∀ d out, G d = some out → ∃ k, f_ref02_Big_m (f_ref02_Big_t k) d = some out) : FnOk Try.prog ET0 24 pi_ref02_Big po_ref02_Big G :=
  fn_of_body (E := E_ref02_Big) (envOk_fr (envOk_add (envOk_add (envOk_add e0_ok (typed_ok ok_ref01_Of)) (typed_ok ok_ref01_Plus)) (typed_ok ok_ref01_Times))) (fn := Try.f24) Try.func24 (by kernel_rfl) (by kernel_rfl) [.cell 2 57] (by kernel_rfl) (by kernel_rfl) (by decide) rfl c_ref02_Big L_ref02_Big
    (by intro x hx d; simp only [L_ref02_Big, List.mem_cons, List.not_mem_nil, or_false] at hx; subst hx; rfl)
    (by intro k x hx d out h; simp only [L_ref02_Big, List.mem_cons, List.not_mem_nil, or_false] at hx; subst hx; exact (q_ref02_Big_4 k d).trans h)
    (by intro d out h; obtain ⟨k, hk⟩ := hG d out h; exact ⟨k, (q_ref02_Big_m k d).trans hk⟩)
def g_ref02_Big (d : Unit × ((ByteArray × Unit) × Unit)) : Option (Unit × ((Bool × ((List Int) × Unit)) × Unit)) := lim fun k => f_ref02_Big_m (f_ref02_Big_t k) d
theorem ok_ref02_Big : FnOk Try.prog ET0 24 pi_ref02_Big po_ref02_Big g_ref02_Big := go_ref02_Big g_ref02_Big fun d out h => lim_some h

/- horologe/horologeref02.Take -/
@[reducible] def pi_ref02_Take : PSh := ⟨[], [.mk false [.v .str], .mk false [.v (.int .i64)], .mk false [.v (.int .i64)]]⟩
@[reducible] def po_ref02_Take : PSh := ⟨[], [.mk false [.v (.int .i64)], .mk false [.v (.int .i64)], .mk false [.v (.int .i64)]]⟩
def f_ref02_Take_m (T : Unit) (d : Unit × ((ByteArray × Unit) × ((Int × Unit) × ((Int × Unit) × Unit)))) : Option (Unit × ((Int × Unit) × ((Int × Unit) × ((Int × Unit) × Unit)))) :=
  let x1 : Bool := (decide (d.2.2.1.1 < (1 : Int)))
  bif x1 then (
  some ((), (((0 : Int), ()), (((0 : Int), ()), (((1 : Int), ()), ())))))
  else (
  let x2 : Bool := (decide (d.2.2.1.1 > d.2.2.2.1.1))
  bif x2 then (
  some ((), (((0 : Int), ()), (((0 : Int), ()), (((1 : Int), ()), ())))))
  else (
  let x3 : Bool := (decide (d.2.2.2.1.1 > (20 : Int)))
  bif x3 then (
  some ((), (((0 : Int), ()), (((0 : Int), ()), (((1 : Int), ()), ())))))
  else (
  (g_ref02_Many ((), ((d.2.1.1, ()), ()))).bind fun x4 =>
  let x5 : Bool := (decide (x4.2.1.1 > d.2.2.2.1.1))
  bif x5 then (
  let x6 : Bool := (decide (d.2.2.2.1.1 < d.2.2.1.1))
  bif x6 then (
  some ((), (((0 : Int), ()), (((0 : Int), ()), (((2 : Int), ()), ())))))
  else (
  bif decide ((0 : Int) ≤ (0 : Int)) && decide ((0 : Int) ≤ d.2.2.2.1.1) && decide (d.2.2.2.1.1 ≤ (d.2.1.1.size : Int)) then (
  let x7 : ByteArray := (d.2.1.1.extract (Int.toNat (0 : Int)) (Int.toNat d.2.2.2.1.1))
  (g_ref02_Big ((), ((x7, ()), ()))).bind fun x8 =>
  (g_ref01_Small ((), ((x8.2.1.1, (x8.2.1.2.1, ())), ()))).bind fun x9 =>
  let x10 : Bool := (x9.2.2.1.1 != (0 : Int))
  bif x10 then (
  some ((), (((0 : Int), ()), (((0 : Int), ()), ((x9.2.2.1.1, ()), ())))))
  else (
  some ((), ((x9.2.1.1, ()), ((d.2.2.2.1.1, ()), (((0 : Int), ()), ()))))))
  else none))
  else (
  let x11 : Bool := (decide (x4.2.1.1 < d.2.2.1.1))
  bif x11 then (
  some ((), (((0 : Int), ()), (((0 : Int), ()), (((2 : Int), ()), ())))))
  else (
  bif decide ((0 : Int) ≤ (0 : Int)) && decide ((0 : Int) ≤ x4.2.1.1) && decide (x4.2.1.1 ≤ (d.2.1.1.size : Int)) then (
  let x12 : ByteArray := (d.2.1.1.extract (Int.toNat (0 : Int)) (Int.toNat x4.2.1.1))
  (g_ref02_Big ((), ((x12, ()), ()))).bind fun x13 =>
  (g_ref01_Small ((), ((x13.2.1.1, (x13.2.1.2.1, ())), ()))).bind fun x14 =>
  let x15 : Bool := (x14.2.2.1.1 != (0 : Int))
  bif x15 then (
  some ((), (((0 : Int), ()), (((0 : Int), ()), ((x14.2.2.1.1, ()), ())))))
  else (
  some ((), ((x14.2.1.1, ()), ((x4.2.1.1, ()), (((0 : Int), ()), ()))))))
  else none)))))
def c_ref02_Take : List Nat := []
def L_ref02_Take (_ : Nat) : Pts po_ref02_Take.den := []
def E_ref02_Take : Env := (((E0.add 22 (typedSem pi_ref02_Many po_ref02_Many g_ref02_Many)).add 23 (typedSem pi_ref01_Small po_ref01_Small g_ref01_Small)).add 24 (typedSem pi_ref02_Big po_ref02_Big g_ref02_Big))
theorem q_ref02_Take_m (k : Nat) (d : Unit × ((ByteArray × Unit) × ((Int × Unit) × ((Int × Unit) × Unit)))) : evCode E_ref02_Take (tab (L_ref02_Take k)) c_ref02_Take (bodyOf Try.f13) 0 (finK E_ref02_Take po_ref02_Take [.tmp 6, .tmp 7, .tmp 8]) (startSt pi_ref02_Take 45 d) = f_ref02_Take_m () d := by kernel_rfl
def g_ref02_Take (d : Unit × ((ByteArray × Unit) × ((Int × Unit) × ((Int × Unit) × Unit)))) : Option (Unit × ((Int × Unit) × ((Int × Unit) × ((Int × Unit) × Unit)))) := f_ref02_Take_m () d
theorem ok_ref02_Take : FnOk Try.prog ET0 13 pi_ref02_Take po_ref02_Take g_ref02_Take :=
  fn_of_body (E := E_ref02_Take) (envOk_add (envOk_add (envOk_add e0_ok (typed_ok ok_ref02_Many)) (typed_ok ok_ref01_Small)) (typed_ok ok_ref02_Big)) (fn := Try.f13) Try.func13 (by kernel_rfl) (by kernel_rfl) [.tmp 6, .tmp 7, .tmp 8] (by kernel_rfl) (by kernel_rfl) (by decide) rfl c_ref02_Take L_ref02_Take
    (by intro x hx; cases hx) (by intro k x hx; cases hx) (fun d out h => ⟨0, (q_ref02_Take_m 0 d).trans h⟩)

/- horologe/horologeref02.Whole -/
@[reducible] def pi_ref02_Whole : PSh := ⟨[], [.mk false [.v .str], .mk false [.v (.int .i64)], .mk false [.v (.int .i64)]]⟩
@[reducible] def po_ref02_Whole : PSh := ⟨[], [.mk false [.v (.int .i64)], .mk false [.v (.int .i64)]]⟩
def f_ref02_Whole_m (T : Unit) (d : Unit × ((ByteArray × Unit) × ((Int × Unit) × ((Int × Unit) × Unit)))) : Option (Unit × ((Int × Unit) × ((Int × Unit) × Unit))) :=
  (g_ref02_Take ((), ((d.2.1.1, ()), ((d.2.2.1.1, ()), ((d.2.2.2.1.1, ()), ()))))).bind fun x1 =>
  let x2 : Bool := (x1.2.2.2.1.1 == (0 : Int))
  bif x2 then (
  let x3 : Int := (d.2.1.1.size : Int)
  let x4 : Bool := (decide (x1.2.2.1.1 < x3))
  bif x4 then (
  some ((), (((0 : Int), ()), (((2 : Int), ()), ()))))
  else (
  some ((), ((x1.2.1.1, ()), ((x1.2.2.2.1.1, ()), ())))))
  else (
  some ((), ((x1.2.1.1, ()), ((x1.2.2.2.1.1, ()), ()))))
def c_ref02_Whole : List Nat := []
def L_ref02_Whole (_ : Nat) : Pts po_ref02_Whole.den := []
def E_ref02_Whole : Env := (E0.add 13 (typedSem pi_ref02_Take po_ref02_Take g_ref02_Take))
theorem q_ref02_Whole_m (k : Nat) (d : Unit × ((ByteArray × Unit) × ((Int × Unit) × ((Int × Unit) × Unit)))) : evCode E_ref02_Whole (tab (L_ref02_Whole k)) c_ref02_Whole (bodyOf Try.f15) 0 (finK E_ref02_Whole po_ref02_Whole [.tmp 6, .tmp 7]) (startSt pi_ref02_Whole 29 d) = f_ref02_Whole_m () d := by kernel_rfl
def g_ref02_Whole (d : Unit × ((ByteArray × Unit) × ((Int × Unit) × ((Int × Unit) × Unit)))) : Option (Unit × ((Int × Unit) × ((Int × Unit) × Unit))) := f_ref02_Whole_m () d
theorem ok_ref02_Whole : FnOk Try.prog ET0 15 pi_ref02_Whole po_ref02_Whole g_ref02_Whole :=
  fn_of_body (E := E_ref02_Whole) (envOk_add e0_ok (typed_ok ok_ref02_Take)) (fn := Try.f15) Try.func15 (by kernel_rfl) (by kernel_rfl) [.tmp 6, .tmp 7] (by kernel_rfl) (by kernel_rfl) (by decide) rfl c_ref02_Whole L_ref02_Whole
    (by intro x hx; cases hx) (by intro k x hx; cases hx) (fun d out h => ⟨0, (q_ref02_Whole_m 0 d).trans h⟩)

/- horologe/horologelaw02.FiguresTakes -/
@[reducible] def pi_law02_FiguresTakes : PSh := ⟨[], [.mk false [.v .str], .mk false [.v (.int .i64)], .mk false [.v (.int .i64)]]⟩
@[reducible] def po_law02_FiguresTakes : PSh := ⟨[], [.mk false [.v .bool]]⟩
def f_law02_FiguresTakes_m (T : Unit) (d : Unit × ((ByteArray × Unit) × ((Int × Unit) × ((Int × Unit) × Unit)))) : Option (Unit × ((Bool × Unit) × Unit)) :=
  (g_law02_alive ((), ())).bind fun x1 =>
  let x2 : Bool := (!x1.2.1.1)
  bif x2 then (
  some ((), ((false, ()), ())))
  else (
  let x3 : Int := (d.2.1.1.size : Int)
  let x4 : Bool := (decide (x3 > (300 : Int)))
  bif x4 then (
  some ((), ((true, ()), ())))
  else (
  (g_figures_Take ((), ((d.2.1.1, ()), ((d.2.2.1.1, ()), ((d.2.2.2.1.1, ()), ()))))).bind fun x5 =>
  (g_ref02_Take ((), ((d.2.1.1, ()), ((d.2.2.1.1, ()), ((d.2.2.2.1.1, ()), ()))))).bind fun x6 =>
  let x7 : Bool := (x5.2.1.1 != x6.2.1.1)
  bif x7 then (
  some ((), ((false, ()), ())))
  else (
  let x8 : Bool := (x5.2.2.1.1 != x6.2.2.1.1)
  bif x8 then (
  some ((), ((false, ()), ())))
  else (
  (g_hnum_Num ((), ((x5.2.2.2.1.1, ()), ()))).bind fun x9 =>
  let x10 : Bool := (x9.2.1.1 != x6.2.2.2.1.1)
  bif x10 then (
  some ((), ((false, ()), ())))
  else (
  (g_figures_Whole ((), ((d.2.1.1, ()), ((d.2.2.1.1, ()), ((d.2.2.2.1.1, ()), ()))))).bind fun x11 =>
  (g_ref02_Whole ((), ((d.2.1.1, ()), ((d.2.2.1.1, ()), ((d.2.2.2.1.1, ()), ()))))).bind fun x12 =>
  let x13 : Bool := (x11.2.1.1 == x12.2.1.1)
  bif x13 then (
  (g_hnum_Num ((), ((x11.2.2.1.1, ()), ()))).bind fun x14 =>
  let x15 : Bool := (x14.2.1.1 == x12.2.2.1.1)
  some ((), ((x15, ()), ())))
  else (
  some ((), ((false, ()), ()))))))))
def c_law02_FiguresTakes : List Nat := []
def L_law02_FiguresTakes (_ : Nat) : Pts po_law02_FiguresTakes.den := []
def E_law02_FiguresTakes : Env := ((((((E0.add 6 (typedSem pi_law02_alive po_law02_alive g_law02_alive)).add 9 (typedSem pi_hnum_Num po_hnum_Num g_hnum_Num)).add 12 (typedSem pi_figures_Take po_figures_Take g_figures_Take)).add 13 (typedSem pi_ref02_Take po_ref02_Take g_ref02_Take)).add 14 (typedSem pi_figures_Whole po_figures_Whole g_figures_Whole)).add 15 (typedSem pi_ref02_Whole po_ref02_Whole g_ref02_Whole))
theorem q_law02_FiguresTakes_m (k : Nat) (d : Unit × ((ByteArray × Unit) × ((Int × Unit) × ((Int × Unit) × Unit)))) : evCode E_law02_FiguresTakes (tab (L_law02_FiguresTakes k)) c_law02_FiguresTakes (bodyOf Try.f4) 0 (finK E_law02_FiguresTakes po_law02_FiguresTakes [.tmp 6]) (startSt pi_law02_FiguresTakes 71 d) = f_law02_FiguresTakes_m () d := by kernel_rfl
def g_law02_FiguresTakes (d : Unit × ((ByteArray × Unit) × ((Int × Unit) × ((Int × Unit) × Unit)))) : Option (Unit × ((Bool × Unit) × Unit)) := f_law02_FiguresTakes_m () d
theorem ok_law02_FiguresTakes : FnOk Try.prog ET0 4 pi_law02_FiguresTakes po_law02_FiguresTakes g_law02_FiguresTakes :=
  fn_of_body (E := E_law02_FiguresTakes) (envOk_add (envOk_add (envOk_add (envOk_add (envOk_add (envOk_add e0_ok (typed_ok ok_law02_alive)) (typed_ok ok_hnum_Num)) (typed_ok ok_figures_Take)) (typed_ok ok_ref02_Take)) (typed_ok ok_figures_Whole)) (typed_ok ok_ref02_Whole)) (fn := Try.f4) Try.func4 (by kernel_rfl) (by kernel_rfl) [.tmp 6] (by kernel_rfl) (by kernel_rfl) (by decide) rfl c_law02_FiguresTakes L_law02_FiguresTakes
    (by intro x hx; cases hx) (by intro k x hx; cases hx) (fun d out h => ⟨0, (q_law02_FiguresTakes_m 0 d).trans h⟩)

/- internal/stringslite.HasPrefix -/
@[reducible] def pi_internal_stringslite_HasPrefix : PSh := ⟨[], [.mk false [.v .str], .mk false [.v .str]]⟩
@[reducible] def po_internal_stringslite_HasPrefix : PSh := ⟨[], [.mk false [.v .bool]]⟩
def f_internal_stringslite_HasPrefix_m (T : Unit) (d : Unit × ((ByteArray × Unit) × ((ByteArray × Unit) × Unit))) : Option (Unit × ((Bool × Unit) × Unit)) :=
  let x1 : Int := (d.2.1.1.size : Int)
  let x2 : Int := (d.2.2.1.1.size : Int)
  let x3 : Bool := (decide (x1 ≥ x2))
  bif x3 then (
  let x4 : Int := (d.2.2.1.1.size : Int)
  bif decide ((0 : Int) ≤ (0 : Int)) && decide ((0 : Int) ≤ x4) && decide (x4 ≤ (d.2.1.1.size : Int)) then (
  let x5 : ByteArray := (d.2.1.1.extract (Int.toNat (0 : Int)) (Int.toNat x4))
  let x6 : Bool := (x5.toList == d.2.2.1.1.toList)
  some ((), ((x6, ()), ())))
  else none)
  else (
  some ((), ((false, ()), ())))
def c_internal_stringslite_HasPrefix : List Nat := []
def L_internal_stringslite_HasPrefix (_ : Nat) : Pts po_internal_stringslite_HasPrefix.den := []
def E_internal_stringslite_HasPrefix : Env := E0
theorem q_internal_stringslite_HasPrefix_m (k : Nat) (d : Unit × ((ByteArray × Unit) × ((ByteArray × Unit) × Unit))) : evCode E_internal_stringslite_HasPrefix (tab (L_internal_stringslite_HasPrefix k)) c_internal_stringslite_HasPrefix (bodyOf Try.f49) 0 (finK E_internal_stringslite_HasPrefix po_internal_stringslite_HasPrefix [.tmp 4]) (startSt pi_internal_stringslite_HasPrefix 18 d) = f_internal_stringslite_HasPrefix_m () d := by kernel_rfl
def g_internal_stringslite_HasPrefix (d : Unit × ((ByteArray × Unit) × ((ByteArray × Unit) × Unit))) : Option (Unit × ((Bool × Unit) × Unit)) := f_internal_stringslite_HasPrefix_m () d
theorem ok_internal_stringslite_HasPrefix : FnOk Try.prog ET0 49 pi_internal_stringslite_HasPrefix po_internal_stringslite_HasPrefix g_internal_stringslite_HasPrefix :=
  fn_of_body (E := E_internal_stringslite_HasPrefix) e0_ok (fn := Try.f49) Try.func49 (by kernel_rfl) (by kernel_rfl) [.tmp 4] (by kernel_rfl) (by kernel_rfl) (by decide) rfl c_internal_stringslite_HasPrefix L_internal_stringslite_HasPrefix
    (by intro x hx; cases hx) (by intro k x hx; cases hx) (fun d out h => ⟨0, (q_internal_stringslite_HasPrefix_m 0 d).trans h⟩)

/- internal/stringslite.CutPrefix -/
@[reducible] def pi_internal_stringslite_CutPrefix : PSh := ⟨[], [.mk false [.v .str], .mk false [.v .str]]⟩
@[reducible] def po_internal_stringslite_CutPrefix : PSh := ⟨[], [.mk false [.v .str], .mk false [.v .bool]]⟩
def f_internal_stringslite_CutPrefix_m (T : Unit) (d : Unit × ((ByteArray × Unit) × ((ByteArray × Unit) × Unit))) : Option (Unit × ((ByteArray × Unit) × ((Bool × Unit) × Unit))) :=
  (g_internal_stringslite_HasPrefix ((), ((d.2.1.1, ()), ((d.2.2.1.1, ()), ())))).bind fun x1 =>
  let x2 : Bool := (!x1.2.1.1)
  bif x2 then (
  some ((), ((d.2.1.1, ()), ((false, ()), ()))))
  else (
  let x3 : Int := (d.2.2.1.1.size : Int)
  bif decide ((0 : Int) ≤ x3) && decide (x3 ≤ (d.2.1.1.size : Int)) && decide ((d.2.1.1.size : Int) ≤ (d.2.1.1.size : Int)) then (
  let x4 : ByteArray := (d.2.1.1.extract (Int.toNat x3) (Int.toNat (d.2.1.1.size : Int)))
  some ((), ((x4, ()), ((true, ()), ()))))
  else none)
def c_internal_stringslite_CutPrefix : List Nat := []
def L_internal_stringslite_CutPrefix (_ : Nat) : Pts po_internal_stringslite_CutPrefix.den := []
def E_internal_stringslite_CutPrefix : Env := (E0.add 49 (typedSem pi_internal_stringslite_HasPrefix po_internal_stringslite_HasPrefix g_internal_stringslite_HasPrefix))
theorem q_internal_stringslite_CutPrefix_m (k : Nat) (d : Unit × ((ByteArray × Unit) × ((ByteArray × Unit) × Unit))) : evCode E_internal_stringslite_CutPrefix (tab (L_internal_stringslite_CutPrefix k)) c_internal_stringslite_CutPrefix (bodyOf Try.f37) 0 (finK E_internal_stringslite_CutPrefix po_internal_stringslite_CutPrefix [.tmp 4, .tmp 5]) (startSt pi_internal_stringslite_CutPrefix 15 d) = f_internal_stringslite_CutPrefix_m () d := by kernel_rfl
def g_internal_stringslite_CutPrefix (d : Unit × ((ByteArray × Unit) × ((ByteArray × Unit) × Unit))) : Option (Unit × ((ByteArray × Unit) × ((Bool × Unit) × Unit))) := f_internal_stringslite_CutPrefix_m () d
theorem ok_internal_stringslite_CutPrefix : FnOk Try.prog ET0 37 pi_internal_stringslite_CutPrefix po_internal_stringslite_CutPrefix g_internal_stringslite_CutPrefix :=
  fn_of_body (E := E_internal_stringslite_CutPrefix) (envOk_add e0_ok (typed_ok ok_internal_stringslite_HasPrefix)) (fn := Try.f37) Try.func37 (by kernel_rfl) (by kernel_rfl) [.tmp 4, .tmp 5] (by kernel_rfl) (by kernel_rfl) (by decide) rfl c_internal_stringslite_CutPrefix L_internal_stringslite_CutPrefix
    (by intro x hx; cases hx) (by intro k x hx; cases hx) (fun d out h => ⟨0, (q_internal_stringslite_CutPrefix_m 0 d).trans h⟩)

/- strings.CutPrefix -/
@[reducible] def pi_strings_CutPrefix : PSh := ⟨[], [.mk false [.v .str], .mk false [.v .str]]⟩
@[reducible] def po_strings_CutPrefix : PSh := ⟨[], [.mk false [.v .str], .mk false [.v .bool]]⟩
def f_strings_CutPrefix_m (T : Unit) (d : Unit × ((ByteArray × Unit) × ((ByteArray × Unit) × Unit))) : Option (Unit × ((ByteArray × Unit) × ((Bool × Unit) × Unit))) :=
  (g_internal_stringslite_CutPrefix ((), ((d.2.1.1, ()), ((d.2.2.1.1, ()), ())))).bind fun x1 =>
  some ((), ((x1.2.1.1, ()), ((x1.2.2.1.1, ()), ())))
def c_strings_CutPrefix : List Nat := []
def L_strings_CutPrefix (_ : Nat) : Pts po_strings_CutPrefix.den := []
def E_strings_CutPrefix : Env := (E0.add 37 (typedSem pi_internal_stringslite_CutPrefix po_internal_stringslite_CutPrefix g_internal_stringslite_CutPrefix))
theorem q_strings_CutPrefix_m (k : Nat) (d : Unit × ((ByteArray × Unit) × ((ByteArray × Unit) × Unit))) : evCode E_strings_CutPrefix (tab (L_strings_CutPrefix k)) c_strings_CutPrefix (bodyOf Try.f26) 0 (finK E_strings_CutPrefix po_strings_CutPrefix [.tmp 4, .tmp 5]) (startSt pi_strings_CutPrefix 11 d) = f_strings_CutPrefix_m () d := by kernel_rfl
def g_strings_CutPrefix (d : Unit × ((ByteArray × Unit) × ((ByteArray × Unit) × Unit))) : Option (Unit × ((ByteArray × Unit) × ((Bool × Unit) × Unit))) := f_strings_CutPrefix_m () d
theorem ok_strings_CutPrefix : FnOk Try.prog ET0 26 pi_strings_CutPrefix po_strings_CutPrefix g_strings_CutPrefix :=
  fn_of_body (E := E_strings_CutPrefix) (envOk_add e0_ok (typed_ok ok_internal_stringslite_CutPrefix)) (fn := Try.f26) Try.func26 (by kernel_rfl) (by kernel_rfl) [.tmp 4, .tmp 5] (by kernel_rfl) (by kernel_rfl) (by decide) rfl c_strings_CutPrefix L_strings_CutPrefix
    (by intro x hx; cases hx) (by intro k x hx; cases hx) (fun d out h => ⟨0, (q_strings_CutPrefix_m 0 d).trans h⟩)

/- internal/stringslite.TrimPrefix -/
@[reducible] def pi_internal_stringslite_TrimPrefix : PSh := ⟨[], [.mk false [.v .str], .mk false [.v .str]]⟩
@[reducible] def po_internal_stringslite_TrimPrefix : PSh := ⟨[], [.mk false [.v .str]]⟩
def f_internal_stringslite_TrimPrefix_m (T : Unit) (d : Unit × ((ByteArray × Unit) × ((ByteArray × Unit) × Unit))) : Option (Unit × ((ByteArray × Unit) × Unit)) :=
  (g_internal_stringslite_HasPrefix ((), ((d.2.1.1, ()), ((d.2.2.1.1, ()), ())))).bind fun x1 =>
  bif x1.2.1.1 then (
  let x2 : Int := (d.2.2.1.1.size : Int)
  bif decide ((0 : Int) ≤ x2) && decide (x2 ≤ (d.2.1.1.size : Int)) && decide ((d.2.1.1.size : Int) ≤ (d.2.1.1.size : Int)) then (
  let x3 : ByteArray := (d.2.1.1.extract (Int.toNat x2) (Int.toNat (d.2.1.1.size : Int)))
  some ((), ((x3, ()), ())))
  else none)
  else (
  some ((), ((d.2.1.1, ()), ())))
def c_internal_stringslite_TrimPrefix : List Nat := []
def L_internal_stringslite_TrimPrefix (_ : Nat) : Pts po_internal_stringslite_TrimPrefix.den := []
def E_internal_stringslite_TrimPrefix : Env := (E0.add 49 (typedSem pi_internal_stringslite_HasPrefix po_internal_stringslite_HasPrefix g_internal_stringslite_HasPrefix))
theorem q_internal_stringslite_TrimPrefix_m (k : Nat) (d : Unit × ((ByteArray × Unit) × ((ByteArray × Unit) × Unit))) : evCode E_internal_stringslite_TrimPrefix (tab (L_internal_stringslite_TrimPrefix k)) c_internal_stringslite_TrimPrefix (bodyOf Try.f38) 0 (finK E_internal_stringslite_TrimPrefix po_internal_stringslite_TrimPrefix [.tmp 4]) (startSt pi_internal_stringslite_TrimPrefix 13 d) = f_internal_stringslite_TrimPrefix_m () d := by kernel_rfl
def g_internal_stringslite_TrimPrefix (d : Unit × ((ByteArray × Unit) × ((ByteArray × Unit) × Unit))) : Option (Unit × ((ByteArray × Unit) × Unit)) := f_internal_stringslite_TrimPrefix_m () d
theorem ok_internal_stringslite_TrimPrefix : FnOk Try.prog ET0 38 pi_internal_stringslite_TrimPrefix po_internal_stringslite_TrimPrefix g_internal_stringslite_TrimPrefix :=
  fn_of_body (E := E_internal_stringslite_TrimPrefix) (envOk_add e0_ok (typed_ok ok_internal_stringslite_HasPrefix)) (fn := Try.f38) Try.func38 (by kernel_rfl) (by kernel_rfl) [.tmp 4] (by kernel_rfl) (by kernel_rfl) (by decide) rfl c_internal_stringslite_TrimPrefix L_internal_stringslite_TrimPrefix
    (by intro x hx; cases hx) (by intro k x hx; cases hx) (fun d out h => ⟨0, (q_internal_stringslite_TrimPrefix_m 0 d).trans h⟩)

/- strings.TrimPrefix -/
@[reducible] def pi_strings_TrimPrefix : PSh := ⟨[], [.mk false [.v .str], .mk false [.v .str]]⟩
@[reducible] def po_strings_TrimPrefix : PSh := ⟨[], [.mk false [.v .str]]⟩
def f_strings_TrimPrefix_m (T : Unit) (d : Unit × ((ByteArray × Unit) × ((ByteArray × Unit) × Unit))) : Option (Unit × ((ByteArray × Unit) × Unit)) :=
  (g_internal_stringslite_TrimPrefix ((), ((d.2.1.1, ()), ((d.2.2.1.1, ()), ())))).bind fun x1 =>
  some ((), ((x1.2.1.1, ()), ()))
def c_strings_TrimPrefix : List Nat := []
def L_strings_TrimPrefix (_ : Nat) : Pts po_strings_TrimPrefix.den := []
def E_strings_TrimPrefix : Env := (E0.add 38 (typedSem pi_internal_stringslite_TrimPrefix po_internal_stringslite_TrimPrefix g_internal_stringslite_TrimPrefix))
theorem q_strings_TrimPrefix_m (k : Nat) (d : Unit × ((ByteArray × Unit) × ((ByteArray × Unit) × Unit))) : evCode E_strings_TrimPrefix (tab (L_strings_TrimPrefix k)) c_strings_TrimPrefix (bodyOf Try.f27) 0 (finK E_strings_TrimPrefix po_strings_TrimPrefix [.tmp 4]) (startSt pi_strings_TrimPrefix 8 d) = f_strings_TrimPrefix_m () d := by kernel_rfl
def g_strings_TrimPrefix (d : Unit × ((ByteArray × Unit) × ((ByteArray × Unit) × Unit))) : Option (Unit × ((ByteArray × Unit) × Unit)) := f_strings_TrimPrefix_m () d
theorem ok_strings_TrimPrefix : FnOk Try.prog ET0 27 pi_strings_TrimPrefix po_strings_TrimPrefix g_strings_TrimPrefix :=
  fn_of_body (E := E_strings_TrimPrefix) (envOk_add e0_ok (typed_ok ok_internal_stringslite_TrimPrefix)) (fn := Try.f27) Try.func27 (by kernel_rfl) (by kernel_rfl) [.tmp 4] (by kernel_rfl) (by kernel_rfl) (by decide) rfl c_strings_TrimPrefix L_strings_TrimPrefix
    (by intro x hx; cases hx) (by intro k x hx; cases hx) (fun d out h => ⟨0, (q_strings_TrimPrefix_m 0 d).trans h⟩)

/- horologe/figures.Signed -/
@[reducible] def pi_figures_Signed : PSh := ⟨[], [.mk false [.v .str], .mk false [.v (.int .i64)]]⟩
@[reducible] def po_figures_Signed : PSh := ⟨[], [.mk false [.v (.int .i64)], .mk false [.v .err]]⟩
def f_figures_Signed_m (T : Unit) (d : Unit × ((ByteArray × Unit) × ((Int × Unit) × Unit))) : Option (Unit × ((Int × Unit) × (((Option Int) × Unit) × Unit))) :=
  (g_strings_CutPrefix ((), ((d.2.1.1, ()), (((⟨#[45]⟩ : ByteArray), ()), ())))).bind fun x1 =>
  bif x1.2.2.1.1 then (
  let x2 : Int := (iadd .u64 (9223372036854775807 : Int) (1 : Int))
  (g_figures_whole ((), ((x1.2.1.1, ()), (((1 : Int), ()), ((d.2.2.1.1, ()), ((x2, ()), ())))))).bind fun x3 =>
  let x4 : Bool := (!x3.2.2.1.1.isNone)
  bif x4 then (
  some ((), (((0 : Int), ()), ((x3.2.2.1.1, ()), ()))))
  else (
  bif x1.2.2.1.1 then (
  let x5 : Int := (ineg .u64 x3.2.1.1)
  let x6 : Int := (iconv .i64 x5)
  some ((), ((x6, ()), (((none : Option Int), ()), ()))))
  else (
  let x7 : Int := (iconv .i64 x3.2.1.1)
  some ((), ((x7, ()), (((none : Option Int), ()), ()))))))
  else (
  (g_strings_TrimPrefix ((), ((d.2.1.1, ()), (((⟨#[43]⟩ : ByteArray), ()), ())))).bind fun x8 =>
  (g_figures_whole ((), ((x8.2.1.1, ()), (((1 : Int), ()), ((d.2.2.1.1, ()), (((9223372036854775807 : Int), ()), ())))))).bind fun x9 =>
  let x10 : Bool := (!x9.2.2.1.1.isNone)
  bif x10 then (
  some ((), (((0 : Int), ()), ((x9.2.2.1.1, ()), ()))))
  else (
  bif x1.2.2.1.1 then (
  let x11 : Int := (ineg .u64 x9.2.1.1)
  let x12 : Int := (iconv .i64 x11)
  some ((), ((x12, ()), (((none : Option Int), ()), ()))))
  else (
  let x13 : Int := (iconv .i64 x9.2.1.1)
  some ((), ((x13, ()), (((none : Option Int), ()), ()))))))
def c_figures_Signed : List Nat := []
def L_figures_Signed (_ : Nat) : Pts po_figures_Signed.den := []
def E_figures_Signed : Env := (((E0.add 25 (typedSem pi_figures_whole po_figures_whole g_figures_whole)).add 26 (typedSem pi_strings_CutPrefix po_strings_CutPrefix g_strings_CutPrefix)).add 27 (typedSem pi_strings_TrimPrefix po_strings_TrimPrefix g_strings_TrimPrefix))
theorem q_figures_Signed_m (k : Nat) (d : Unit × ((ByteArray × Unit) × ((Int × Unit) × Unit))) : evCode E_figures_Signed (tab (L_figures_Signed k)) c_figures_Signed (bodyOf Try.f16) 0 (finK E_figures_Signed po_figures_Signed [.tmp 4, .tmp 5]) (startSt pi_figures_Signed 39 d) = f_figures_Signed_m () d := by kernel_rfl
def g_figures_Signed (d : Unit × ((ByteArray × Unit) × ((Int × Unit) × Unit))) : Option (Unit × ((Int × Unit) × (((Option Int) × Unit) × Unit))) := f_figures_Signed_m () d
theorem ok_figures_Signed : FnOk Try.prog ET0 16 pi_figures_Signed po_figures_Signed g_figures_Signed :=
  fn_of_body (E := E_figures_Signed) (envOk_add (envOk_add (envOk_add e0_ok (typed_ok ok_figures_whole)) (typed_ok ok_strings_CutPrefix)) (typed_ok ok_strings_TrimPrefix)) (fn := Try.f16) Try.func16 (by kernel_rfl) (by kernel_rfl) [.tmp 4, .tmp 5] (by kernel_rfl) (by kernel_rfl) (by decide) rfl c_figures_Signed L_figures_Signed
    (by intro x hx; cases hx) (by intro k x hx; cases hx) (fun d out h => ⟨0, (q_figures_Signed_m 0 d).trans h⟩)

/- horologe/horologeref01.Minus -/
@[reducible] def pi_ref01_Minus : PSh := ⟨[], [.mk true [.v .bool, .v (.sl (.int .u64))]]⟩
@[reducible] def po_ref01_Minus : PSh := ⟨[], [.mk true [.v .bool, .v (.sl (.int .u64))]]⟩
def f_ref01_Minus_m (T : Unit) (d : Unit × ((Bool × ((List Int) × Unit)) × Unit)) : Option (Unit × ((Bool × ((List Int) × Unit)) × Unit)) :=
  let x1 : Bool := (!d.2.1.1)
  bif x1 then (
  let x2 : Int := (d.2.1.2.1.length : Int)
  let x3 : Bool := (decide (x2 > (0 : Int)))
  some ((), ((x3, (d.2.1.2.1, ())), ())))
  else (
  some ((), ((false, (d.2.1.2.1, ())), ())))
def c_ref01_Minus : List Nat := []
def L_ref01_Minus (_ : Nat) : Pts po_ref01_Minus.den := []
def E_ref01_Minus : Env := E0
theorem q_ref01_Minus_m (k : Nat) (d : Unit × ((Bool × ((List Int) × Unit)) × Unit)) : evCode E_ref01_Minus (tab (L_ref01_Minus k)) c_ref01_Minus (bodyOf Try.f28) 0 (finK E_ref01_Minus po_ref01_Minus [.cell 2 57]) (startSt pi_ref01_Minus 15 d) = f_ref01_Minus_m () d := by kernel_rfl
def g_ref01_Minus (d : Unit × ((Bool × ((List Int) × Unit)) × Unit)) : Option (Unit × ((Bool × ((List Int) × Unit)) × Unit)) := f_ref01_Minus_m () d
theorem ok_ref01_Minus : FnOk Try.prog ET0 28 pi_ref01_Minus po_ref01_Minus g_ref01_Minus :=
  fn_of_body (E := E_ref01_Minus) e0_ok (fn := Try.f28) Try.func28 (by kernel_rfl) (by kernel_rfl) [.cell 2 57] (by kernel_rfl) (by kernel_rfl) (by decide) rfl c_ref01_Minus L_ref01_Minus
    (by intro x hx; cases hx) (by intro k x hx; cases hx) (fun d out h => ⟨0, (q_ref01_Minus_m 0 d).trans h⟩)

/- horologe/horologeref02.Signed -/
@[reducible] def pi_ref02_Signed : PSh := ⟨[], [.mk false [.v .str], .mk false [.v (.int .i64)]]⟩
@[reducible] def po_ref02_Signed : PSh := ⟨[], [.mk false [.v (.int .i64)], .mk false [.v (.int .i64)]]⟩
@[reducible] def TT_ref02_Signed : Type := (((Unit × ((ByteArray × Unit) × ((Bool × Unit) × ((Int × Unit) × Unit)))) → Option (Unit × ((Int × Unit) × ((Int × Unit) × Unit)))) × Unit)
@[reducible] def sh_ref02_Signed_8 : PSh := ⟨[], [.mk false [.v .str], .any, .any, .any, .any, .any, .mk false [.v .bool], .mk false [.v (.int .i64)], .any, .any, .any, .any, .any, .any, .any, .any, .any, .any, .any, .any, .any, .any, .any, .any, .any, .any, .any, .any, .any, .any, .any, .any, .any, .any, .any, .any, .any, .any, .any, .any, .any, .any, .any, .any, .any, .any, .any, .any, .any, .any, .any, .any, .any, .any, .any, .any, .any, .any, .any, .any, .any, .any, .any, .any, .any, .any, .any, .any, .any, .any]⟩
def f_ref02_Signed_p8 (T : TT_ref02_Signed) (d : Unit × ((ByteArray × Unit) × ((Bool × Unit) × ((Int × Unit) × Unit)))) : Option (Unit × ((Int × Unit) × ((Int × Unit) × Unit))) :=
  let x39 : Bool := (decide (d.2.2.2.1.1 < (1 : Int)))
  bif x39 then (
  some ((), (((0 : Int), ()), (((2 : Int), ()), ()))))
  else (
  bif decide ((0 : Int) ≤ (0 : Int)) && decide ((0 : Int) ≤ d.2.2.2.1.1) && decide (d.2.2.2.1.1 ≤ (d.2.1.1.size : Int)) then (
  let x40 : ByteArray := (d.2.1.1.extract (Int.toNat (0 : Int)) (Int.toNat d.2.2.2.1.1))
  (g_ref02_Big ((), ((x40, ()), ()))).bind fun x41 =>
  bif d.2.2.1.1 then (
  (g_ref01_Minus ((), ((x41.2.1.1, (x41.2.1.2.1, ())), ()))).bind fun x42 =>
  (g_ref01_Small ((), ((x42.2.1.1, (x42.2.1.2.1, ())), ()))).bind fun x43 =>
  let x44 : Bool := (x43.2.2.1.1 == (0 : Int))
  bif x44 then (
  let x45 : Int := (d.2.1.1.size : Int)
  let x46 : Bool := (decide (d.2.2.2.1.1 < x45))
  bif x46 then (
  some ((), (((0 : Int), ()), (((2 : Int), ()), ()))))
  else (
  some ((), ((x43.2.1.1, ()), ((x43.2.2.1.1, ()), ())))))
  else (
  some ((), ((x43.2.1.1, ()), ((x43.2.2.1.1, ()), ())))))
  else (
  (g_ref01_Small ((), ((x41.2.1.1, (x41.2.1.2.1, ())), ()))).bind fun x47 =>
  let x48 : Bool := (x47.2.2.1.1 == (0 : Int))
  bif x48 then (
  let x49 : Int := (d.2.1.1.size : Int)
  let x50 : Bool := (decide (d.2.2.2.1.1 < x49))
  bif x50 then (
  some ((), (((0 : Int), ()), (((2 : Int), ()), ()))))
  else (
  some ((), ((x47.2.1.1, ()), ((x47.2.2.1.1, ()), ())))))
  else (
  some ((), ((x47.2.1.1, ()), ((x47.2.2.1.1, ()), ()))))))
  else none)
def f_ref02_Signed_t : Nat → TT_ref02_Signed
  | 0 => (fun _ => none, ())
  | k + 1 => (f_ref02_Signed_p8 (f_ref02_Signed_t k), ())
theorem t_ref02_Signed (k : Nat) : f_ref02_Signed_t (k + 1) = (f_ref02_Signed_p8 (f_ref02_Signed_t k), ()) := rfl
def f_ref02_Signed_m (T : TT_ref02_Signed) (d : Unit × ((ByteArray × Unit) × ((Int × Unit) × Unit))) : Option (Unit × ((Int × Unit) × ((Int × Unit) × Unit))) :=
  let x1 : Bool := (decide (d.2.2.1.1 < (1 : Int)))
  bif x1 then (
  some ((), (((0 : Int), ()), (((1 : Int), ()), ()))))
  else (
  let x2 : Bool := (decide (d.2.2.1.1 > (20 : Int)))
  bif x2 then (
  some ((), (((0 : Int), ()), (((1 : Int), ()), ()))))
  else (
  let x3 : Int := (d.2.1.1.size : Int)
  let x4 : Bool := (decide (x3 > (0 : Int)))
  bif x4 then (
  bif decide ((0 : Int) ≤ (0 : Int)) && decide ((0 : Int) < ((d.2.1.1.size : Int) : Int)) then (
  let x5 : Int := (bt d.2.1.1 (0 : Int))
  let x6 : Bool := (x5 == (45 : Int))
  let x7 : Int := (d.2.1.1.size : Int)
  let x8 : Bool := (decide (x7 > (0 : Int)))
  bif x8 then (
  bif decide ((0 : Int) ≤ (0 : Int)) && decide ((0 : Int) < ((d.2.1.1.size : Int) : Int)) then (
  let x9 : Int := (bt d.2.1.1 (0 : Int))
  let x10 : Bool := (x9 == (45 : Int))
  bif x10 then (
  bif decide ((1 : Int) ≤ (d.2.1.1.size : Int)) && decide ((d.2.1.1.size : Int) ≤ (d.2.1.1.size : Int)) then (
  let x11 : ByteArray := (d.2.1.1.extract (Int.toNat (1 : Int)) (Int.toNat (d.2.1.1.size : Int)))
  (g_ref02_Many ((), ((x11, ()), ()))).bind fun x12 =>
  let x13 : Bool := (decide (x12.2.1.1 > d.2.2.1.1))
  bif x13 then (
  (T.1 ((), ((x11, ()), ((x6, ()), ((d.2.2.1.1, ()), ()))))))
  else (
  (T.1 ((), ((x11, ()), ((x6, ()), ((x12.2.1.1, ()), ())))))))
  else none)
  else (
  bif decide ((0 : Int) ≤ (0 : Int)) && decide ((0 : Int) < ((d.2.1.1.size : Int) : Int)) then (
  let x14 : Int := (bt d.2.1.1 (0 : Int))
  let x15 : Bool := (x14 == (43 : Int))
  bif x15 then (
  bif decide ((1 : Int) ≤ (d.2.1.1.size : Int)) && decide ((d.2.1.1.size : Int) ≤ (d.2.1.1.size : Int)) then (
  let x16 : ByteArray := (d.2.1.1.extract (Int.toNat (1 : Int)) (Int.toNat (d.2.1.1.size : Int)))
  (g_ref02_Many ((), ((x16, ()), ()))).bind fun x17 =>
  let x18 : Bool := (decide (x17.2.1.1 > d.2.2.1.1))
  bif x18 then (
  (T.1 ((), ((x16, ()), ((x6, ()), ((d.2.2.1.1, ()), ()))))))
  else (
  (T.1 ((), ((x16, ()), ((x6, ()), ((x17.2.1.1, ()), ())))))))
  else none)
  else (
  (g_ref02_Many ((), ((d.2.1.1, ()), ()))).bind fun x19 =>
  let x20 : Bool := (decide (x19.2.1.1 > d.2.2.1.1))
  bif x20 then (
  (T.1 ((), ((d.2.1.1, ()), ((x6, ()), ((d.2.2.1.1, ()), ()))))))
  else (
  (T.1 ((), ((d.2.1.1, ()), ((x6, ()), ((x19.2.1.1, ()), ()))))))))
  else none))
  else none)
  else (
  (g_ref02_Many ((), ((d.2.1.1, ()), ()))).bind fun x21 =>
  let x22 : Bool := (decide (x21.2.1.1 > d.2.2.1.1))
  bif x22 then (
  (T.1 ((), ((d.2.1.1, ()), ((x6, ()), ((d.2.2.1.1, ()), ()))))))
  else (
  (T.1 ((), ((d.2.1.1, ()), ((x6, ()), ((x21.2.1.1, ()), ()))))))))
  else none)
  else (
  let x23 : Int := (d.2.1.1.size : Int)
  let x24 : Bool := (decide (x23 > (0 : Int)))
  bif x24 then (
  bif decide ((0 : Int) ≤ (0 : Int)) && decide ((0 : Int) < ((d.2.1.1.size : Int) : Int)) then (
  let x25 : Int := (bt d.2.1.1 (0 : Int))
  let x26 : Bool := (x25 == (45 : Int))
  bif x26 then (
  bif decide ((1 : Int) ≤ (d.2.1.1.size : Int)) && decide ((d.2.1.1.size : Int) ≤ (d.2.1.1.size : Int)) then (
  let x27 : ByteArray := (d.2.1.1.extract (Int.toNat (1 : Int)) (Int.toNat (d.2.1.1.size : Int)))
  (g_ref02_Many ((), ((x27, ()), ()))).bind fun x28 =>
  let x29 : Bool := (decide (x28.2.1.1 > d.2.2.1.1))
  bif x29 then (
  (T.1 ((), ((x27, ()), ((false, ()), ((d.2.2.1.1, ()), ()))))))
  else (
  (T.1 ((), ((x27, ()), ((false, ()), ((x28.2.1.1, ()), ())))))))
  else none)
  else (
  bif decide ((0 : Int) ≤ (0 : Int)) && decide ((0 : Int) < ((d.2.1.1.size : Int) : Int)) then (
  let x30 : Int := (bt d.2.1.1 (0 : Int))
  let x31 : Bool := (x30 == (43 : Int))
  bif x31 then (
  bif decide ((1 : Int) ≤ (d.2.1.1.size : Int)) && decide ((d.2.1.1.size : Int) ≤ (d.2.1.1.size : Int)) then (
  let x32 : ByteArray := (d.2.1.1.extract (Int.toNat (1 : Int)) (Int.toNat (d.2.1.1.size : Int)))
  (g_ref02_Many ((), ((x32, ()), ()))).bind fun x33 =>
  let x34 : Bool := (decide (x33.2.1.1 > d.2.2.1.1))
  bif x34 then (
  (T.1 ((), ((x32, ()), ((false, ()), ((d.2.2.1.1, ()), ()))))))
  else (
  (T.1 ((), ((x32, ()), ((false, ()), ((x33.2.1.1, ()), ())))))))
  else none)
  else (
  (g_ref02_Many ((), ((d.2.1.1, ()), ()))).bind fun x35 =>
  let x36 : Bool := (decide (x35.2.1.1 > d.2.2.1.1))
  bif x36 then (
  (T.1 ((), ((d.2.1.1, ()), ((false, ()), ((d.2.2.1.1, ()), ()))))))
  else (
  (T.1 ((), ((d.2.1.1, ()), ((false, ()), ((x35.2.1.1, ()), ()))))))))
  else none))
  else none)
  else (
  (g_ref02_Many ((), ((d.2.1.1, ()), ()))).bind fun x37 =>
  let x38 : Bool := (decide (x37.2.1.1 > d.2.2.1.1))
  bif x38 then (
  (T.1 ((), ((d.2.1.1, ()), ((false, ()), ((d.2.2.1.1, ()), ()))))))
  else (
  (T.1 ((), ((d.2.1.1, ()), ((false, ()), ((x37.2.1.1, ()), ()))))))))))
def c_ref02_Signed : List Nat := [8]
def L_ref02_Signed (k : Nat) : Pts po_ref02_Signed.den := [(8, ⟨sh_ref02_Signed_8, (f_ref02_Signed_t k).1⟩)]
def E_ref02_Signed : Env := ((((E0.add 22 (typedSem pi_ref02_Many po_ref02_Many g_ref02_Many)).add 23 (typedSem pi_ref01_Small po_ref01_Small g_ref01_Small)).add 24 (typedSem pi_ref02_Big po_ref02_Big g_ref02_Big)).add 28 (typedSem pi_ref01_Minus po_ref01_Minus g_ref01_Minus))
theorem q_ref02_Signed_8 (k : Nat) (d : Unit × ((ByteArray × Unit) × ((Bool × Unit) × ((Int × Unit) × Unit)))) : evAt E_ref02_Signed (tab (L_ref02_Signed k)) c_ref02_Signed 8 (bodyOf Try.f17) 0 (finK E_ref02_Signed po_ref02_Signed [.tmp 4, .tmp 5]) (ptSt sh_ref02_Signed_8 d) = f_ref02_Signed_p8 (f_ref02_Signed_t k) d := by kernel_rfl
theorem q_ref02_Signed_m (k : Nat) (d : Unit × ((ByteArray × Unit) × ((Int × Unit) × Unit))) : evCode E_ref02_Signed (tab (L_ref02_Signed k)) c_ref02_Signed (bodyOf Try.f17) 0 (finK E_ref02_Signed po_ref02_Signed [.tmp 4, .tmp 5]) (startSt pi_ref02_Signed 70 d) = f_ref02_Signed_m (f_ref02_Signed_t k) d := by kernel_rfl
theorem go_ref02_Signed (G : Unit × ((ByteArray × Unit) × ((Int × Unit) × Unit)) → Option (Unit × ((Int × Unit) × ((Int × Unit) × Unit)))) (hG : ∀ d out, G d = some out → ∃ k, f_ref02_Signed_m (f_ref02_Signed_t k) d = some out) : FnOk Try.prog ET0 17 pi_ref02_Signed po_ref02_Signed G :=
  fn_of_body (E := E_ref02_Signed) (envOk_add (envOk_add (envOk_add (envOk_add e0_ok (typed_ok ok_ref02_Many)) (typed_ok ok_ref01_Small)) (typed_ok ok_ref02_Big)) (typed_ok ok_ref01_Minus)) (fn := Try.f17) Try.func17 (by kernel_rfl) (by kernel_rfl) [.tmp 4, .tmp 5] (by kernel_rfl) (by kernel_rfl) (by decide) rfl c_ref02_Signed L_ref02_Signed
    (by intro x hx d; simp only [L_ref02_Signed, List.mem_cons, List.not_mem_nil, or_false] at hx; subst hx; rfl)
    (by intro k x hx d out h; simp only [L_ref02_Signed, List.mem_cons, List.not_mem_nil, or_false] at hx; subst hx; exact (q_ref02_Signed_8 k d).trans h)
    (by intro d out h; obtain ⟨k, hk⟩ := hG d out h; exact ⟨k, (q_ref02_Signed_m k d).trans hk⟩)
def g_ref02_Signed (d : Unit × ((ByteArray × Unit) × ((Int × Unit) × Unit))) : Option (Unit × ((Int × Unit) × ((Int × Unit) × Unit))) := lim fun k => f_ref02_Signed_m (f_ref02_Signed_t k) d
theorem ok_ref02_Signed : FnOk Try.prog ET0 17 pi_ref02_Signed po_ref02_Signed g_ref02_Signed := go_ref02_Signed g_ref02_Signed fun d out h => lim_some h

/- horologe/horologelaw02.FiguresSigned -/
@[reducible] def pi_law02_FiguresSigned : PSh := ⟨[], [.mk false [.v .str], .mk false [.v (.int .i64)]]⟩
@[reducible] def po_law02_FiguresSigned : PSh := ⟨[], [.mk false [.v .bool]]⟩
def f_law02_FiguresSigned_m (T : Unit) (d : Unit × ((ByteArray × Unit) × ((Int × Unit) × Unit))) : Option (Unit × ((Bool × Unit) × Unit)) :=
  (g_law02_alive ((), ())).bind fun x1 =>
  let x2 : Bool := (!x1.2.1.1)
  bif x2 then (
  some ((), ((false, ()), ())))
  else (
  let x3 : Int := (d.2.1.1.size : Int)
  let x4 : Bool := (decide (x3 > (300 : Int)))
  bif x4 then (
  some ((), ((true, ()), ())))
  else (
  (g_figures_Signed ((), ((d.2.1.1, ()), ((d.2.2.1.1, ()), ())))).bind fun x5 =>
  (g_ref02_Signed ((), ((d.2.1.1, ()), ((d.2.2.1.1, ()), ())))).bind fun x6 =>
  let x7 : Bool := (x5.2.1.1 == x6.2.1.1)
  bif x7 then (
  (g_hnum_Num ((), ((x5.2.2.1.1, ()), ()))).bind fun x8 =>
  let x9 : Bool := (x8.2.1.1 == x6.2.2.1.1)
  some ((), ((x9, ()), ())))
  else (
  some ((), ((false, ()), ())))))
def c_law02_FiguresSigned : List Nat := []
def L_law02_FiguresSigned (_ : Nat) : Pts po_law02_FiguresSigned.den := []
def E_law02_FiguresSigned : Env := ((((E0.add 6 (typedSem pi_law02_alive po_law02_alive g_law02_alive)).add 9 (typedSem pi_hnum_Num po_hnum_Num g_hnum_Num)).add 16 (typedSem pi_figures_Signed po_figures_Signed g_figures_Signed)).add 17 (typedSem pi_ref02_Signed po_ref02_Signed g_ref02_Signed))
theorem q_law02_FiguresSigned_m (k : Nat) (d : Unit × ((ByteArray × Unit) × ((Int × Unit) × Unit))) : evCode E_law02_FiguresSigned (tab (L_law02_FiguresSigned k)) c_law02_FiguresSigned (bodyOf Try.f5) 0 (finK E_law02_FiguresSigned po_law02_FiguresSigned [.tmp 4]) (startSt pi_law02_FiguresSigned 35 d) = f_law02_FiguresSigned_m () d := by kernel_rfl
def g_law02_FiguresSigned (d : Unit × ((ByteArray × Unit) × ((Int × Unit) × Unit))) : Option (Unit × ((Bool × Unit) × Unit)) := f_law02_FiguresSigned_m () d
theorem ok_law02_FiguresSigned : FnOk Try.prog ET0 5 pi_law02_FiguresSigned po_law02_FiguresSigned g_law02_FiguresSigned :=
  fn_of_body (E := E_law02_FiguresSigned) (envOk_add (envOk_add (envOk_add (envOk_add e0_ok (typed_ok ok_law02_alive)) (typed_ok ok_hnum_Num)) (typed_ok ok_figures_Signed)) (typed_ok ok_ref02_Signed)) (fn := Try.f5) Try.func5 (by kernel_rfl) (by kernel_rfl) [.tmp 4] (by kernel_rfl) (by kernel_rfl) (by decide) rfl c_law02_FiguresSigned L_law02_FiguresSigned
    (by intro x hx; cases hx) (by intro k x hx; cases hx) (fun d out h => ⟨0, (q_law02_FiguresSigned_m 0 d).trans h⟩)
end
end Go.Proofs.Ytfdppbfefplikaa.Ev
