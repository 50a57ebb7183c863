/- Printed by wip/tools/evgen.py. -/
import Derived.Test.YticfncahnhbhbaaEvGa
import Derived.Test.YticfncahnhbhbaaEvE
import Derived.Test.YticfncahnhbhbaaProg
import Derived.KernelRfl
set_option maxRecDepth 100000
set_option maxHeartbeats 2000000
set_option linter.unusedVariables false
namespace Go.Proofs.Yticfncahnhbhbaa.Ev
open Go
noncomputable section

/- (*horologe/scan.Scanner[string]).going -/
@[reducible] def pi_scan_Scanner_string_going : PSh := ⟨[], [.mk false [.v (.nptr (.pair .str (.pair (.int .i64) .err)))]]⟩
@[reducible] def po_scan_Scanner_string_going : PSh := ⟨[], [.mk false [.v .bool]]⟩
def f_scan_Scanner_string_going_m (T : Unit) (d : Unit × (((Option (ByteArray × (Int × (Option Int)))) × Unit) × Unit)) : Option (Unit × ((Bool × Unit) × Unit)) :=
  let x1 : Bool := (!d.2.1.1.isNone)
  bif x1 then (
  d.2.1.1.bind fun x2 =>
  some ((), ((x2.2.2.isNone, ()), ())))
  else (
  some ((), ((false, ()), ())))
def c_scan_Scanner_string_going : List Nat := []
def L_scan_Scanner_string_going (_ : Nat) : Pts po_scan_Scanner_string_going.den := []
def E_scan_Scanner_string_going : Env := E0
theorem q_scan_Scanner_string_going_m (k : Nat) (d : Unit × (((Option (ByteArray × (Int × (Option Int)))) × Unit) × Unit)) : evCode E_scan_Scanner_string_going (tab (L_scan_Scanner_string_going k)) c_scan_Scanner_string_going (bodyOf Try.f138) 0 (finK E_scan_Scanner_string_going po_scan_Scanner_string_going [.tmp 2]) (startSt pi_scan_Scanner_string_going 12 d) = f_scan_Scanner_string_going_m () d := by kernel_rfl
def g_scan_Scanner_string_going (d : Unit × (((Option (ByteArray × (Int × (Option Int)))) × Unit) × Unit)) : Option (Unit × ((Bool × Unit) × Unit)) := f_scan_Scanner_string_going_m () d
theorem ok_scan_Scanner_string_going : FnOk Try.prog ET0 138 pi_scan_Scanner_string_going po_scan_Scanner_string_going g_scan_Scanner_string_going :=
  fn_of_body (E := E_scan_Scanner_string_going) e0_ok (fn := Try.f138) Try.func138 (by kernel_rfl) (by kernel_rfl) [.tmp 2] (by kernel_rfl) (by kernel_rfl) (by decide) rfl c_scan_Scanner_string_going L_scan_Scanner_string_going
    (by intro x hx; cases hx) (by intro k x hx; cases hx) (fun d out h => ⟨0, (q_scan_Scanner_string_going_m 0 d).trans h⟩)

/- horologe/figures.Is -/
@[reducible] def pi_figures_Is : PSh := ⟨[], [.mk false [.v (.int .u8)]]⟩
@[reducible] def po_figures_Is : PSh := ⟨[], [.mk false [.v .bool]]⟩
def f_figures_Is_m (T : Unit) (d : Unit × ((Int × Unit) × Unit)) : Option (Unit × ((Bool × Unit) × Unit)) :=
  let x1 : Bool := (decide (d.2.1.1 ≥ (48 : Int)))
  bif x1 then (
  let x2 : Bool := (decide (d.2.1.1 ≤ (57 : Int)))
  some ((), ((x2, ()), ())))
  else (
  some ((), ((false, ()), ())))
def c_figures_Is : List Nat := []
def L_figures_Is (_ : Nat) : Pts po_figures_Is.den := []
def E_figures_Is : Env := E0
theorem q_figures_Is_m (k : Nat) (d : Unit × ((Int × Unit) × Unit)) : evCode E_figures_Is (tab (L_figures_Is k)) c_figures_Is (bodyOf Try.f177) 0 (finK E_figures_Is po_figures_Is [.tmp 2]) (startSt pi_figures_Is 9 d) = f_figures_Is_m () d := by kernel_rfl
def g_figures_Is (d : Unit × ((Int × Unit) × Unit)) : Option (Unit × ((Bool × Unit) × Unit)) := f_figures_Is_m () d
theorem ok_figures_Is : FnOk Try.prog ET0 177 pi_figures_Is po_figures_Is g_figures_Is :=
  fn_of_body (E := E_figures_Is) e0_ok (fn := Try.f177) Try.func177 (by kernel_rfl) (by kernel_rfl) [.tmp 2] (by kernel_rfl) (by kernel_rfl) (by decide) rfl c_figures_Is L_figures_Is
    (by intro x hx; cases hx) (by intro k x hx; cases hx) (fun d out h => ⟨0, (q_figures_Is_m 0 d).trans h⟩)

/- horologe/figures.run -/
@[reducible] def pi_figures_run : PSh := ⟨[], [.mk false [.v .str], .mk false [.v (.int .i64)]]⟩
@[reducible] def po_figures_run : PSh := ⟨[], [.mk false [.v (.int .i64)]]⟩
@[reducible] def TT_figures_run : Type := (((Unit × ((ByteArray × Unit) × ((Int × Unit) × ((Int × Unit) × Unit)))) → Option (Unit × ((Int × Unit) × Unit))) × Unit)
@[reducible] def sh_figures_run_3 : PSh := ⟨[], [.mk false [.v .str], .mk false [.v (.int .i64)], .any, .any, .any, .mk false [.v (.int .i64)], .any, .any, .any, .any, .any, .any, .any, .any, .any, .any, .any, .any, .any, .any, .any]⟩
def f_figures_run_p3 (T : TT_figures_run) (d : Unit × ((ByteArray × Unit) × ((Int × Unit) × ((Int × Unit) × Unit)))) : Option (Unit × ((Int × Unit) × Unit)) :=
  let x1 : Int := (d.2.1.1.size : Int)
  let x2 : Int := (if d.2.2.1.1 < x1 then d.2.2.1.1 else x1)
  let x3 : Bool := (decide (d.2.2.2.1.1 < x2))
  bif x3 then (
  bif decide ((0 : Int) ≤ d.2.2.2.1.1) && decide (d.2.2.2.1.1 < ((d.2.1.1.size : Int) : Int)) then (
  let x4 : Int := (bt d.2.1.1 d.2.2.2.1.1)
  (g_figures_Is ((), ((x4, ()), ()))).bind fun x5 =>
  bif x5.2.1.1 then (
  let x6 : Int := (iadd .i64 d.2.2.2.1.1 (1 : Int))
  (T.1 ((), ((d.2.1.1, ()), ((d.2.2.1.1, ()), ((x6, ()), ()))))))
  else (
  some ((), ((d.2.2.2.1.1, ()), ()))))
  else none)
  else (
  some ((), ((d.2.2.2.1.1, ()), ())))
def f_figures_run_t : Nat → TT_figures_run
  | 0 => (fun _ => none, ())
  | k + 1 => (f_figures_run_p3 (f_figures_run_t k), ())
theorem t_figures_run (k : Nat) : f_figures_run_t (k + 1) = (f_figures_run_p3 (f_figures_run_t k), ()) := rfl
def f_figures_run_m (T : TT_figures_run) (d : Unit × ((ByteArray × Unit) × ((Int × Unit) × Unit))) : Option (Unit × ((Int × Unit) × Unit)) :=
  (T.1 ((), ((d.2.1.1, ()), ((d.2.2.1.1, ()), (((0 : Int), ()), ())))))
def c_figures_run : List Nat := []
def L_figures_run (k : Nat) : Pts po_figures_run.den := [(3, ⟨sh_figures_run_3, (f_figures_run_t k).1⟩)]
def E_figures_run : Env := (E0.add 177 (typedSem pi_figures_Is po_figures_Is g_figures_Is))
theorem q_figures_run_3 (k : Nat) (d : Unit × ((ByteArray × Unit) × ((Int × Unit) × ((Int × Unit) × Unit)))) : evAt E_figures_run (tab (L_figures_run k)) c_figures_run 3 (bodyOf Try.f174) 0 (finK E_figures_run po_figures_run [.tmp 4]) (ptSt sh_figures_run_3 d) = f_figures_run_p3 (f_figures_run_t k) d := by kernel_rfl
theorem q_figures_run_m (k : Nat) (d : Unit × ((ByteArray × Unit) × ((Int × Unit) × Unit))) : evCode E_figures_run (tab (L_figures_run k)) c_figures_run (bodyOf Try.f174) 0 (finK E_figures_run po_figures_run [.tmp 4]) (startSt pi_figures_run 21 d) = f_figures_run_m (f_figures_run_t k) d := by kernel_rfl
theorem go_figures_run (F : Unit × ((ByteArray × Unit) × ((Int × Unit) × Unit)) → Option (Unit × ((Int × Unit) × Unit))) (hF : ∀ d out, F d = some out → ∃ k, f_figures_run_m (f_figures_run_t k) d = some out) : FnOk Try.prog ET0 174 pi_figures_run po_figures_run F :=
  fn_of_body (E := E_figures_run) (envOk_add e0_ok (typed_ok ok_figures_Is)) (fn := Try.f174) Try.func174 (by kernel_rfl) (by kernel_rfl) [.tmp 4] (by kernel_rfl) (by kernel_rfl) (by decide) rfl c_figures_run L_figures_run
    (by intro x hx d; simp only [L_figures_run, List.mem_cons, List.not_mem_nil, or_false] at hx; subst hx; rfl)
    (by intro k x hx d out h; simp only [L_figures_run, List.mem_cons, List.not_mem_nil, or_false] at hx; subst hx; exact (q_figures_run_3 k d).trans h)
    (by intro d out h; obtain ⟨k, hk⟩ := hF d out h; exact ⟨k, (q_figures_run_m k d).trans hk⟩)
def g_figures_run (d : Unit × ((ByteArray × Unit) × ((Int × Unit) × Unit))) : Option (Unit × ((Int × Unit) × Unit)) := lim fun k => f_figures_run_m (f_figures_run_t k) d
theorem ok_figures_run : FnOk Try.prog ET0 174 pi_figures_run po_figures_run g_figures_run := go_figures_run g_figures_run fun d out h => lim_some h

/- horologe/figures.value -/
@[reducible] def pi_figures_value : PSh := ⟨[], [.mk false [.v .str], .mk false [.v (.int .u64)]]⟩
@[reducible] def po_figures_value : PSh := ⟨[], [.mk false [.v (.int .u64)], .mk false [.v .err]]⟩
@[reducible] def TT_figures_value : Type := (((Unit × ((ByteArray × Unit) × ((Int × Unit) × ((Int × Unit) × ((Int × Unit) × ((Int × Unit) × Unit)))))) → Option (Unit × ((Int × Unit) × (((Option Int) × Unit) × Unit)))) × Unit)
@[reducible] def sh_figures_value_4 : PSh := ⟨[], [.mk false [.v .str], .mk false [.v (.int .u64)], .any, .any, .any, .any, .mk false [.v (.int .u64)], .any, .any, .any, .mk false [.v (.int .i64)], .mk false [.v (.int .i64)], .any, .any, .any, .any, .any, .any, .any, .any, .any, .any, .any, .any, .any, .any, .any, .any, .any, .any, .any, .any]⟩
def f_figures_value_p4 (T : TT_figures_value) (d : Unit × ((ByteArray × Unit) × ((Int × Unit) × ((Int × Unit) × ((Int × Unit) × ((Int × Unit) × Unit)))))) : Option (Unit × ((Int × Unit) × (((Option Int) × Unit) × Unit))) :=
  let x2 : Bool := (decide (d.2.2.2.2.2.1.1 < d.2.2.2.2.1.1))
  bif x2 then (
  bif decide ((0 : Int) ≤ d.2.2.2.2.2.1.1) && decide (d.2.2.2.2.2.1.1 < ((d.2.1.1.size : Int) : Int)) then (
  let x3 : Int := (bt d.2.1.1 d.2.2.2.2.2.1.1)
  let x4 : Int := (isub .u8 x3 (48 : Int))
  let x5 : Int := (iconv .u64 x4)
  let x6 : Int := (isub .u64 d.2.2.1.1 x5)
  let x7 : Int := (iquo .u64 x6 (10 : Int))
  let x8 : Bool := (decide (d.2.2.2.1.1 > x7))
  bif x8 then (
  let x9 : (Option Int) := (some (5 : Int))
  some ((), (((0 : Int), ()), ((x9, ()), ()))))
  else (
  let x10 : Int := (imul .u64 d.2.2.2.1.1 (10 : Int))
  let x11 : Int := (iadd .u64 x10 x5)
  let x12 : Int := (iadd .i64 d.2.2.2.2.2.1.1 (1 : Int))
  (T.1 ((), ((d.2.1.1, ()), ((d.2.2.1.1, ()), ((x11, ()), ((d.2.2.2.2.1.1, ()), ((x12, ()), ())))))))))
  else none)
  else (
  some ((), ((d.2.2.2.1.1, ()), (((none : Option Int), ()), ()))))
def f_figures_value_t : Nat → TT_figures_value
  | 0 => (fun _ => none, ())
  | k + 1 => (f_figures_value_p4 (f_figures_value_t k), ())
theorem t_figures_value (k : Nat) : f_figures_value_t (k + 1) = (f_figures_value_p4 (f_figures_value_t k), ()) := rfl
def f_figures_value_m (T : TT_figures_value) (d : Unit × ((ByteArray × Unit) × ((Int × Unit) × Unit))) : Option (Unit × ((Int × Unit) × (((Option Int) × Unit) × Unit))) :=
  let x1 : Int := (d.2.1.1.size : Int)
  (T.1 ((), ((d.2.1.1, ()), ((d.2.2.1.1, ()), (((0 : Int), ()), ((x1, ()), (((0 : Int), ()), ())))))))
def c_figures_value : List Nat := []
def L_figures_value (k : Nat) : Pts po_figures_value.den := [(4, ⟨sh_figures_value_4, (f_figures_value_t k).1⟩)]
def E_figures_value : Env := E0
theorem q_figures_value_4 (k : Nat) (d : Unit × ((ByteArray × Unit) × ((Int × Unit) × ((Int × Unit) × ((Int × Unit) × ((Int × Unit) × Unit)))))) : evAt E_figures_value (tab (L_figures_value k)) c_figures_value 4 (bodyOf Try.f175) 0 (finK E_figures_value po_figures_value [.tmp 4, .tmp 5]) (ptSt sh_figures_value_4 d) = f_figures_value_p4 (f_figures_value_t k) d := by kernel_rfl
theorem q_figures_value_m (k : Nat) (d : Unit × ((ByteArray × Unit) × ((Int × Unit) × Unit))) : evCode E_figures_value (tab (L_figures_value k)) c_figures_value (bodyOf Try.f175) 0 (finK E_figures_value po_figures_value [.tmp 4, .tmp 5]) (startSt pi_figures_value 32 d) = f_figures_value_m (f_figures_value_t k) d := by kernel_rfl
theorem go_figures_value (F : Unit × ((ByteArray × Unit) × ((Int × Unit) × Unit)) → Option (Unit × ((Int × Unit) × (((Option Int) × Unit) × Unit)))) (hF : ∀ d out, F d = some out → ∃ k, f_figures_value_m (f_figures_value_t k) d = some out) : FnOk Try.prog ET0 175 pi_figures_value po_figures_value F :=
  fn_of_body (E := E_figures_value) e0_ok (fn := Try.f175) Try.func175 (by kernel_rfl) (by kernel_rfl) [.tmp 4, .tmp 5] (by kernel_rfl) (by kernel_rfl) (by decide) rfl c_figures_value L_figures_value
    (by intro x hx d; simp only [L_figures_value, List.mem_cons, List.not_mem_nil, or_false] at hx; subst hx; rfl)
    (by intro k x hx d out h; simp only [L_figures_value, List.mem_cons, List.not_mem_nil, or_false] at hx; subst hx; exact (q_figures_value_4 k d).trans h)
    (by intro d out h; obtain ⟨k, hk⟩ := hF d out h; exact ⟨k, (q_figures_value_m k d).trans hk⟩)
def g_figures_value (d : Unit × ((ByteArray × Unit) × ((Int × Unit) × Unit))) : Option (Unit × ((Int × Unit) × (((Option Int) × Unit) × Unit))) := lim fun k => f_figures_value_m (f_figures_value_t k) d
theorem ok_figures_value : FnOk Try.prog ET0 175 pi_figures_value po_figures_value g_figures_value := go_figures_value g_figures_value fun d out h => lim_some h

/- horologe/figures.take -/
@[reducible] def pi_figures_take : PSh := ⟨[], [.mk false [.v .str], .mk false [.v (.int .i64)], .mk false [.v (.int .i64)], .mk false [.v (.int .u64)]]⟩
@[reducible] def po_figures_take : PSh := ⟨[], [.mk false [.v (.int .u64)], .mk false [.v (.int .i64)], .mk false [.v .err]]⟩
def f_figures_take_m (T : Unit) (d : Unit × ((ByteArray × Unit) × ((Int × Unit) × ((Int × Unit) × ((Int × Unit) × Unit))))) : Option (Unit × ((Int × Unit) × ((Int × Unit) × (((Option Int) × Unit) × Unit)))) :=
  let x1 : Bool := (decide (d.2.2.1.1 < (1 : Int)))
  bif x1 then (
  let x2 : (Option Int) := (some (1 : Int))
  some ((), (((0 : Int), ()), (((0 : Int), ()), ((x2, ()), ())))))
  else (
  let x3 : Bool := (decide (d.2.2.1.1 > d.2.2.2.1.1))
  bif x3 then (
  let x4 : (Option Int) := (some (1 : Int))
  some ((), (((0 : Int), ()), (((0 : Int), ()), ((x4, ()), ())))))
  else (
  let x5 : Bool := (decide (d.2.2.2.1.1 > (20 : Int)))
  bif x5 then (
  let x6 : (Option Int) := (some (1 : Int))
  some ((), (((0 : Int), ()), (((0 : Int), ()), ((x6, ()), ())))))
  else (
  (g_figures_run ((), ((d.2.1.1, ()), ((d.2.2.2.1.1, ()), ())))).bind fun x7 =>
  let x8 : Bool := (decide (x7.2.1.1 < d.2.2.1.1))
  bif x8 then (
  let x9 : (Option Int) := (some (2 : Int))
  some ((), (((0 : Int), ()), (((0 : Int), ()), ((x9, ()), ())))))
  else (
  bif decide ((0 : Int) ≤ (0 : Int)) && decide ((0 : Int) ≤ x7.2.1.1) && decide (x7.2.1.1 ≤ (d.2.1.1.size : Int)) then (
  let x10 : ByteArray := (d.2.1.1.extract (Int.toNat (0 : Int)) (Int.toNat x7.2.1.1))
  (g_figures_value ((), ((x10, ()), ((d.2.2.2.2.1.1, ()), ())))).bind fun x11 =>
  let x12 : Bool := (!x11.2.2.1.1.isNone)
  bif x12 then (
  some ((), (((0 : Int), ()), (((0 : Int), ()), ((x11.2.2.1.1, ()), ())))))
  else (
  some ((), ((x11.2.1.1, ()), ((x7.2.1.1, ()), (((none : Option Int), ()), ()))))))
  else none))))
def c_figures_take : List Nat := []
def L_figures_take (_ : Nat) : Pts po_figures_take.den := []
def E_figures_take : Env := ((E0.add 174 (typedSem pi_figures_run po_figures_run g_figures_run)).add 175 (typedSem pi_figures_value po_figures_value g_figures_value))
theorem q_figures_take_m (k : Nat) (d : Unit × ((ByteArray × Unit) × ((Int × Unit) × ((Int × Unit) × ((Int × Unit) × Unit))))) : evCode E_figures_take (tab (L_figures_take k)) c_figures_take (bodyOf Try.f168) 0 (finK E_figures_take po_figures_take [.tmp 8, .tmp 9, .tmp 10]) (startSt pi_figures_take 46 d) = f_figures_take_m () d := by kernel_rfl
def g_figures_take (d : Unit × ((ByteArray × Unit) × ((Int × Unit) × ((Int × Unit) × ((Int × Unit) × Unit))))) : Option (Unit × ((Int × Unit) × ((Int × Unit) × (((Option Int) × Unit) × Unit)))) := f_figures_take_m () d
theorem ok_figures_take : FnOk Try.prog ET0 168 pi_figures_take po_figures_take g_figures_take :=
  fn_of_body (E := E_figures_take) (envOk_add (envOk_add e0_ok (typed_ok ok_figures_run)) (typed_ok ok_figures_value)) (fn := Try.f168) Try.func168 (by kernel_rfl) (by kernel_rfl) [.tmp 8, .tmp 9, .tmp 10] (by kernel_rfl) (by kernel_rfl) (by decide) rfl c_figures_take L_figures_take
    (by intro x hx; cases hx) (by intro k x hx; cases hx) (fun d out h => ⟨0, (q_figures_take_m 0 d).trans h⟩)

/- horologe/figures.Take -/
@[reducible] def pi_figures_Take : PSh := ⟨[], [.mk false [.v .str], .mk false [.v (.int .i64)], .mk false [.v (.int .i64)]]⟩
@[reducible] def po_figures_Take : PSh := ⟨[], [.mk false [.v (.int .i64)], .mk false [.v (.int .i64)], .mk false [.v .err]]⟩
def f_figures_Take_m (T : Unit) (d : Unit × ((ByteArray × Unit) × ((Int × Unit) × ((Int × Unit) × Unit)))) : Option (Unit × ((Int × Unit) × ((Int × Unit) × (((Option Int) × Unit) × Unit)))) :=
  (g_figures_take ((), ((d.2.1.1, ()), ((d.2.2.1.1, ()), ((d.2.2.2.1.1, ()), (((9223372036854775807 : Int), ()), ())))))).bind fun x1 =>
  let x2 : Int := (iconv .i64 x1.2.1.1)
  some ((), ((x2, ()), ((x1.2.2.1.1, ()), ((x1.2.2.2.1.1, ()), ()))))
def c_figures_Take : List Nat := []
def L_figures_Take (_ : Nat) : Pts po_figures_Take.den := []
def E_figures_Take : Env := (E0.add 168 (typedSem pi_figures_take po_figures_take g_figures_take))
theorem q_figures_Take_m (k : Nat) (d : Unit × ((ByteArray × Unit) × ((Int × Unit) × ((Int × Unit) × Unit)))) : evCode E_figures_Take (tab (L_figures_Take k)) c_figures_Take (bodyOf Try.f156) 0 (finK E_figures_Take po_figures_Take [.tmp 6, .tmp 7, .tmp 8]) (startSt pi_figures_Take 24 d) = f_figures_Take_m () d := by kernel_rfl
def g_figures_Take (d : Unit × ((ByteArray × Unit) × ((Int × Unit) × ((Int × Unit) × Unit)))) : Option (Unit × ((Int × Unit) × ((Int × Unit) × (((Option Int) × Unit) × Unit)))) := f_figures_Take_m () d
theorem ok_figures_Take : FnOk Try.prog ET0 156 pi_figures_Take po_figures_Take g_figures_Take :=
  fn_of_body (E := E_figures_Take) (envOk_add e0_ok (typed_ok ok_figures_take)) (fn := Try.f156) Try.func156 (by kernel_rfl) (by kernel_rfl) [.tmp 6, .tmp 7, .tmp 8] (by kernel_rfl) (by kernel_rfl) (by decide) rfl c_figures_Take L_figures_Take
    (by intro x hx; cases hx) (by intro k x hx; cases hx) (fun d out h => ⟨0, (q_figures_Take_m 0 d).trans h⟩)

/- (*horologe/scan.Scanner[string]).At -/
@[reducible] def pi_scan_Scanner_string_At : PSh := ⟨[], [.mk false [.v (.nptr (.pair .str (.pair (.int .i64) .err)))]]⟩
@[reducible] def po_scan_Scanner_string_At : PSh := ⟨[], [.mk false [.v (.int .i64)]]⟩
def f_scan_Scanner_string_At_m (T : Unit) (d : Unit × (((Option (ByteArray × (Int × (Option Int)))) × Unit) × Unit)) : Option (Unit × ((Int × Unit) × Unit)) :=
  bif d.2.1.1.isNone then (
  some ((), (((0 : Int), ()), ())))
  else (
  d.2.1.1.bind fun x1 =>
  some ((), ((x1.2.1, ()), ())))
def c_scan_Scanner_string_At : List Nat := []
def L_scan_Scanner_string_At (_ : Nat) : Pts po_scan_Scanner_string_At.den := []
def E_scan_Scanner_string_At : Env := E0
theorem q_scan_Scanner_string_At_m (k : Nat) (d : Unit × (((Option (ByteArray × (Int × (Option Int)))) × Unit) × Unit)) : evCode E_scan_Scanner_string_At (tab (L_scan_Scanner_string_At k)) c_scan_Scanner_string_At (bodyOf Try.f122) 0 (finK E_scan_Scanner_string_At po_scan_Scanner_string_At [.tmp 2]) (startSt pi_scan_Scanner_string_At 9 d) = f_scan_Scanner_string_At_m () d := by kernel_rfl
def g_scan_Scanner_string_At (d : Unit × (((Option (ByteArray × (Int × (Option Int)))) × Unit) × Unit)) : Option (Unit × ((Int × Unit) × Unit)) := f_scan_Scanner_string_At_m () d
theorem ok_scan_Scanner_string_At : FnOk Try.prog ET0 122 pi_scan_Scanner_string_At po_scan_Scanner_string_At g_scan_Scanner_string_At :=
  fn_of_body (E := E_scan_Scanner_string_At) e0_ok (fn := Try.f122) Try.func122 (by kernel_rfl) (by kernel_rfl) [.tmp 2] (by kernel_rfl) (by kernel_rfl) (by decide) rfl c_scan_Scanner_string_At L_scan_Scanner_string_At
    (by intro x hx; cases hx) (by intro k x hx; cases hx) (fun d out h => ⟨0, (q_scan_Scanner_string_At_m 0 d).trans h⟩)

/- (*horologe/scan.Scanner[string]).Err -/
@[reducible] def pi_scan_Scanner_string_Err : PSh := ⟨[], [.mk false [.v (.nptr (.pair .str (.pair (.int .i64) .err)))]]⟩
@[reducible] def po_scan_Scanner_string_Err : PSh := ⟨[], [.mk false [.v .err]]⟩
def f_scan_Scanner_string_Err_m (T : Unit) (d : Unit × (((Option (ByteArray × (Int × (Option Int)))) × Unit) × Unit)) : Option (Unit × (((Option Int) × Unit) × Unit)) :=
  bif d.2.1.1.isNone then (
  let x1 : (Option Int) := (some (8 : Int))
  some ((), ((x1, ()), ())))
  else (
  d.2.1.1.bind fun x2 =>
  some ((), ((x2.2.2, ()), ())))
def c_scan_Scanner_string_Err : List Nat := []
def L_scan_Scanner_string_Err (_ : Nat) : Pts po_scan_Scanner_string_Err.den := []
def E_scan_Scanner_string_Err : Env := E0
theorem q_scan_Scanner_string_Err_m (k : Nat) (d : Unit × (((Option (ByteArray × (Int × (Option Int)))) × Unit) × Unit)) : evCode E_scan_Scanner_string_Err (tab (L_scan_Scanner_string_Err k)) c_scan_Scanner_string_Err (bodyOf Try.f126) 0 (finK E_scan_Scanner_string_Err po_scan_Scanner_string_Err [.tmp 2]) (startSt pi_scan_Scanner_string_Err 10 d) = f_scan_Scanner_string_Err_m () d := by kernel_rfl
def g_scan_Scanner_string_Err (d : Unit × (((Option (ByteArray × (Int × (Option Int)))) × Unit) × Unit)) : Option (Unit × (((Option Int) × Unit) × Unit)) := f_scan_Scanner_string_Err_m () d
theorem ok_scan_Scanner_string_Err : FnOk Try.prog ET0 126 pi_scan_Scanner_string_Err po_scan_Scanner_string_Err g_scan_Scanner_string_Err :=
  fn_of_body (E := E_scan_Scanner_string_Err) e0_ok (fn := Try.f126) Try.func126 (by kernel_rfl) (by kernel_rfl) [.tmp 2] (by kernel_rfl) (by kernel_rfl) (by decide) rfl c_scan_Scanner_string_Err L_scan_Scanner_string_Err
    (by intro x hx; cases hx) (by intro k x hx; cases hx) (fun d out h => ⟨0, (q_scan_Scanner_string_Err_m 0 d).trans h⟩)

/- (*horologe/scan.Scanner[string]).Left -/
@[reducible] def pi_scan_Scanner_string_Left : PSh := ⟨[], [.mk false [.v (.nptr (.pair .str (.pair (.int .i64) .err)))]]⟩
@[reducible] def po_scan_Scanner_string_Left : PSh := ⟨[], [.mk false [.v (.int .i64)]]⟩
def f_scan_Scanner_string_Left_m (T : Unit) (d : Unit × (((Option (ByteArray × (Int × (Option Int)))) × Unit) × Unit)) : Option (Unit × ((Int × Unit) × Unit)) :=
  (g_scan_Scanner_string_rest ((), ((d.2.1.1, ()), ()))).bind fun x1 =>
  let x2 : Int := (x1.2.1.1.size : Int)
  some ((), ((x2, ()), ()))
def c_scan_Scanner_string_Left : List Nat := []
def L_scan_Scanner_string_Left (_ : Nat) : Pts po_scan_Scanner_string_Left.den := []
def E_scan_Scanner_string_Left : Env := (E0.add 157 (typedSem pi_scan_Scanner_string_rest po_scan_Scanner_string_rest g_scan_Scanner_string_rest))
theorem q_scan_Scanner_string_Left_m (k : Nat) (d : Unit × (((Option (ByteArray × (Int × (Option Int)))) × Unit) × Unit)) : evCode E_scan_Scanner_string_Left (tab (L_scan_Scanner_string_Left k)) c_scan_Scanner_string_Left (bodyOf Try.f127) 0 (finK E_scan_Scanner_string_Left po_scan_Scanner_string_Left [.tmp 2]) (startSt pi_scan_Scanner_string_Left 6 d) = f_scan_Scanner_string_Left_m () d := by kernel_rfl
def g_scan_Scanner_string_Left (d : Unit × (((Option (ByteArray × (Int × (Option Int)))) × Unit) × Unit)) : Option (Unit × ((Int × Unit) × Unit)) := f_scan_Scanner_string_Left_m () d
theorem ok_scan_Scanner_string_Left : FnOk Try.prog ET0 127 pi_scan_Scanner_string_Left po_scan_Scanner_string_Left g_scan_Scanner_string_Left :=
  fn_of_body (E := E_scan_Scanner_string_Left) (envOk_add e0_ok (typed_ok ok_scan_Scanner_string_rest)) (fn := Try.f127) Try.func127 (by kernel_rfl) (by kernel_rfl) [.tmp 2] (by kernel_rfl) (by kernel_rfl) (by decide) rfl c_scan_Scanner_string_Left L_scan_Scanner_string_Left
    (by intro x hx; cases hx) (by intro k x hx; cases hx) (fun d out h => ⟨0, (q_scan_Scanner_string_Left_m 0 d).trans h⟩)

/- (*horologe/scan.Scanner[string]).End -/
@[reducible] def pi_scan_Scanner_string_End : PSh := ⟨[], [.mk false [.v (.nptr (.pair .str (.pair (.int .i64) .err)))]]⟩
@[reducible] def po_scan_Scanner_string_End : PSh := ⟨[], [.mk false [.v .err]]⟩
def f_scan_Scanner_string_End_m (T : Unit) (d : Unit × (((Option (ByteArray × (Int × (Option Int)))) × Unit) × Unit)) : Option (Unit × (((Option Int) × Unit) × Unit)) :=
  (g_scan_Scanner_string_Err ((), ((d.2.1.1, ()), ()))).bind fun x1 =>
  let x2 : Bool := (!x1.2.1.1.isNone)
  bif x2 then (
  some ((), ((x1.2.1.1, ()), ())))
  else (
  (g_scan_Scanner_string_Left ((), ((d.2.1.1, ()), ()))).bind fun x3 =>
  let x4 : Bool := (decide (x3.2.1.1 > (0 : Int)))
  bif x4 then (
  let x5 : (Option Int) := (some (2 : Int))
  some ((), ((x5, ()), ())))
  else (
  some ((), (((none : Option Int), ()), ()))))
def c_scan_Scanner_string_End : List Nat := []
def L_scan_Scanner_string_End (_ : Nat) : Pts po_scan_Scanner_string_End.den := []
def E_scan_Scanner_string_End : Env := ((E0.add 126 (typedSem pi_scan_Scanner_string_Err po_scan_Scanner_string_Err g_scan_Scanner_string_Err)).add 127 (typedSem pi_scan_Scanner_string_Left po_scan_Scanner_string_Left g_scan_Scanner_string_Left))
theorem q_scan_Scanner_string_End_m (k : Nat) (d : Unit × (((Option (ByteArray × (Int × (Option Int)))) × Unit) × Unit)) : evCode E_scan_Scanner_string_End (tab (L_scan_Scanner_string_End k)) c_scan_Scanner_string_End (bodyOf Try.f71) 0 (finK E_scan_Scanner_string_End po_scan_Scanner_string_End [.tmp 2]) (startSt pi_scan_Scanner_string_End 13 d) = f_scan_Scanner_string_End_m () d := by kernel_rfl
def g_scan_Scanner_string_End (d : Unit × (((Option (ByteArray × (Int × (Option Int)))) × Unit) × Unit)) : Option (Unit × (((Option Int) × Unit) × Unit)) := f_scan_Scanner_string_End_m () d
theorem ok_scan_Scanner_string_End : FnOk Try.prog ET0 71 pi_scan_Scanner_string_End po_scan_Scanner_string_End g_scan_Scanner_string_End :=
  fn_of_body (E := E_scan_Scanner_string_End) (envOk_add (envOk_add e0_ok (typed_ok ok_scan_Scanner_string_Err)) (typed_ok ok_scan_Scanner_string_Left)) (fn := Try.f71) Try.func71 (by kernel_rfl) (by kernel_rfl) [.tmp 2] (by kernel_rfl) (by kernel_rfl) (by decide) rfl c_scan_Scanner_string_End L_scan_Scanner_string_End
    (by intro x hx; cases hx) (by intro k x hx; cases hx) (fun d out h => ⟨0, (q_scan_Scanner_string_End_m 0 d).trans h⟩)

/- horologe/mjd.Day -/
@[reducible] def pi_mjd_Day : PSh := ⟨[], [.mk false [.v (.int .i64)], .mk false [.v (.int .i64)]]⟩
@[reducible] def po_mjd_Day : PSh := ⟨[], [.mk false [.v (.int .i64)], .mk false [.v .err]]⟩
def f_mjd_Day_m (T : Unit) (d : Unit × ((Int × Unit) × ((Int × Unit) × Unit))) : Option (Unit × ((Int × Unit) × (((Option Int) × Unit) × Unit))) :=
  (g_mjd_zero ((), ((d.2.1.1, ()), ()))).bind fun x1 =>
  let x2 : Bool := (!x1.2.2.1.1.isNone)
  bif x2 then (
  some ((), (((0 : Int), ()), ((x1.2.2.1.1, ()), ()))))
  else (
  (g_day_First ((), ())).bind fun x3 =>
  let x4 : Int := (iadd .i64 x3.2.1.1 x1.2.1.1)
  let x5 : Bool := (decide (d.2.2.1.1 < x4))
  bif x5 then (
  let x6 : (Option Int) := (some (13 : Int))
  some ((), (((0 : Int), ()), ((x6, ()), ()))))
  else (
  (g_day_Last ((), ())).bind fun x7 =>
  let x8 : Int := (iadd .i64 x7.2.1.1 x1.2.1.1)
  let x9 : Bool := (decide (d.2.2.1.1 > x8))
  bif x9 then (
  let x10 : (Option Int) := (some (13 : Int))
  some ((), (((0 : Int), ()), ((x10, ()), ()))))
  else (
  let x11 : Int := (isub .i64 d.2.2.1.1 x1.2.1.1)
  some ((), ((x11, ()), (((none : Option Int), ()), ()))))))
def c_mjd_Day : List Nat := []
def L_mjd_Day (_ : Nat) : Pts po_mjd_Day.den := []
def E_mjd_Day : Env := (((E0.add 93 (typedSem pi_day_First po_day_First g_day_First)).add 94 (typedSem pi_day_Last po_day_Last g_day_Last)).add 139 (typedSem pi_mjd_zero po_mjd_zero g_mjd_zero))
theorem q_mjd_Day_m (k : Nat) (d : Unit × ((Int × Unit) × ((Int × Unit) × Unit))) : evCode E_mjd_Day (tab (L_mjd_Day k)) c_mjd_Day (bodyOf Try.f128) 0 (finK E_mjd_Day po_mjd_Day [.tmp 4, .tmp 5]) (startSt pi_mjd_Day 34 d) = f_mjd_Day_m () d := by kernel_rfl
def g_mjd_Day (d : Unit × ((Int × Unit) × ((Int × Unit) × Unit))) : Option (Unit × ((Int × Unit) × (((Option Int) × Unit) × Unit))) := f_mjd_Day_m () d
theorem ok_mjd_Day : FnOk Try.prog ET0 128 pi_mjd_Day po_mjd_Day g_mjd_Day :=
  fn_of_body (E := E_mjd_Day) (envOk_add (envOk_add (envOk_add e0_ok (typed_ok ok_day_First)) (typed_ok ok_day_Last)) (typed_ok ok_mjd_zero)) (fn := Try.f128) Try.func128 (by kernel_rfl) (by kernel_rfl) [.tmp 4, .tmp 5] (by kernel_rfl) (by kernel_rfl) (by decide) rfl c_mjd_Day L_mjd_Day
    (by intro x hx; cases hx) (by intro k x hx; cases hx) (fun d out h => ⟨0, (q_mjd_Day_m 0 d).trans h⟩)

/- (horologe/nist.Line).told -/
@[reducible] def pi_nist_Line_told : PSh := ⟨[], [.mk true [.v (.int .i64), .v (.int .i64), .v (.int .i64), .v (.int .i64), .v (.int .i64), .v (.int .i64), .v .bool], .mk false [.v (.int .i64)], .mk true [.v (.int .i64), .v (.int .i64), .v (.int .i64)], .mk true [.v (.int .i64), .v (.int .i64), .v (.int .i64)]]⟩
@[reducible] def po_nist_Line_told : PSh := ⟨[], [.mk true [.v (.int .i64), .v (.int .i64), .v (.int .i64), .v (.int .i64), .v (.int .i64), .v (.int .i64), .v .bool], .mk false [.v .err]]⟩
def f_nist_Line_told_m (T : Unit) (d : Unit × ((Int × (Int × (Int × (Int × (Int × (Int × (Bool × Unit))))))) × ((Int × Unit) × ((Int × (Int × (Int × Unit))) × ((Int × (Int × (Int × Unit))) × Unit))))) : Option (Unit × ((Int × (Int × (Int × (Int × (Int × (Int × (Bool × Unit))))))) × (((Option Int) × Unit) × Unit))) :=
  (g_mjd_Day ((), (((1 : Int), ()), ((d.2.2.1.1, ()), ())))).bind fun x1 =>
  let x2 : Bool := (!x1.2.2.1.1.isNone)
  bif x2 then (
  some ((), (((0 : Int), ((0 : Int), ((0 : Int), ((0 : Int), ((0 : Int), ((0 : Int), (false, ()))))))), ((x1.2.2.1.1, ()), ()))))
  else (
  (g_day_Date ((), ((x1.2.1.1, ()), ()))).bind fun x3 =>
  let x4 : Bool := (!x3.2.2.2.2.1.1.isNone)
  bif x4 then (
  some ((), (((0 : Int), ((0 : Int), ((0 : Int), ((0 : Int), ((0 : Int), ((0 : Int), (false, ()))))))), ((x3.2.2.2.2.1.1, ()), ()))))
  else (
  (g_nist_modulo ((), ((x3.2.1.1, ()), (((100 : Int), ()), ())))).bind fun x5 =>
  let x6 : Bool := (!((d.2.2.2.1.1 == x5.2.1.1) && ((d.2.2.2.1.2.1 == x3.2.2.1.1) && ((d.2.2.2.1.2.2.1 == x3.2.2.2.1.1) && true))))
  bif x6 then (
  let x7 : (Option Int) := (some (10 : Int))
  some ((), (((0 : Int), ((0 : Int), ((0 : Int), ((0 : Int), ((0 : Int), ((0 : Int), (false, ()))))))), ((x7, ()), ()))))
  else (
  let x8 : Bool := (decide (d.2.2.2.2.1.1 > (23 : Int)))
  bif x8 then (
  let x9 : (Option Int) := (some (1 : Int))
  some ((), (((0 : Int), ((0 : Int), ((0 : Int), ((0 : Int), ((0 : Int), ((0 : Int), (false, ()))))))), ((x9, ()), ()))))
  else (
  let x10 : Bool := (decide (d.2.2.2.2.1.2.1 > (59 : Int)))
  bif x10 then (
  let x11 : (Option Int) := (some (1 : Int))
  some ((), (((0 : Int), ((0 : Int), ((0 : Int), ((0 : Int), ((0 : Int), ((0 : Int), (false, ()))))))), ((x11, ()), ()))))
  else (
  let x12 : Bool := (decide (d.2.2.2.2.1.2.2.1 > (60 : Int)))
  bif x12 then (
  let x13 : (Option Int) := (some (1 : Int))
  some ((), (((0 : Int), ((0 : Int), ((0 : Int), ((0 : Int), ((0 : Int), ((0 : Int), (false, ()))))))), ((x13, ()), ()))))
  else (
  let x14 : Bool := (decide (d.2.1.2.2.2.1 > (2 : Int)))
  bif x14 then (
  let x15 : (Option Int) := (some (1 : Int))
  some ((), (((0 : Int), ((0 : Int), ((0 : Int), ((0 : Int), ((0 : Int), ((0 : Int), (false, ()))))))), ((x15, ()), ()))))
  else (
  let x16 : Bool := (d.2.2.2.2.1.2.2.1 == (60 : Int))
  bif x16 then (
  let x17 : Bool := (d.2.2.2.2.1.1 != (23 : Int))
  bif x17 then (
  let x18 : (Option Int) := (some (12 : Int))
  some ((), (((0 : Int), ((0 : Int), ((0 : Int), ((0 : Int), ((0 : Int), ((0 : Int), (false, ()))))))), ((x18, ()), ()))))
  else (
  let x19 : Bool := (d.2.2.2.2.1.2.1 != (59 : Int))
  bif x19 then (
  let x20 : (Option Int) := (some (12 : Int))
  some ((), (((0 : Int), ((0 : Int), ((0 : Int), ((0 : Int), ((0 : Int), ((0 : Int), (false, ()))))))), ((x20, ()), ()))))
  else (
  let x21 : Int := (imul .i64 d.2.2.2.2.1.1 (60 : Int))
  let x22 : Int := (iadd .i64 x21 d.2.2.2.2.1.2.1)
  let x23 : Int := (imul .i64 x22 (60 : Int))
  let x24 : Int := (iadd .i64 x23 d.2.2.2.2.1.2.2.1)
  some ((), ((x1.2.1.1, (x24, (d.2.1.2.2.1, (d.2.1.2.2.2.1, (d.2.1.2.2.2.2.1, (d.2.1.2.2.2.2.2.1, (d.2.1.2.2.2.2.2.2.1, ()))))))), (((none : Option Int), ()), ()))))))
  else (
  let x25 : Int := (imul .i64 d.2.2.2.2.1.1 (60 : Int))
  let x26 : Int := (iadd .i64 x25 d.2.2.2.2.1.2.1)
  let x27 : Int := (imul .i64 x26 (60 : Int))
  let x28 : Int := (iadd .i64 x27 d.2.2.2.2.1.2.2.1)
  some ((), ((x1.2.1.1, (x28, (d.2.1.2.2.1, (d.2.1.2.2.2.1, (d.2.1.2.2.2.2.1, (d.2.1.2.2.2.2.2.1, (d.2.1.2.2.2.2.2.2.1, ()))))))), (((none : Option Int), ()), ())))))))))))
def c_nist_Line_told : List Nat := []
def L_nist_Line_told (_ : Nat) : Pts po_nist_Line_told.den := []
def E_nist_Line_told : Env := (((E0.add 41 (typedSem pi_day_Date po_day_Date g_day_Date)).add 46 (typedSem pi_nist_modulo po_nist_modulo g_nist_modulo)).add 128 (typedSem pi_mjd_Day po_mjd_Day g_mjd_Day))
theorem q_nist_Line_told_m (k : Nat) (d : Unit × ((Int × (Int × (Int × (Int × (Int × (Int × (Bool × Unit))))))) × ((Int × Unit) × ((Int × (Int × (Int × Unit))) × ((Int × (Int × (Int × Unit))) × Unit))))) : evCode E_nist_Line_told (tab (L_nist_Line_told k)) c_nist_Line_told (bodyOf Try.f72) 0 (finK E_nist_Line_told po_nist_Line_told [.cell 8 23, .tmp 9]) (startSt pi_nist_Line_told 96 d) = f_nist_Line_told_m () d := by kernel_rfl
def g_nist_Line_told (d : Unit × ((Int × (Int × (Int × (Int × (Int × (Int × (Bool × Unit))))))) × ((Int × Unit) × ((Int × (Int × (Int × Unit))) × ((Int × (Int × (Int × Unit))) × Unit))))) : Option (Unit × ((Int × (Int × (Int × (Int × (Int × (Int × (Bool × Unit))))))) × (((Option Int) × Unit) × Unit))) := f_nist_Line_told_m () d
theorem ok_nist_Line_told : FnOk Try.prog ET0 72 pi_nist_Line_told po_nist_Line_told g_nist_Line_told :=
  fn_of_body (E := E_nist_Line_told) (envOk_add (envOk_add (envOk_add e0_ok (typed_ok ok_day_Date)) (typed_ok ok_nist_modulo)) (typed_ok ok_mjd_Day)) (fn := Try.f72) Try.func72 (by kernel_rfl) (by kernel_rfl) [.cell 8 23, .tmp 9] (by kernel_rfl) (by kernel_rfl) (by decide) rfl c_nist_Line_told L_nist_Line_told
    (by intro x hx; cases hx) (by intro k x hx; cases hx) (fun d out h => ⟨0, (q_nist_Line_told_m 0 d).trans h⟩)

/- (*horologe/scan.Scanner[string]).take -/
@[reducible] def pi_scan_Scanner_string_take_io : PSh := ⟨[.var 159 [.v .str, .v (.int .i64), .v .err]], [.mk false [.ref 0 0], .mk false [.v (.int .i64)]]⟩
@[reducible] def po_scan_Scanner_string_take_io : PSh := ⟨[.var 159 [.v .str, .v (.int .i64), .v .err]], [.mk false [.v .str], .mk false [.ref 0 0]]⟩
def f_scan_Scanner_string_take_io_m (T : Unit) (d : ((ByteArray × (Int × ((Option Int) × Unit))) × Unit) × (Unit × ((Int × Unit) × Unit))) : Option (((ByteArray × (Int × ((Option Int) × Unit))) × Unit) × ((ByteArray × Unit) × (Unit × Unit))) :=
  (g_scan_Scanner_string_rest ((), (((some (d.1.1.1, (d.1.1.2.1, d.1.1.2.2.1))), ()), ()))).bind fun x1 =>
  bif decide ((0 : Int) ≤ (0 : Int)) && decide ((0 : Int) ≤ d.2.2.1.1) && decide (d.2.2.1.1 ≤ (x1.2.1.1.size : Int)) then (
  let x2 : ByteArray := (x1.2.1.1.extract (Int.toNat (0 : Int)) (Int.toNat d.2.2.1.1))
  let x3 : Bool := (decide (d.2.2.1.1 > (0 : Int)))
  bif x3 then (
  let x4 : Int := (iadd .i64 d.1.1.2.1 d.2.2.1.1)
  (g_strings_Clone ((), ((x2, ()), ()))).bind fun x5 =>
  some (((d.1.1.1, (x4, (d.1.1.2.2.1, ()))), ()), ((x5.2.1.1, ()), ((), ()))))
  else (
  (g_strings_Clone ((), ((x2, ()), ()))).bind fun x6 =>
  some (((d.1.1.1, (d.1.1.2.1, (d.1.1.2.2.1, ()))), ()), ((x6.2.1.1, ()), ((), ())))))
  else none
def c_scan_Scanner_string_take_io : List Nat := []
def L_scan_Scanner_string_take_io (_ : Nat) : Pts po_scan_Scanner_string_take_io.den := []
def E_scan_Scanner_string_take_io : Env := (((E0.add 157 (typedSem pi_scan_Scanner_string_rest po_scan_Scanner_string_rest g_scan_Scanner_string_rest)).add 158 (typedSem pi_strings_Clone po_strings_Clone g_strings_Clone)).kp [0])
theorem q_scan_Scanner_string_take_io_m (k : Nat) (d : ((ByteArray × (Int × ((Option Int) × Unit))) × Unit) × (Unit × ((Int × Unit) × Unit))) : evCode E_scan_Scanner_string_take_io (tab (L_scan_Scanner_string_take_io k)) c_scan_Scanner_string_take_io (bodyOf Try.f125) 0 (finKio E_scan_Scanner_string_take_io po_scan_Scanner_string_take_io [.tmp 4] [(0, none)]) (startSt pi_scan_Scanner_string_take_io 22 d) = f_scan_Scanner_string_take_io_m () d := by kernel_rfl
def g_scan_Scanner_string_take_io (d : ((ByteArray × (Int × ((Option Int) × Unit))) × Unit) × (Unit × ((Int × Unit) × Unit))) : Option (((ByteArray × (Int × ((Option Int) × Unit))) × Unit) × ((ByteArray × Unit) × (Unit × Unit))) := f_scan_Scanner_string_take_io_m () d
theorem ok_scan_Scanner_string_take_io : FnIo Try.prog ET0 125 pi_scan_Scanner_string_take_io po_scan_Scanner_string_take_io 1 [(0, 0, none)] g_scan_Scanner_string_take_io :=
  fn_of_bodyIo (E := E_scan_Scanner_string_take_io) (envOk_kp (envOk_add (envOk_add e0_ok (typed_ok ok_scan_Scanner_string_rest)) (typed_ok ok_strings_Clone))) (fn := Try.f125) Try.func125 (by kernel_rfl) (by kernel_rfl) [.tmp 4] [(0, none)] [(0, 0, none)] (by kernel_rfl) (by kernel_rfl) (by kernel_rfl) (by kernel_rfl) (by decide) (by decide) c_scan_Scanner_string_take_io L_scan_Scanner_string_take_io
    (by intro x hx; cases hx) (by intro k x hx; cases hx) (fun d out h => ⟨0, (q_scan_Scanner_string_take_io_m 0 d).trans h⟩)

/- (*horologe/scan.Scanner[string]).Take -/
@[reducible] def pi_scan_Scanner_string_Take_io : PSh := ⟨[.var 159 [.v .str, .v (.int .i64), .v .err]], [.mk false [.ref 0 0], .mk false [.v (.int .u8)]]⟩
@[reducible] def po_scan_Scanner_string_Take_io : PSh := ⟨[.var 159 [.v .str, .v (.int .i64), .v .err]], [.mk false [.v .bool], .mk false [.ref 0 0]]⟩
def f_scan_Scanner_string_Take_io_m (T : Unit) (d : ((ByteArray × (Int × ((Option Int) × Unit))) × Unit) × (Unit × ((Int × Unit) × Unit))) : Option (((ByteArray × (Int × ((Option Int) × Unit))) × Unit) × ((Bool × Unit) × (Unit × Unit))) :=
  (g_scan_Scanner_string_Peek ((), (((some (d.1.1.1, (d.1.1.2.1, d.1.1.2.2.1))), ()), ()))).bind fun x1 =>
  let x2 : Bool := (!x1.2.2.1.1)
  bif x2 then (
  some (((d.1.1.1, (d.1.1.2.1, (d.1.1.2.2.1, ()))), ()), ((false, ()), ((), ()))))
  else (
  let x3 : Bool := (x1.2.1.1 != d.2.2.1.1)
  bif x3 then (
  some (((d.1.1.1, (d.1.1.2.1, (d.1.1.2.2.1, ()))), ()), ((false, ()), ((), ()))))
  else (
  (g_scan_Scanner_string_take_io (((d.1.1.1, (d.1.1.2.1, (d.1.1.2.2.1, ()))), ()), ((), (((1 : Int), ()), ())))).bind fun x4 =>
  some (((x4.1.1.1, (x4.1.1.2.1, (x4.1.1.2.2.1, ()))), ()), ((true, ()), ((), ())))))
def c_scan_Scanner_string_Take_io : List Nat := []
def L_scan_Scanner_string_Take_io (_ : Nat) : Pts po_scan_Scanner_string_Take_io.den := []
def E_scan_Scanner_string_Take_io : Env := (((E0.add 124 (typedSem pi_scan_Scanner_string_Peek po_scan_Scanner_string_Peek g_scan_Scanner_string_Peek)).add 125 (ioSem pi_scan_Scanner_string_take_io po_scan_Scanner_string_take_io 1 [(0, 0, none)] g_scan_Scanner_string_take_io)).kp [0])
theorem q_scan_Scanner_string_Take_io_m (k : Nat) (d : ((ByteArray × (Int × ((Option Int) × Unit))) × Unit) × (Unit × ((Int × Unit) × Unit))) : evCode E_scan_Scanner_string_Take_io (tab (L_scan_Scanner_string_Take_io k)) c_scan_Scanner_string_Take_io (bodyOf Try.f70) 0 (finKio E_scan_Scanner_string_Take_io po_scan_Scanner_string_Take_io [.tmp 4] [(0, none)]) (startSt pi_scan_Scanner_string_Take_io 21 d) = f_scan_Scanner_string_Take_io_m () d := by kernel_rfl
def g_scan_Scanner_string_Take_io (d : ((ByteArray × (Int × ((Option Int) × Unit))) × Unit) × (Unit × ((Int × Unit) × Unit))) : Option (((ByteArray × (Int × ((Option Int) × Unit))) × Unit) × ((Bool × Unit) × (Unit × Unit))) := f_scan_Scanner_string_Take_io_m () d
theorem ok_scan_Scanner_string_Take_io : FnIo Try.prog ET0 70 pi_scan_Scanner_string_Take_io po_scan_Scanner_string_Take_io 1 [(0, 0, none)] g_scan_Scanner_string_Take_io :=
  fn_of_bodyIo (E := E_scan_Scanner_string_Take_io) (envOk_kp (envOk_add (envOk_add e0_ok (typed_ok ok_scan_Scanner_string_Peek)) (io_ok ok_scan_Scanner_string_take_io))) (fn := Try.f70) Try.func70 (by kernel_rfl) (by kernel_rfl) [.tmp 4] [(0, none)] [(0, 0, none)] (by kernel_rfl) (by kernel_rfl) (by kernel_rfl) (by kernel_rfl) (by decide) (by decide) c_scan_Scanner_string_Take_io L_scan_Scanner_string_Take_io
    (by intro x hx; cases hx) (by intro k x hx; cases hx) (fun d out h => ⟨0, (q_scan_Scanner_string_Take_io_m 0 d).trans h⟩)

/- (*horologe/scan.Scanner[string]).Fail -/
@[reducible] def pi_scan_Scanner_string_Fail_io : PSh := ⟨[.var 159 [.v .str, .v (.int .i64), .v .err]], [.mk false [.ref 0 0], .mk false [.v .err]]⟩
@[reducible] def po_scan_Scanner_string_Fail_io : PSh := ⟨[.var 159 [.v .str, .v (.int .i64), .v .err]], [.mk false [.ref 0 0]]⟩
def f_scan_Scanner_string_Fail_io_m (T : Unit) (d : ((ByteArray × (Int × ((Option Int) × Unit))) × Unit) × (Unit × (((Option Int) × Unit) × Unit))) : Option (((ByteArray × (Int × ((Option Int) × Unit))) × Unit) × (Unit × Unit)) :=
  (g_scan_Scanner_string_going ((), (((some (d.1.1.1, (d.1.1.2.1, d.1.1.2.2.1))), ()), ()))).bind fun x1 =>
  bif x1.2.1.1 then (
  some (((d.1.1.1, (d.1.1.2.1, (d.2.2.1.1, ()))), ()), ((), ())))
  else (
  some (((d.1.1.1, (d.1.1.2.1, (d.1.1.2.2.1, ()))), ()), ((), ())))
def c_scan_Scanner_string_Fail_io : List Nat := []
def L_scan_Scanner_string_Fail_io (_ : Nat) : Pts po_scan_Scanner_string_Fail_io.den := []
def E_scan_Scanner_string_Fail_io : Env := ((E0.add 138 (typedSem pi_scan_Scanner_string_going po_scan_Scanner_string_going g_scan_Scanner_string_going)).kp [0])
theorem q_scan_Scanner_string_Fail_io_m (k : Nat) (d : ((ByteArray × (Int × ((Option Int) × Unit))) × Unit) × (Unit × (((Option Int) × Unit) × Unit))) : evCode E_scan_Scanner_string_Fail_io (tab (L_scan_Scanner_string_Fail_io k)) c_scan_Scanner_string_Fail_io (bodyOf Try.f90) 0 (finKio E_scan_Scanner_string_Fail_io po_scan_Scanner_string_Fail_io [] [(0, none)]) (startSt pi_scan_Scanner_string_Fail_io 10 d) = f_scan_Scanner_string_Fail_io_m () d := by kernel_rfl
def g_scan_Scanner_string_Fail_io (d : ((ByteArray × (Int × ((Option Int) × Unit))) × Unit) × (Unit × (((Option Int) × Unit) × Unit))) : Option (((ByteArray × (Int × ((Option Int) × Unit))) × Unit) × (Unit × Unit)) := f_scan_Scanner_string_Fail_io_m () d
theorem ok_scan_Scanner_string_Fail_io : FnIo Try.prog ET0 90 pi_scan_Scanner_string_Fail_io po_scan_Scanner_string_Fail_io 0 [(0, 0, none)] g_scan_Scanner_string_Fail_io :=
  fn_of_bodyIo (E := E_scan_Scanner_string_Fail_io) (envOk_kp (envOk_add e0_ok (typed_ok ok_scan_Scanner_string_going))) (fn := Try.f90) Try.func90 (by kernel_rfl) (by kernel_rfl) [] [(0, none)] [(0, 0, none)] (by kernel_rfl) (by kernel_rfl) (by kernel_rfl) (by kernel_rfl) (by decide) (by decide) c_scan_Scanner_string_Fail_io L_scan_Scanner_string_Fail_io
    (by intro x hx; cases hx) (by intro k x hx; cases hx) (fun d out h => ⟨0, (q_scan_Scanner_string_Fail_io_m 0 d).trans h⟩)

/- (horologe/nist.reader).exact -/
@[reducible] def pi_nist_reader_exact_io : PSh := ⟨[.var 159 [.v .str, .v (.int .i64), .v .err]], [.mk true [.ref 0 0], .mk false [.v .str]]⟩
@[reducible] def po_nist_reader_exact_io : PSh := ⟨[.var 159 [.v .str, .v (.int .i64), .v .err]], [.mk false [.ref 0 0]]⟩
@[reducible] def TT_nist_reader_exact_io : Type := (((((ByteArray × (Int × ((Option Int) × Unit))) × (Unit × Unit)) × (Unit × ((ByteArray × Unit) × (Unit × ((Int × Unit) × ((Int × Unit) × Unit)))))) → Option (((ByteArray × (Int × ((Option Int) × Unit))) × Unit) × (Unit × Unit))) × Unit)
@[reducible] def sh_nist_reader_exact_io_2 : PSh := ⟨[.var 159 [.v .str, .v (.int .i64), .v .err], .var 112 [.ref 0 0]], [.mk true [.ref 0 0], .mk false [.v .str], .mk false [.ref 1 0], .any, .any, .any, .mk false [.v (.int .i64)], .mk false [.v (.int .i64)], .any, .any, .any, .any, .any, .any, .any, .any, .any, .any, .any, .any, .any, .any]⟩
def f_nist_reader_exact_io_p2 (T : TT_nist_reader_exact_io) (d : ((ByteArray × (Int × ((Option Int) × Unit))) × (Unit × Unit)) × (Unit × ((ByteArray × Unit) × (Unit × ((Int × Unit) × ((Int × Unit) × Unit)))))) : Option (((ByteArray × (Int × ((Option Int) × Unit))) × Unit) × (Unit × Unit)) :=
  let x2 : Bool := (decide (d.2.2.2.2.2.1.1 < d.2.2.2.2.1.1))
  bif x2 then (
  bif decide ((0 : Int) ≤ d.2.2.2.2.2.1.1) && decide (d.2.2.2.2.2.1.1 < ((d.2.2.1.1.size : Int) : Int)) then (
  let x3 : Int := (bt d.2.2.1.1 d.2.2.2.2.2.1.1)
  (g_scan_Scanner_string_Take_io (((d.1.1.1, (d.1.1.2.1, (d.1.1.2.2.1, ()))), ()), ((), ((x3, ()), ())))).bind fun x4 =>
  let x5 : Bool := (!x4.2.1.1)
  bif x5 then (
  let x6 : (Option Int) := (some (2 : Int))
  (g_scan_Scanner_string_Fail_io (((x4.1.1.1, (x4.1.1.2.1, (x4.1.1.2.2.1, ()))), ()), ((), ((x6, ()), ())))).bind fun x7 =>
  let x8 : Int := (iadd .i64 d.2.2.2.2.2.1.1 (1 : Int))
  (T.1 (((x7.1.1.1, (x7.1.1.2.1, (x7.1.1.2.2.1, ()))), ((), ())), ((), ((d.2.2.1.1, ()), ((), ((d.2.2.2.2.1.1, ()), ((x8, ()), ()))))))))
  else (
  let x9 : Int := (iadd .i64 d.2.2.2.2.2.1.1 (1 : Int))
  (T.1 (((x4.1.1.1, (x4.1.1.2.1, (x4.1.1.2.2.1, ()))), ((), ())), ((), ((d.2.2.1.1, ()), ((), ((d.2.2.2.2.1.1, ()), ((x9, ()), ())))))))))
  else none)
  else (
  some (((d.1.1.1, (d.1.1.2.1, (d.1.1.2.2.1, ()))), ()), ((), ())))
def f_nist_reader_exact_io_t : Nat → TT_nist_reader_exact_io
  | 0 => (fun _ => none, ())
  | k + 1 => (f_nist_reader_exact_io_p2 (f_nist_reader_exact_io_t k), ())
theorem t_nist_reader_exact_io (k : Nat) : f_nist_reader_exact_io_t (k + 1) = (f_nist_reader_exact_io_p2 (f_nist_reader_exact_io_t k), ()) := rfl
def f_nist_reader_exact_io_m (T : TT_nist_reader_exact_io) (d : ((ByteArray × (Int × ((Option Int) × Unit))) × Unit) × (Unit × ((ByteArray × Unit) × Unit))) : Option (((ByteArray × (Int × ((Option Int) × Unit))) × Unit) × (Unit × Unit)) :=
  let x1 : Int := (d.2.2.1.1.size : Int)
  (T.1 (((d.1.1.1, (d.1.1.2.1, (d.1.1.2.2.1, ()))), ((), ())), ((), ((d.2.2.1.1, ()), ((), ((x1, ()), (((0 : Int), ()), ())))))))
def c_nist_reader_exact_io : List Nat := []
def L_nist_reader_exact_io (k : Nat) : Pts po_nist_reader_exact_io.den := [(2, ⟨sh_nist_reader_exact_io_2, (f_nist_reader_exact_io_t k).1⟩)]
def E_nist_reader_exact_io : Env := (((E0.add 70 (ioSem pi_scan_Scanner_string_Take_io po_scan_Scanner_string_Take_io 1 [(0, 0, none)] g_scan_Scanner_string_Take_io)).add 90 (ioSem pi_scan_Scanner_string_Fail_io po_scan_Scanner_string_Fail_io 0 [(0, 0, none)] g_scan_Scanner_string_Fail_io)).kp [0])
theorem q_nist_reader_exact_io_2 (k : Nat) (d : ((ByteArray × (Int × ((Option Int) × Unit))) × (Unit × Unit)) × (Unit × ((ByteArray × Unit) × (Unit × ((Int × Unit) × ((Int × Unit) × Unit)))))) : evAt E_nist_reader_exact_io (tab (L_nist_reader_exact_io k)) c_nist_reader_exact_io 2 (bodyOf Try.f67) 0 (finKio E_nist_reader_exact_io po_nist_reader_exact_io [] [(0, some 0)]) (ptSt sh_nist_reader_exact_io_2 d) = f_nist_reader_exact_io_p2 (f_nist_reader_exact_io_t k) d := by kernel_rfl
theorem q_nist_reader_exact_io_m (k : Nat) (d : ((ByteArray × (Int × ((Option Int) × Unit))) × Unit) × (Unit × ((ByteArray × Unit) × Unit))) : evCode E_nist_reader_exact_io (tab (L_nist_reader_exact_io k)) c_nist_reader_exact_io (bodyOf Try.f67) 0 (finKio E_nist_reader_exact_io po_nist_reader_exact_io [] [(0, some 0)]) (startSt pi_nist_reader_exact_io 22 d) = f_nist_reader_exact_io_m (f_nist_reader_exact_io_t k) d := by kernel_rfl
theorem go_nist_reader_exact_io (F : ((ByteArray × (Int × ((Option Int) × Unit))) × Unit) × (Unit × ((ByteArray × Unit) × Unit)) → Option (((ByteArray × (Int × ((Option Int) × Unit))) × Unit) × (Unit × Unit))) (hF : ∀ d out, F d = some out → ∃ k, f_nist_reader_exact_io_m (f_nist_reader_exact_io_t k) d = some out) : FnIo Try.prog ET0 67 pi_nist_reader_exact_io po_nist_reader_exact_io 0 [(0, 0, some 0)] F :=
  fn_of_bodyIo (E := E_nist_reader_exact_io) (envOk_kp (envOk_add (envOk_add e0_ok (io_ok ok_scan_Scanner_string_Take_io)) (io_ok ok_scan_Scanner_string_Fail_io))) (fn := Try.f67) Try.func67 (by kernel_rfl) (by kernel_rfl) [] [(0, some 0)] [(0, 0, some 0)] (by kernel_rfl) (by kernel_rfl) (by kernel_rfl) (by kernel_rfl) (by decide) (by decide) c_nist_reader_exact_io L_nist_reader_exact_io
    (by intro x hx d; simp only [L_nist_reader_exact_io, List.mem_cons, List.not_mem_nil, or_false] at hx; subst hx; rfl)
    (by intro k x hx d out h; simp only [L_nist_reader_exact_io, List.mem_cons, List.not_mem_nil, or_false] at hx; subst hx; exact (q_nist_reader_exact_io_2 k d).trans h)
    (by intro d out h; obtain ⟨k, hk⟩ := hF d out h; exact ⟨k, (q_nist_reader_exact_io_m k d).trans hk⟩)
def g_nist_reader_exact_io (d : ((ByteArray × (Int × ((Option Int) × Unit))) × Unit) × (Unit × ((ByteArray × Unit) × Unit))) : Option (((ByteArray × (Int × ((Option Int) × Unit))) × Unit) × (Unit × Unit)) := lim fun k => f_nist_reader_exact_io_m (f_nist_reader_exact_io_t k) d
theorem ok_nist_reader_exact_io : FnIo Try.prog ET0 67 pi_nist_reader_exact_io po_nist_reader_exact_io 0 [(0, 0, some 0)] g_nist_reader_exact_io := go_nist_reader_exact_io g_nist_reader_exact_io fun d out h => lim_some h

/- (*horologe/scan.Scanner[string]).Figures -/
@[reducible] def pi_scan_Scanner_string_Figures_io : PSh := ⟨[.var 159 [.v .str, .v (.int .i64), .v .err]], [.mk false [.ref 0 0], .mk false [.v (.int .i64)], .mk false [.v (.int .i64)]]⟩
@[reducible] def po_scan_Scanner_string_Figures_io : PSh := ⟨[.var 159 [.v .str, .v (.int .i64), .v .err]], [.mk false [.v (.int .i64)], .mk false [.ref 0 0]]⟩
def f_scan_Scanner_string_Figures_io_m (T : Unit) (d : ((ByteArray × (Int × ((Option Int) × Unit))) × Unit) × (Unit × ((Int × Unit) × ((Int × Unit) × Unit)))) : Option (((ByteArray × (Int × ((Option Int) × Unit))) × Unit) × ((Int × Unit) × (Unit × Unit))) :=
  (g_scan_Scanner_string_going ((), (((some (d.1.1.1, (d.1.1.2.1, d.1.1.2.2.1))), ()), ()))).bind fun x1 =>
  let x2 : Bool := (!x1.2.1.1)
  bif x2 then (
  some (((d.1.1.1, (d.1.1.2.1, (d.1.1.2.2.1, ()))), ()), (((0 : Int), ()), ((), ()))))
  else (
  (g_scan_Scanner_string_rest ((), (((some (d.1.1.1, (d.1.1.2.1, d.1.1.2.2.1))), ()), ()))).bind fun x3 =>
  (g_figures_Take ((), ((x3.2.1.1, ()), ((d.2.2.1.1, ()), ((d.2.2.2.1.1, ()), ()))))).bind fun x4 =>
  let x5 : Bool := (!x4.2.2.2.1.1.isNone)
  bif x5 then (
  some (((d.1.1.1, (d.1.1.2.1, (x4.2.2.2.1.1, ()))), ()), (((0 : Int), ()), ((), ()))))
  else (
  (g_scan_Scanner_string_take_io (((d.1.1.1, (d.1.1.2.1, (d.1.1.2.2.1, ()))), ()), ((), ((x4.2.2.1.1, ()), ())))).bind fun x6 =>
  some (((x6.1.1.1, (x6.1.1.2.1, (x6.1.1.2.2.1, ()))), ()), ((x4.2.1.1, ()), ((), ())))))
def c_scan_Scanner_string_Figures_io : List Nat := []
def L_scan_Scanner_string_Figures_io (_ : Nat) : Pts po_scan_Scanner_string_Figures_io.den := []
def E_scan_Scanner_string_Figures_io : Env := (((((E0.add 125 (ioSem pi_scan_Scanner_string_take_io po_scan_Scanner_string_take_io 1 [(0, 0, none)] g_scan_Scanner_string_take_io)).add 138 (typedSem pi_scan_Scanner_string_going po_scan_Scanner_string_going g_scan_Scanner_string_going)).add 156 (typedSem pi_figures_Take po_figures_Take g_figures_Take)).add 157 (typedSem pi_scan_Scanner_string_rest po_scan_Scanner_string_rest g_scan_Scanner_string_rest)).kp [0])
theorem q_scan_Scanner_string_Figures_io_m (k : Nat) (d : ((ByteArray × (Int × ((Option Int) × Unit))) × Unit) × (Unit × ((Int × Unit) × ((Int × Unit) × Unit)))) : evCode E_scan_Scanner_string_Figures_io (tab (L_scan_Scanner_string_Figures_io k)) c_scan_Scanner_string_Figures_io (bodyOf Try.f121) 0 (finKio E_scan_Scanner_string_Figures_io po_scan_Scanner_string_Figures_io [.tmp 6] [(0, none)]) (startSt pi_scan_Scanner_string_Figures_io 32 d) = f_scan_Scanner_string_Figures_io_m () d := by kernel_rfl
def g_scan_Scanner_string_Figures_io (d : ((ByteArray × (Int × ((Option Int) × Unit))) × Unit) × (Unit × ((Int × Unit) × ((Int × Unit) × Unit)))) : Option (((ByteArray × (Int × ((Option Int) × Unit))) × Unit) × ((Int × Unit) × (Unit × Unit))) := f_scan_Scanner_string_Figures_io_m () d
theorem ok_scan_Scanner_string_Figures_io : FnIo Try.prog ET0 121 pi_scan_Scanner_string_Figures_io po_scan_Scanner_string_Figures_io 1 [(0, 0, none)] g_scan_Scanner_string_Figures_io :=
  fn_of_bodyIo (E := E_scan_Scanner_string_Figures_io) (envOk_kp (envOk_add (envOk_add (envOk_add (envOk_add e0_ok (io_ok ok_scan_Scanner_string_take_io)) (typed_ok ok_scan_Scanner_string_going)) (typed_ok ok_figures_Take)) (typed_ok ok_scan_Scanner_string_rest))) (fn := Try.f121) Try.func121 (by kernel_rfl) (by kernel_rfl) [.tmp 6] [(0, none)] [(0, 0, none)] (by kernel_rfl) (by kernel_rfl) (by kernel_rfl) (by kernel_rfl) (by decide) (by decide) c_scan_Scanner_string_Figures_io L_scan_Scanner_string_Figures_io
    (by intro x hx; cases hx) (by intro k x hx; cases hx) (fun d out h => ⟨0, (q_scan_Scanner_string_Figures_io_m 0 d).trans h⟩)

/- (horologe/nist.reader).number -/
@[reducible] def pi_nist_reader_number_io : PSh := ⟨[.var 159 [.v .str, .v (.int .i64), .v .err]], [.mk true [.ref 0 0], .mk false [.v .str], .mk false [.v (.int .i64)]]⟩
@[reducible] def po_nist_reader_number_io : PSh := ⟨[.var 159 [.v .str, .v (.int .i64), .v .err]], [.mk false [.v (.int .i64)], .mk false [.ref 0 0]]⟩
def f_nist_reader_number_io_m (T : Unit) (d : ((ByteArray × (Int × ((Option Int) × Unit))) × Unit) × (Unit × ((ByteArray × Unit) × ((Int × Unit) × Unit)))) : Option (((ByteArray × (Int × ((Option Int) × Unit))) × Unit) × ((Int × Unit) × (Unit × Unit))) :=
  (g_nist_reader_exact_io (((d.1.1.1, (d.1.1.2.1, (d.1.1.2.2.1, ()))), ()), ((), ((d.2.2.1.1, ()), ())))).bind fun x1 =>
  (g_scan_Scanner_string_Figures_io (((x1.1.1.1, (x1.1.1.2.1, (x1.1.1.2.2.1, ()))), ()), ((), ((d.2.2.2.1.1, ()), ((d.2.2.2.1.1, ()), ()))))).bind fun x2 =>
  some (((x2.1.1.1, (x2.1.1.2.1, (x2.1.1.2.2.1, ()))), ()), ((x2.2.1.1, ()), ((), ())))
def c_nist_reader_number_io : List Nat := []
def L_nist_reader_number_io (_ : Nat) : Pts po_nist_reader_number_io.den := []
def E_nist_reader_number_io : Env := (((E0.add 67 (ioSem pi_nist_reader_exact_io po_nist_reader_exact_io 0 [(0, 0, some 0)] g_nist_reader_exact_io)).add 121 (ioSem pi_scan_Scanner_string_Figures_io po_scan_Scanner_string_Figures_io 1 [(0, 0, none)] g_scan_Scanner_string_Figures_io)).kp [0])
theorem q_nist_reader_number_io_m (k : Nat) (d : ((ByteArray × (Int × ((Option Int) × Unit))) × Unit) × (Unit × ((ByteArray × Unit) × ((Int × Unit) × Unit)))) : evCode E_nist_reader_number_io (tab (L_nist_reader_number_io k)) c_nist_reader_number_io (bodyOf Try.f68) 0 (finKio E_nist_reader_number_io po_nist_reader_number_io [.tmp 6] [(0, some 0)]) (startSt pi_nist_reader_number_io 15 d) = f_nist_reader_number_io_m () d := by kernel_rfl
def g_nist_reader_number_io (d : ((ByteArray × (Int × ((Option Int) × Unit))) × Unit) × (Unit × ((ByteArray × Unit) × ((Int × Unit) × Unit)))) : Option (((ByteArray × (Int × ((Option Int) × Unit))) × Unit) × ((Int × Unit) × (Unit × Unit))) := f_nist_reader_number_io_m () d
theorem ok_nist_reader_number_io : FnIo Try.prog ET0 68 pi_nist_reader_number_io po_nist_reader_number_io 1 [(0, 0, some 0)] g_nist_reader_number_io :=
  fn_of_bodyIo (E := E_nist_reader_number_io) (envOk_kp (envOk_add (envOk_add e0_ok (io_ok ok_nist_reader_exact_io)) (io_ok ok_scan_Scanner_string_Figures_io))) (fn := Try.f68) Try.func68 (by kernel_rfl) (by kernel_rfl) [.tmp 6] [(0, some 0)] [(0, 0, some 0)] (by kernel_rfl) (by kernel_rfl) (by kernel_rfl) (by kernel_rfl) (by decide) (by decide) c_nist_reader_number_io L_nist_reader_number_io
    (by intro x hx; cases hx) (by intro k x hx; cases hx) (fun d out h => ⟨0, (q_nist_reader_number_io_m 0 d).trans h⟩)

/- (*horologe/scan.Scanner[string]).Run -/
@[reducible] def pi_scan_Scanner_string_Run_io : PSh := ⟨[.var 159 [.v .str, .v (.int .i64), .v .err]], [.mk false [.ref 0 0], .mk false [.v .str]]⟩
@[reducible] def po_scan_Scanner_string_Run_io : PSh := ⟨[.var 159 [.v .str, .v (.int .i64), .v .err]], [.mk false [.v .str], .mk false [.ref 0 0]]⟩
@[reducible] def TT_scan_Scanner_string_Run_io : Type := (((((ByteArray × (Int × ((Option Int) × Unit))) × Unit) × (Unit × ((ByteArray × Unit) × ((ByteArray × Unit) × ((Int × Unit) × Unit))))) → Option (((ByteArray × (Int × ((Option Int) × Unit))) × Unit) × ((ByteArray × Unit) × (Unit × Unit)))) × Unit)
@[reducible] def sh_scan_Scanner_string_Run_io_4 : PSh := ⟨[.var 159 [.v .str, .v (.int .i64), .v .err]], [.mk false [.ref 0 0], .mk false [.v .str], .any, .any, .any, .mk false [.v .str], .mk false [.v (.int .i64)], .any, .any, .any, .any, .any, .any, .any, .any, .any, .any, .any, .any, .any, .any, .any, .any, .any, .any, .any]⟩
def f_scan_Scanner_string_Run_io_p4 (T : TT_scan_Scanner_string_Run_io) (d : ((ByteArray × (Int × ((Option Int) × Unit))) × Unit) × (Unit × ((ByteArray × Unit) × ((ByteArray × Unit) × ((Int × Unit) × Unit))))) : Option (((ByteArray × (Int × ((Option Int) × Unit))) × Unit) × ((ByteArray × Unit) × (Unit × Unit))) :=
  let x2 : Int := (d.2.2.2.1.1.size : Int)
  let x3 : Bool := (decide (d.2.2.2.2.1.1 < x2))
  bif x3 then (
  bif decide ((0 : Int) ≤ d.2.2.2.2.1.1) && decide (d.2.2.2.2.1.1 < ((d.2.2.2.1.1.size : Int) : Int)) then (
  let x4 : Int := (bt d.2.2.2.1.1 d.2.2.2.2.1.1)
  (g_strings_IndexByte ((), ((d.2.2.1.1, ()), ((x4, ()), ())))).bind fun x5 =>
  let x6 : Bool := (decide (x5.2.1.1 ≥ (0 : Int)))
  bif x6 then (
  let x7 : Int := (iadd .i64 d.2.2.2.2.1.1 (1 : Int))
  (T.1 (((d.1.1.1, (d.1.1.2.1, (d.1.1.2.2.1, ()))), ()), ((), ((d.2.2.1.1, ()), ((d.2.2.2.1.1, ()), ((x7, ()), ())))))))
  else (
  (g_scan_Scanner_string_take_io (((d.1.1.1, (d.1.1.2.1, (d.1.1.2.2.1, ()))), ()), ((), ((d.2.2.2.2.1.1, ()), ())))).bind fun x8 =>
  some (((x8.1.1.1, (x8.1.1.2.1, (x8.1.1.2.2.1, ()))), ()), ((x8.2.1.1, ()), ((), ())))))
  else none)
  else (
  (g_scan_Scanner_string_take_io (((d.1.1.1, (d.1.1.2.1, (d.1.1.2.2.1, ()))), ()), ((), ((d.2.2.2.2.1.1, ()), ())))).bind fun x9 =>
  some (((x9.1.1.1, (x9.1.1.2.1, (x9.1.1.2.2.1, ()))), ()), ((x9.2.1.1, ()), ((), ()))))
def f_scan_Scanner_string_Run_io_t : Nat → TT_scan_Scanner_string_Run_io
  | 0 => (fun _ => none, ())
  | k + 1 => (f_scan_Scanner_string_Run_io_p4 (f_scan_Scanner_string_Run_io_t k), ())
theorem t_scan_Scanner_string_Run_io (k : Nat) : f_scan_Scanner_string_Run_io_t (k + 1) = (f_scan_Scanner_string_Run_io_p4 (f_scan_Scanner_string_Run_io_t k), ()) := rfl
def f_scan_Scanner_string_Run_io_m (T : TT_scan_Scanner_string_Run_io) (d : ((ByteArray × (Int × ((Option Int) × Unit))) × Unit) × (Unit × ((ByteArray × Unit) × Unit))) : Option (((ByteArray × (Int × ((Option Int) × Unit))) × Unit) × ((ByteArray × Unit) × (Unit × Unit))) :=
  (g_scan_Scanner_string_rest ((), (((some (d.1.1.1, (d.1.1.2.1, d.1.1.2.2.1))), ()), ()))).bind fun x1 =>
  (T.1 (((d.1.1.1, (d.1.1.2.1, (d.1.1.2.2.1, ()))), ()), ((), ((d.2.2.1.1, ()), ((x1.2.1.1, ()), (((0 : Int), ()), ()))))))
def c_scan_Scanner_string_Run_io : List Nat := []
def L_scan_Scanner_string_Run_io (k : Nat) : Pts po_scan_Scanner_string_Run_io.den := [(4, ⟨sh_scan_Scanner_string_Run_io_4, (f_scan_Scanner_string_Run_io_t k).1⟩)]
def E_scan_Scanner_string_Run_io : Env := ((((E0.add 83 (typedSem pi_strings_IndexByte po_strings_IndexByte g_strings_IndexByte)).add 125 (ioSem pi_scan_Scanner_string_take_io po_scan_Scanner_string_take_io 1 [(0, 0, none)] g_scan_Scanner_string_take_io)).add 157 (typedSem pi_scan_Scanner_string_rest po_scan_Scanner_string_rest g_scan_Scanner_string_rest)).kp [0])
theorem q_scan_Scanner_string_Run_io_4 (k : Nat) (d : ((ByteArray × (Int × ((Option Int) × Unit))) × Unit) × (Unit × ((ByteArray × Unit) × ((ByteArray × Unit) × ((Int × Unit) × Unit))))) : evAt E_scan_Scanner_string_Run_io (tab (L_scan_Scanner_string_Run_io k)) c_scan_Scanner_string_Run_io 4 (bodyOf Try.f123) 0 (finKio E_scan_Scanner_string_Run_io po_scan_Scanner_string_Run_io [.tmp 4] [(0, none)]) (ptSt sh_scan_Scanner_string_Run_io_4 d) = f_scan_Scanner_string_Run_io_p4 (f_scan_Scanner_string_Run_io_t k) d := by kernel_rfl
theorem q_scan_Scanner_string_Run_io_m (k : Nat) (d : ((ByteArray × (Int × ((Option Int) × Unit))) × Unit) × (Unit × ((ByteArray × Unit) × Unit))) : evCode E_scan_Scanner_string_Run_io (tab (L_scan_Scanner_string_Run_io k)) c_scan_Scanner_string_Run_io (bodyOf Try.f123) 0 (finKio E_scan_Scanner_string_Run_io po_scan_Scanner_string_Run_io [.tmp 4] [(0, none)]) (startSt pi_scan_Scanner_string_Run_io 26 d) = f_scan_Scanner_string_Run_io_m (f_scan_Scanner_string_Run_io_t k) d := by kernel_rfl
theorem go_scan_Scanner_string_Run_io (F : ((ByteArray × (Int × ((Option Int) × Unit))) × Unit) × (Unit × ((ByteArray × Unit) × Unit)) → Option (((ByteArray × (Int × ((Option Int) × Unit))) × Unit) × ((ByteArray × Unit) × (Unit × Unit)))) (hF : ∀ d out, F d = some out → ∃ k, f_scan_Scanner_string_Run_io_m (f_scan_Scanner_string_Run_io_t k) d = some out) : FnIo Try.prog ET0 123 pi_scan_Scanner_string_Run_io po_scan_Scanner_string_Run_io 1 [(0, 0, none)] F :=
  fn_of_bodyIo (E := E_scan_Scanner_string_Run_io) (envOk_kp (envOk_add (envOk_add (envOk_add e0_ok (typed_ok ok_strings_IndexByte)) (io_ok ok_scan_Scanner_string_take_io)) (typed_ok ok_scan_Scanner_string_rest))) (fn := Try.f123) Try.func123 (by kernel_rfl) (by kernel_rfl) [.tmp 4] [(0, none)] [(0, 0, none)] (by kernel_rfl) (by kernel_rfl) (by kernel_rfl) (by kernel_rfl) (by decide) (by decide) c_scan_Scanner_string_Run_io L_scan_Scanner_string_Run_io
    (by intro x hx d; simp only [L_scan_Scanner_string_Run_io, List.mem_cons, List.not_mem_nil, or_false] at hx; subst hx; rfl)
    (by intro k x hx d out h; simp only [L_scan_Scanner_string_Run_io, List.mem_cons, List.not_mem_nil, or_false] at hx; subst hx; exact (q_scan_Scanner_string_Run_io_4 k d).trans h)
    (by intro d out h; obtain ⟨k, hk⟩ := hF d out h; exact ⟨k, (q_scan_Scanner_string_Run_io_m k d).trans hk⟩)
def g_scan_Scanner_string_Run_io (d : ((ByteArray × (Int × ((Option Int) × Unit))) × Unit) × (Unit × ((ByteArray × Unit) × Unit))) : Option (((ByteArray × (Int × ((Option Int) × Unit))) × Unit) × ((ByteArray × Unit) × (Unit × Unit))) := lim fun k => f_scan_Scanner_string_Run_io_m (f_scan_Scanner_string_Run_io_t k) d
theorem ok_scan_Scanner_string_Run_io : FnIo Try.prog ET0 123 pi_scan_Scanner_string_Run_io po_scan_Scanner_string_Run_io 1 [(0, 0, none)] g_scan_Scanner_string_Run_io := go_scan_Scanner_string_Run_io g_scan_Scanner_string_Run_io fun d out h => lim_some h

/- (horologe/nist.reader).advance -/
@[reducible] def pi_nist_reader_advance_io : PSh := ⟨[.var 159 [.v .str, .v (.int .i64), .v .err]], [.mk true [.ref 0 0]]⟩
@[reducible] def po_nist_reader_advance_io : PSh := ⟨[.var 159 [.v .str, .v (.int .i64), .v .err]], [.mk false [.v (.int .i64)], .mk false [.ref 0 0]]⟩
def f_nist_reader_advance_io_m (T : Unit) (d : ((ByteArray × (Int × ((Option Int) × Unit))) × Unit) × (Unit × Unit)) : Option (((ByteArray × (Int × ((Option Int) × Unit))) × Unit) × ((Int × Unit) × (Unit × Unit))) :=
  (g_nist_reader_exact_io (((d.1.1.1, (d.1.1.2.1, (d.1.1.2.2.1, ()))), ()), ((), (((⟨#[32]⟩ : ByteArray), ()), ())))).bind fun x1 =>
  (g_scan_Scanner_string_At ((), (((some (x1.1.1.1, (x1.1.1.2.1, x1.1.1.2.2.1))), ()), ()))).bind fun x2 =>
  (g_scan_Scanner_string_Run_io (((x1.1.1.1, (x1.1.1.2.1, (x1.1.1.2.2.1, ()))), ()), ((), (((⟨#[32]⟩ : ByteArray), ()), ())))).bind fun x3 =>
  (g_scan_Scanner_string_Figures_io (((x3.1.1.1, (x3.1.1.2.1, (x3.1.1.2.2.1, ()))), ()), ((), (((1 : Int), ()), (((3 : Int), ()), ()))))).bind fun x4 =>
  (g_figures_Put ((), ((x4.2.1.1, ()), (((1 : Int), ()), ())))).bind fun x5 =>
  let x6 : Bool := (!x5.2.2.1.1.isNone)
  bif x6 then (
  let x7 : (Option Int) := (some (2 : Int))
  (g_scan_Scanner_string_Fail_io (((x4.1.1.1, (x4.1.1.2.1, (x4.1.1.2.2.1, ()))), ()), ((), ((x7, ()), ())))).bind fun x8 =>
  let x9 : Int := (imul .i64 x4.2.1.1 (10 : Int))
  (g_nist_reader_number_io (((x8.1.1.1, (x8.1.1.2.1, (x8.1.1.2.2.1, ()))), ()), ((), (((⟨#[46]⟩ : ByteArray), ()), (((1 : Int), ()), ()))))).bind fun x10 =>
  let x11 : Int := (iadd .i64 x9 x10.2.1.1)
  some (((x10.1.1.1, (x10.1.1.2.1, (x10.1.1.2.2.1, ()))), ()), ((x11, ()), ((), ()))))
  else (
  (g_scan_Scanner_string_At ((), (((some (x4.1.1.1, (x4.1.1.2.1, x4.1.1.2.2.1))), ()), ()))).bind fun x12 =>
  let x13 : Int := (isub .i64 x12.2.1.1 x2.2.1.1)
  let x14 : Bool := (x13 != (3 : Int))
  bif x14 then (
  let x15 : (Option Int) := (some (2 : Int))
  (g_scan_Scanner_string_Fail_io (((x4.1.1.1, (x4.1.1.2.1, (x4.1.1.2.2.1, ()))), ()), ((), ((x15, ()), ())))).bind fun x16 =>
  let x17 : Int := (imul .i64 x4.2.1.1 (10 : Int))
  (g_nist_reader_number_io (((x16.1.1.1, (x16.1.1.2.1, (x16.1.1.2.2.1, ()))), ()), ((), (((⟨#[46]⟩ : ByteArray), ()), (((1 : Int), ()), ()))))).bind fun x18 =>
  let x19 : Int := (iadd .i64 x17 x18.2.1.1)
  some (((x18.1.1.1, (x18.1.1.2.1, (x18.1.1.2.2.1, ()))), ()), ((x19, ()), ((), ()))))
  else (
  let x20 : Int := (x3.2.1.1.size : Int)
  let x21 : Int := (x5.2.1.1.size : Int)
  let x22 : Int := (iadd .i64 x20 x21)
  let x23 : Bool := (x22 != (3 : Int))
  bif x23 then (
  let x24 : (Option Int) := (some (2 : Int))
  (g_scan_Scanner_string_Fail_io (((x4.1.1.1, (x4.1.1.2.1, (x4.1.1.2.2.1, ()))), ()), ((), ((x24, ()), ())))).bind fun x25 =>
  let x26 : Int := (imul .i64 x4.2.1.1 (10 : Int))
  (g_nist_reader_number_io (((x25.1.1.1, (x25.1.1.2.1, (x25.1.1.2.2.1, ()))), ()), ((), (((⟨#[46]⟩ : ByteArray), ()), (((1 : Int), ()), ()))))).bind fun x27 =>
  let x28 : Int := (iadd .i64 x26 x27.2.1.1)
  some (((x27.1.1.1, (x27.1.1.2.1, (x27.1.1.2.2.1, ()))), ()), ((x28, ()), ((), ()))))
  else (
  let x29 : Int := (imul .i64 x4.2.1.1 (10 : Int))
  (g_nist_reader_number_io (((x4.1.1.1, (x4.1.1.2.1, (x4.1.1.2.2.1, ()))), ()), ((), (((⟨#[46]⟩ : ByteArray), ()), (((1 : Int), ()), ()))))).bind fun x30 =>
  let x31 : Int := (iadd .i64 x29 x30.2.1.1)
  some (((x30.1.1.1, (x30.1.1.2.1, (x30.1.1.2.2.1, ()))), ()), ((x31, ()), ((), ()))))))
def c_nist_reader_advance_io : List Nat := []
def L_nist_reader_advance_io (_ : Nat) : Pts po_nist_reader_advance_io.den := []
def E_nist_reader_advance_io : Env := ((((((((E0.add 67 (ioSem pi_nist_reader_exact_io po_nist_reader_exact_io 0 [(0, 0, some 0)] g_nist_reader_exact_io)).add 68 (ioSem pi_nist_reader_number_io po_nist_reader_number_io 1 [(0, 0, some 0)] g_nist_reader_number_io)).add 90 (ioSem pi_scan_Scanner_string_Fail_io po_scan_Scanner_string_Fail_io 0 [(0, 0, none)] g_scan_Scanner_string_Fail_io)).add 99 (typedSem pi_figures_Put po_figures_Put g_figures_Put)).add 121 (ioSem pi_scan_Scanner_string_Figures_io po_scan_Scanner_string_Figures_io 1 [(0, 0, none)] g_scan_Scanner_string_Figures_io)).add 122 (typedSem pi_scan_Scanner_string_At po_scan_Scanner_string_At g_scan_Scanner_string_At)).add 123 (ioSem pi_scan_Scanner_string_Run_io po_scan_Scanner_string_Run_io 1 [(0, 0, none)] g_scan_Scanner_string_Run_io)).kp [0])
theorem q_nist_reader_advance_io_m (k : Nat) (d : ((ByteArray × (Int × ((Option Int) × Unit))) × Unit) × (Unit × Unit)) : evCode E_nist_reader_advance_io (tab (L_nist_reader_advance_io k)) c_nist_reader_advance_io (bodyOf Try.f69) 0 (finKio E_nist_reader_advance_io po_nist_reader_advance_io [.tmp 2] [(0, some 0)]) (startSt pi_nist_reader_advance_io 51 d) = f_nist_reader_advance_io_m () d := by kernel_rfl
def g_nist_reader_advance_io (d : ((ByteArray × (Int × ((Option Int) × Unit))) × Unit) × (Unit × Unit)) : Option (((ByteArray × (Int × ((Option Int) × Unit))) × Unit) × ((Int × Unit) × (Unit × Unit))) := f_nist_reader_advance_io_m () d
theorem ok_nist_reader_advance_io : FnIo Try.prog ET0 69 pi_nist_reader_advance_io po_nist_reader_advance_io 1 [(0, 0, some 0)] g_nist_reader_advance_io :=
  fn_of_bodyIo (E := E_nist_reader_advance_io) (envOk_kp (envOk_add (envOk_add (envOk_add (envOk_add (envOk_add (envOk_add (envOk_add e0_ok (io_ok ok_nist_reader_exact_io)) (io_ok ok_nist_reader_number_io)) (io_ok ok_scan_Scanner_string_Fail_io)) (typed_ok ok_figures_Put)) (io_ok ok_scan_Scanner_string_Figures_io)) (typed_ok ok_scan_Scanner_string_At)) (io_ok ok_scan_Scanner_string_Run_io))) (fn := Try.f69) Try.func69 (by kernel_rfl) (by kernel_rfl) [.tmp 2] [(0, some 0)] [(0, 0, some 0)] (by kernel_rfl) (by kernel_rfl) (by kernel_rfl) (by kernel_rfl) (by decide) (by decide) c_nist_reader_advance_io L_nist_reader_advance_io
    (by intro x hx; cases hx) (by intro k x hx; cases hx) (fun d out h => ⟨0, (q_nist_reader_advance_io_m 0 d).trans h⟩)

/- horologe/nist.Parse -/
@[reducible] def pi_nist_Parse : PSh := ⟨[], [.mk false [.v .str]]⟩
@[reducible] def po_nist_Parse : PSh := ⟨[], [.mk true [.v (.int .i64), .v (.int .i64), .v (.int .i64), .v (.int .i64), .v (.int .i64), .v (.int .i64), .v .bool], .mk false [.v .err]]⟩
def f_nist_Parse_m (T : Unit) (d : Unit × ((ByteArray × Unit) × Unit)) : Option (Unit × ((Int × (Int × (Int × (Int × (Int × (Int × (Bool × Unit))))))) × (((Option Int) × Unit) × Unit))) :=
  (g_scan_New_string ((), ((d.2.1.1, ()), ()))).bind fun x1 =>
  (g_nist_reader_exact_io (((x1.1.1.1, (x1.1.1.2.1, (x1.1.1.2.2.1, ()))), ()), ((), (((⟨#[10]⟩ : ByteArray), ()), ())))).bind fun x2 =>
  (g_nist_reader_number_io (((x2.1.1.1, (x2.1.1.2.1, (x2.1.1.2.2.1, ()))), ()), ((), (((⟨#[]⟩ : ByteArray), ()), (((5 : Int), ()), ()))))).bind fun x3 =>
  (g_nist_reader_number_io (((x3.1.1.1, (x3.1.1.2.1, (x3.1.1.2.2.1, ()))), ()), ((), (((⟨#[32]⟩ : ByteArray), ()), (((2 : Int), ()), ()))))).bind fun x4 =>
  (g_nist_reader_number_io (((x4.1.1.1, (x4.1.1.2.1, (x4.1.1.2.2.1, ()))), ()), ((), (((⟨#[45]⟩ : ByteArray), ()), (((2 : Int), ()), ()))))).bind fun x5 =>
  (g_nist_reader_number_io (((x5.1.1.1, (x5.1.1.2.1, (x5.1.1.2.2.1, ()))), ()), ((), (((⟨#[45]⟩ : ByteArray), ()), (((2 : Int), ()), ()))))).bind fun x6 =>
  (g_nist_reader_number_io (((x6.1.1.1, (x6.1.1.2.1, (x6.1.1.2.2.1, ()))), ()), ((), (((⟨#[32]⟩ : ByteArray), ()), (((2 : Int), ()), ()))))).bind fun x7 =>
  (g_nist_reader_number_io (((x7.1.1.1, (x7.1.1.2.1, (x7.1.1.2.2.1, ()))), ()), ((), (((⟨#[58]⟩ : ByteArray), ()), (((2 : Int), ()), ()))))).bind fun x8 =>
  (g_nist_reader_number_io (((x8.1.1.1, (x8.1.1.2.1, (x8.1.1.2.2.1, ()))), ()), ((), (((⟨#[58]⟩ : ByteArray), ()), (((2 : Int), ()), ()))))).bind fun x9 =>
  (g_nist_reader_number_io (((x9.1.1.1, (x9.1.1.2.1, (x9.1.1.2.2.1, ()))), ()), ((), (((⟨#[32]⟩ : ByteArray), ()), (((2 : Int), ()), ()))))).bind fun x10 =>
  (g_nist_reader_number_io (((x10.1.1.1, (x10.1.1.2.1, (x10.1.1.2.2.1, ()))), ()), ((), (((⟨#[32]⟩ : ByteArray), ()), (((1 : Int), ()), ()))))).bind fun x11 =>
  (g_nist_reader_number_io (((x11.1.1.1, (x11.1.1.2.1, (x11.1.1.2.2.1, ()))), ()), ((), (((⟨#[32]⟩ : ByteArray), ()), (((1 : Int), ()), ()))))).bind fun x12 =>
  (g_nist_reader_advance_io (((x12.1.1.1, (x12.1.1.2.1, (x12.1.1.2.2.1, ()))), ()), ((), ()))).bind fun x13 =>
  (g_nist_reader_exact_io (((x13.1.1.1, (x13.1.1.2.1, (x13.1.1.2.2.1, ()))), ()), ((), (((⟨#[32, 85, 84, 67, 40, 78, 73, 83, 84, 41, 32]⟩ : ByteArray), ()), ())))).bind fun x14 =>
  (g_scan_Scanner_string_Take_io (((x14.1.1.1, (x14.1.1.2.1, (x14.1.1.2.2.1, ()))), ()), ((), (((35 : Int), ()), ())))).bind fun x15 =>
  let x16 : Bool := (!x15.2.1.1)
  bif x16 then (
  (g_nist_reader_exact_io (((x15.1.1.1, (x15.1.1.2.1, (x15.1.1.2.2.1, ()))), ()), ((), (((⟨#[42]⟩ : ByteArray), ()), ())))).bind fun x17 =>
  (g_nist_reader_exact_io (((x17.1.1.1, (x17.1.1.2.1, (x17.1.1.2.2.1, ()))), ()), ((), (((⟨#[10]⟩ : ByteArray), ()), ())))).bind fun x18 =>
  (g_scan_Scanner_string_End ((), (((some (x18.1.1.1, (x18.1.1.2.1, x18.1.1.2.2.1))), ()), ()))).bind fun x19 =>
  let x20 : Bool := (!x19.2.1.1.isNone)
  bif x20 then (
  let x21 : (Option Int) := (some (2 : Int))
  some ((), (((0 : Int), ((0 : Int), ((0 : Int), ((0 : Int), ((0 : Int), ((0 : Int), (false, ()))))))), ((x21, ()), ()))))
  else (
  (g_nist_Line_told ((), (((0 : Int), ((0 : Int), (x10.2.1.1, (x11.2.1.1, (x12.2.1.1, (x13.2.1.1, (x15.2.1.1, ()))))))), ((x3.2.1.1, ()), ((x4.2.1.1, (x5.2.1.1, (x6.2.1.1, ()))), ((x7.2.1.1, (x8.2.1.1, (x9.2.1.1, ()))), ())))))).bind fun x22 =>
  some ((), ((x22.2.1.1, (x22.2.1.2.1, (x22.2.1.2.2.1, (x22.2.1.2.2.2.1, (x22.2.1.2.2.2.2.1, (x22.2.1.2.2.2.2.2.1, (x22.2.1.2.2.2.2.2.2.1, ()))))))), ((x22.2.2.1.1, ()), ())))))
  else (
  (g_nist_reader_exact_io (((x15.1.1.1, (x15.1.1.2.1, (x15.1.1.2.2.1, ()))), ()), ((), (((⟨#[10]⟩ : ByteArray), ()), ())))).bind fun x23 =>
  (g_scan_Scanner_string_End ((), (((some (x23.1.1.1, (x23.1.1.2.1, x23.1.1.2.2.1))), ()), ()))).bind fun x24 =>
  let x25 : Bool := (!x24.2.1.1.isNone)
  bif x25 then (
  let x26 : (Option Int) := (some (2 : Int))
  some ((), (((0 : Int), ((0 : Int), ((0 : Int), ((0 : Int), ((0 : Int), ((0 : Int), (false, ()))))))), ((x26, ()), ()))))
  else (
  (g_nist_Line_told ((), (((0 : Int), ((0 : Int), (x10.2.1.1, (x11.2.1.1, (x12.2.1.1, (x13.2.1.1, (x15.2.1.1, ()))))))), ((x3.2.1.1, ()), ((x4.2.1.1, (x5.2.1.1, (x6.2.1.1, ()))), ((x7.2.1.1, (x8.2.1.1, (x9.2.1.1, ()))), ())))))).bind fun x27 =>
  some ((), ((x27.2.1.1, (x27.2.1.2.1, (x27.2.1.2.2.1, (x27.2.1.2.2.2.1, (x27.2.1.2.2.2.2.1, (x27.2.1.2.2.2.2.2.1, (x27.2.1.2.2.2.2.2.2.1, ()))))))), ((x27.2.2.1.1, ()), ())))))
def c_nist_Parse : List Nat := []
def L_nist_Parse (_ : Nat) : Pts po_nist_Parse.den := []
def E_nist_Parse : Env := (((((((E0.add 66 (typedSem pi_scan_New_string po_scan_New_string g_scan_New_string)).add 67 (ioSem pi_nist_reader_exact_io po_nist_reader_exact_io 0 [(0, 0, some 0)] g_nist_reader_exact_io)).add 68 (ioSem pi_nist_reader_number_io po_nist_reader_number_io 1 [(0, 0, some 0)] g_nist_reader_number_io)).add 69 (ioSem pi_nist_reader_advance_io po_nist_reader_advance_io 1 [(0, 0, some 0)] g_nist_reader_advance_io)).add 70 (ioSem pi_scan_Scanner_string_Take_io po_scan_Scanner_string_Take_io 1 [(0, 0, none)] g_scan_Scanner_string_Take_io)).add 71 (typedSem pi_scan_Scanner_string_End po_scan_Scanner_string_End g_scan_Scanner_string_End)).add 72 (typedSem pi_nist_Line_told po_nist_Line_told g_nist_Line_told))
theorem q_nist_Parse_m (k : Nat) (d : Unit × ((ByteArray × Unit) × Unit)) : evCode E_nist_Parse (tab (L_nist_Parse k)) c_nist_Parse (bodyOf Try.f27) 0 (finK E_nist_Parse po_nist_Parse [.cell 2 23, .tmp 3]) (startSt pi_nist_Parse 66 d) = f_nist_Parse_m () d := by kernel_rfl
def g_nist_Parse (d : Unit × ((ByteArray × Unit) × Unit)) : Option (Unit × ((Int × (Int × (Int × (Int × (Int × (Int × (Bool × Unit))))))) × (((Option Int) × Unit) × Unit))) := f_nist_Parse_m () d
theorem ok_nist_Parse : FnOk Try.prog ET0 27 pi_nist_Parse po_nist_Parse g_nist_Parse :=
  fn_of_body (E := E_nist_Parse) (envOk_add (envOk_add (envOk_add (envOk_add (envOk_add (envOk_add (envOk_add e0_ok (typed_ok ok_scan_New_string)) (io_ok ok_nist_reader_exact_io)) (io_ok ok_nist_reader_number_io)) (io_ok ok_nist_reader_advance_io)) (io_ok ok_scan_Scanner_string_Take_io)) (typed_ok ok_scan_Scanner_string_End)) (typed_ok ok_nist_Line_told)) (fn := Try.f27) Try.func27 (by kernel_rfl) (by kernel_rfl) [.cell 2 23, .tmp 3] (by kernel_rfl) (by kernel_rfl) (by decide) rfl c_nist_Parse L_nist_Parse
    (by intro x hx; cases hx) (by intro k x hx; cases hx) (fun d out h => ⟨0, (q_nist_Parse_m 0 d).trans h⟩)

/- horologe/horologelaw26.NistBack -/
@[reducible] def pi_law26_NistBack : PSh := ⟨[], [.mk true [.v (.int .i64), .v (.int .i64), .v (.int .i64), .v (.int .i64), .v (.int .i64), .v (.int .i64), .v .bool], .mk false [.v .str]]⟩
@[reducible] def po_law26_NistBack : PSh := ⟨[], [.mk false [.v .bool]]⟩
def f_law26_NistBack_m (T : Unit) (d : Unit × ((Int × (Int × (Int × (Int × (Int × (Int × (Bool × Unit))))))) × ((ByteArray × Unit) × Unit))) : Option (Unit × ((Bool × Unit) × Unit)) :=
  (g_law26_alive ((), ())).bind fun x1 =>
  let x2 : Bool := (!x1.2.1.1)
  bif x2 then (
  some ((), ((false, ()), ())))
  else (
  let x3 : Int := (d.2.2.1.1.size : Int)
  let x4 : Bool := (decide (x3 > (200 : Int)))
  bif x4 then (
  some ((), ((true, ()), ())))
  else (
  (g_nist_Put ((), ((d.2.1.1, (d.2.1.2.1, (d.2.1.2.2.1, (d.2.1.2.2.2.1, (d.2.1.2.2.2.2.1, (d.2.1.2.2.2.2.2.1, (d.2.1.2.2.2.2.2.2.1, ()))))))), ()))).bind fun x5 =>
  bif x5.2.2.1.1.isNone then (
  (g_nist_Parse ((), ((x5.2.1.1, ()), ()))).bind fun x6 =>
  let x7 : Bool := (!x6.2.2.1.1.isNone)
  bif x7 then (
  some ((), ((false, ()), ())))
  else (
  let x8 : Bool := (!((x6.2.1.1 == d.2.1.1) && ((x6.2.1.2.1 == d.2.1.2.1) && ((x6.2.1.2.2.1 == d.2.1.2.2.1) && ((x6.2.1.2.2.2.1 == d.2.1.2.2.2.1) && ((x6.2.1.2.2.2.2.1 == d.2.1.2.2.2.2.1) && ((x6.2.1.2.2.2.2.2.1 == d.2.1.2.2.2.2.2.1) && ((x6.2.1.2.2.2.2.2.2.1 == d.2.1.2.2.2.2.2.2.1) && true))))))))
  bif x8 then (
  some ((), ((false, ()), ())))
  else (
  (g_nist_Parse ((), ((d.2.2.1.1, ()), ()))).bind fun x9 =>
  let x10 : Bool := (!x9.2.2.1.1.isNone)
  bif x10 then (
  let x11 : Bool := ((x9.2.1.1 == (0 : Int)) && ((x9.2.1.2.1 == (0 : Int)) && ((x9.2.1.2.2.1 == (0 : Int)) && ((x9.2.1.2.2.2.1 == (0 : Int)) && ((x9.2.1.2.2.2.2.1 == (0 : Int)) && ((x9.2.1.2.2.2.2.2.1 == (0 : Int)) && ((x9.2.1.2.2.2.2.2.2.1 == false) && true)))))))
  some ((), ((x11, ()), ())))
  else (
  (g_nist_Put ((), ((x9.2.1.1, (x9.2.1.2.1, (x9.2.1.2.2.1, (x9.2.1.2.2.2.1, (x9.2.1.2.2.2.2.1, (x9.2.1.2.2.2.2.2.1, (x9.2.1.2.2.2.2.2.2.1, ()))))))), ()))).bind fun x12 =>
  bif x12.2.2.1.1.isNone then (
  let x13 : Bool := (x12.2.1.1.toList == d.2.2.1.1.toList)
  some ((), ((x13, ()), ())))
  else (
  some ((), ((false, ()), ())))))))
  else (
  (g_nist_Parse ((), ((d.2.2.1.1, ()), ()))).bind fun x14 =>
  let x15 : Bool := (!x14.2.2.1.1.isNone)
  bif x15 then (
  let x16 : Bool := ((x14.2.1.1 == (0 : Int)) && ((x14.2.1.2.1 == (0 : Int)) && ((x14.2.1.2.2.1 == (0 : Int)) && ((x14.2.1.2.2.2.1 == (0 : Int)) && ((x14.2.1.2.2.2.2.1 == (0 : Int)) && ((x14.2.1.2.2.2.2.2.1 == (0 : Int)) && ((x14.2.1.2.2.2.2.2.2.1 == false) && true)))))))
  some ((), ((x16, ()), ())))
  else (
  (g_nist_Put ((), ((x14.2.1.1, (x14.2.1.2.1, (x14.2.1.2.2.1, (x14.2.1.2.2.2.1, (x14.2.1.2.2.2.2.1, (x14.2.1.2.2.2.2.2.1, (x14.2.1.2.2.2.2.2.2.1, ()))))))), ()))).bind fun x17 =>
  bif x17.2.2.1.1.isNone then (
  let x18 : Bool := (x17.2.1.1.toList == d.2.2.1.1.toList)
  some ((), ((x18, ()), ())))
  else (
  some ((), ((false, ()), ())))))))
def c_law26_NistBack : List Nat := []
def L_law26_NistBack (_ : Nat) : Pts po_law26_NistBack.den := []
def E_law26_NistBack : Env := (((E0.add 10 (typedSem pi_law26_alive po_law26_alive g_law26_alive)).add 11 (typedSem pi_nist_Put po_nist_Put g_nist_Put)).add 27 (typedSem pi_nist_Parse po_nist_Parse g_nist_Parse))
theorem q_law26_NistBack_m (k : Nat) (d : Unit × ((Int × (Int × (Int × (Int × (Int × (Int × (Bool × Unit))))))) × ((ByteArray × Unit) × Unit))) : evCode E_law26_NistBack (tab (L_law26_NistBack k)) c_law26_NistBack (bodyOf Try.f5) 0 (finK E_law26_NistBack po_law26_NistBack [.tmp 4]) (startSt pi_law26_NistBack 58 d) = f_law26_NistBack_m () d := by kernel_rfl
def g_law26_NistBack (d : Unit × ((Int × (Int × (Int × (Int × (Int × (Int × (Bool × Unit))))))) × ((ByteArray × Unit) × Unit))) : Option (Unit × ((Bool × Unit) × Unit)) := f_law26_NistBack_m () d
theorem ok_law26_NistBack : FnOk Try.prog ET0 5 pi_law26_NistBack po_law26_NistBack g_law26_NistBack :=
  fn_of_body (E := E_law26_NistBack) (envOk_add (envOk_add (envOk_add e0_ok (typed_ok ok_law26_alive)) (typed_ok ok_nist_Put)) (typed_ok ok_nist_Parse)) (fn := Try.f5) Try.func5 (by kernel_rfl) (by kernel_rfl) [.tmp 4] (by kernel_rfl) (by kernel_rfl) (by decide) rfl c_law26_NistBack L_law26_NistBack
    (by intro x hx; cases hx) (by intro k x hx; cases hx) (fun d out h => ⟨0, (q_law26_NistBack_m 0 d).trans h⟩)
end
end Go.Proofs.Yticfncahnhbhbaa.Ev
