/- Printed by wip/tools/evgen.py. -/
import Derived.Test.YtfdppbfefplikaaDoorEv32
import Derived.Test.YtfdppbfefplikaaDoorShelf
import Derived.Test.YtfdppbfefplikaaDoorEv19
import Derived.Test.YtfdppbfefplikaaDoorProg
import Derived.KernelRfl
set_option maxRecDepth 100000
set_option maxHeartbeats 2000000
set_option linter.unusedVariables false
namespace Go.Proofs.YtfdppbfefplikaaDoor.Ev
open Go
noncomputable section
def rows0 : List (TypeId × Row) := [
  (2, ⟨.int .i64, 1, 8, (.int .i64), [AV.val (.int .i64) (0 : Int)], none⟩),
  (3, ⟨.int .i64, 1, 8, (.int .i64), [AV.val (.int .i64) (0 : Int)], none⟩),
  (4, ⟨.bool, 1, 1, .bool, [AV.val .bool false], none⟩),
  (5, ⟨.int .u8, 1, 1, (.int .u8), [AV.val (.int .u8) (0 : Int)], none⟩),
  (9, ⟨.str, 1, 16, .str, [AV.val .str ByteArray.empty], none⟩),
  (24, ⟨.iface, 1, 16, .err, [AV.val .err (none : Option Int)], none⟩),
  (34, ⟨.int .i64, 1, 8, (.int .i64), [AV.val (.int .i64) (0 : Int)], none⟩),
  (47, ⟨.int .u64, 1, 8, (.int .u64), [AV.val (.int .u64) (0 : Int)], none⟩),
  (49, ⟨.slice 5, 1, 24, (.sl (.int .u8)), [AV.nilS], none⟩)]
def ET0 : TypeId := 34
def E0 : Env := ⟨rows0, [], ET0, 0, [], []⟩
theorem e0_ok : EnvOk Tryd.prog E0 := envOk_rows (by kernel_rfl) (by kernel_rfl) 0
/- strings.Repeat -/
@[reducible] def pi_strings_Repeat : PSh := pi_lib_repeat
@[reducible] def po_strings_Repeat : PSh := po_lib_repeat
def g_strings_Repeat := lib_repeat
theorem ok_strings_Repeat : FnOk Tryd.prog ET0 16 pi_strings_Repeat po_strings_Repeat g_strings_Repeat := lib_repeat_ok ⟨Tryd.f16, Tryd.func16, by kernel_rfl, by kernel_rfl⟩ Tryd.strings_Repeat

/- horologe/figures.Is -/
@[reducible] def pi_figures_Is : PSh := ⟨[], [.mk false [.v (.int .u8)]]⟩
@[reducible] def po_figures_Is : PSh := ⟨[], [.mk false [.v .bool]]⟩
def f_figures_Is_m (T : Unit) (d : Unit × ((Int × Unit) × Unit)) : Option (Unit × ((Bool × Unit) × Unit)) :=
  let x1 : Bool := (decide (d.2.1.1 ≥ (48 : Int)))
  bif x1 then (
  let x2 : Bool := (decide (d.2.1.1 ≤ (57 : Int)))
  some ((), ((x2, ()), ())))
  else (
  some ((), ((false, ()), ())))
def c_figures_Is : List Nat := []
def L_figures_Is (_ : Nat) : Pts po_figures_Is.den := []
def E_figures_Is : Env := E0
theorem q_figures_Is_m (k : Nat) (d : Unit × ((Int × Unit) × Unit)) : evCode E_figures_Is (tab (L_figures_Is k)) c_figures_Is (bodyOf Tryd.f54) 0 (finK E_figures_Is po_figures_Is [.tmp 2]) (startSt pi_figures_Is 9 d) = f_figures_Is_m () d := by kernel_rfl
def g_figures_Is (d : Unit × ((Int × Unit) × Unit)) : Option (Unit × ((Bool × Unit) × Unit)) := f_figures_Is_m () d
theorem ok_figures_Is : FnOk Tryd.prog ET0 54 pi_figures_Is po_figures_Is g_figures_Is :=
  fn_of_body (E := E_figures_Is) e0_ok (fn := Tryd.f54) Tryd.func54 (by kernel_rfl) (by kernel_rfl) [.tmp 2] (by kernel_rfl) (by kernel_rfl) (by decide) rfl c_figures_Is L_figures_Is
    (by intro x hx; cases hx) (by intro k x hx; cases hx) (fun d out h => ⟨0, (q_figures_Is_m 0 d).trans h⟩)

/- horologe/figures.run -/
@[reducible] def pi_figures_run : PSh := ⟨[], [.mk false [.v .str], .mk false [.v (.int .i64)]]⟩
@[reducible] def po_figures_run : PSh := ⟨[], [.mk false [.v (.int .i64)]]⟩
@[reducible] def TT_figures_run : Type := (((Unit × ((ByteArray × Unit) × ((Int × Unit) × ((Int × Unit) × Unit)))) → Option (Unit × ((Int × Unit) × Unit))) × Unit)
@[reducible] def sh_figures_run_3 : PSh := ⟨[], [.mk false [.v .str], .mk false [.v (.int .i64)], .any, .any, .any, .mk false [.v (.int .i64)], .any, .any, .any, .any, .any, .any, .any, .any, .any, .any, .any, .any, .any, .any, .any]⟩
def f_figures_run_p3 (T : TT_figures_run) (d : Unit × ((ByteArray × Unit) × ((Int × Unit) × ((Int × Unit) × Unit)))) : Option (Unit × ((Int × Unit) × Unit)) :=
  let x1 : Int := (d.2.1.1.size : Int)
  let x2 : Int := (if d.2.2.1.1 < x1 then d.2.2.1.1 else x1)
  let x3 : Bool := (decide (d.2.2.2.1.1 < x2))
  bif x3 then (
  bif decide ((0 : Int) ≤ d.2.2.2.1.1) && decide (d.2.2.2.1.1 < ((d.2.1.1.size : Int) : Int)) then (
  let x4 : Int := (bt d.2.1.1 d.2.2.2.1.1)
  (g_figures_Is ((), ((x4, ()), ()))).bind fun x5 =>
  bif x5.2.1.1 then (
  let x6 : Int := (iadd .i64 d.2.2.2.1.1 (1 : Int))
  (T.1 ((), ((d.2.1.1, ()), ((d.2.2.1.1, ()), ((x6, ()), ()))))))
  else (
  some ((), ((d.2.2.2.1.1, ()), ()))))
  else none)
  else (
  some ((), ((d.2.2.2.1.1, ()), ())))
def f_figures_run_t : Nat → TT_figures_run
  | 0 => (fun _ => none, ())
  | k + 1 => (f_figures_run_p3 (f_figures_run_t k), ())
theorem t_figures_run (k : Nat) : f_figures_run_t (k + 1) = (f_figures_run_p3 (f_figures_run_t k), ()) := rfl
def f_figures_run_m (T : TT_figures_run) (d : Unit × ((ByteArray × Unit) × ((Int × Unit) × Unit))) : Option (Unit × ((Int × Unit) × Unit)) :=
  (T.1 ((), ((d.2.1.1, ()), ((d.2.2.1.1, ()), (((0 : Int), ()), ())))))
def c_figures_run : List Nat := []
def L_figures_run (k : Nat) : Pts po_figures_run.den := [(3, ⟨sh_figures_run_3, (f_figures_run_t k).1⟩)]
def E_figures_run : Env := (E0.add 54 (typedSem pi_figures_Is po_figures_Is g_figures_Is))
theorem q_figures_run_3 (k : Nat) (d : Unit × ((ByteArray × Unit) × ((Int × Unit) × ((Int × Unit) × Unit)))) : evAt E_figures_run (tab (L_figures_run k)) c_figures_run 3 (bodyOf Tryd.f47) 0 (finK E_figures_run po_figures_run [.tmp 4]) (ptSt sh_figures_run_3 d) = f_figures_run_p3 (f_figures_run_t k) d := by kernel_rfl
theorem q_figures_run_m (k : Nat) (d : Unit × ((ByteArray × Unit) × ((Int × Unit) × Unit))) : evCode E_figures_run (tab (L_figures_run k)) c_figures_run (bodyOf Tryd.f47) 0 (finK E_figures_run po_figures_run [.tmp 4]) (startSt pi_figures_run 21 d) = f_figures_run_m (f_figures_run_t k) d := by kernel_rfl
theorem go_figures_run (G : Unit × ((ByteArray × Unit) × ((Int × Unit) × Unit)) → Option (Unit × ((Int × Unit) × Unit))) (hG : ∀ d out, G d = some out → ∃ k, f_figures_run_m (f_figures_run_t k) d = some out) : FnOk Tryd.prog ET0 47 pi_figures_run po_figures_run G :=
  fn_of_body (E := E_figures_run) (envOk_add e0_ok (typed_ok ok_figures_Is)) (fn := Tryd.f47) Tryd.func47 (by kernel_rfl) (by kernel_rfl) [.tmp 4] (by kernel_rfl) (by kernel_rfl) (by decide) rfl c_figures_run L_figures_run
    (by intro x hx d; simp only [L_figures_run, List.mem_cons, List.not_mem_nil, or_false] at hx; subst hx; rfl)
    (by intro k x hx d out h; simp only [L_figures_run, List.mem_cons, List.not_mem_nil, or_false] at hx; subst hx; exact (q_figures_run_3 k d).trans h)
    (by intro d out h; obtain ⟨k, hk⟩ := hG d out h; exact ⟨k, (q_figures_run_m k d).trans hk⟩)
def g_figures_run (d : Unit × ((ByteArray × Unit) × ((Int × Unit) × Unit))) : Option (Unit × ((Int × Unit) × Unit)) := lim fun k => f_figures_run_m (f_figures_run_t k) d
theorem ok_figures_run : FnOk Tryd.prog ET0 47 pi_figures_run po_figures_run g_figures_run := go_figures_run g_figures_run fun d out h => lim_some h

/- horologe/figures.value -/
@[reducible] def pi_figures_value : PSh := ⟨[], [.mk false [.v .str], .mk false [.v (.int .u64)]]⟩
@[reducible] def po_figures_value : PSh := ⟨[], [.mk false [.v (.int .u64)], .mk false [.v .err]]⟩
@[reducible] def TT_figures_value : Type := (((Unit × ((ByteArray × Unit) × ((Int × Unit) × ((Int × Unit) × ((Int × Unit) × ((Int × Unit) × Unit)))))) → Option (Unit × ((Int × Unit) × (((Option Int) × Unit) × Unit)))) × Unit)
@[reducible] def sh_figures_value_4 : PSh := ⟨[], [.mk false [.v .str], .mk false [.v (.int .u64)], .any, .any, .any, .any, .mk false [.v (.int .u64)], .any, .any, .any, .mk false [.v (.int .i64)], .mk false [.v (.int .i64)], .any, .any, .any, .any, .any, .any, .any, .any, .any, .any, .any, .any, .any, .any, .any, .any, .any, .any, .any, .any]⟩
def f_figures_value_p4 (T : TT_figures_value) (d : Unit × ((ByteArray × Unit) × ((Int × Unit) × ((Int × Unit) × ((Int × Unit) × ((Int × Unit) × Unit)))))) : Option (Unit × ((Int × Unit) × (((Option Int) × Unit) × Unit))) :=
  let x2 : Bool := (decide (d.2.2.2.2.2.1.1 < d.2.2.2.2.1.1))
  bif x2 then (
  bif decide ((0 : Int) ≤ d.2.2.2.2.2.1.1) && decide (d.2.2.2.2.2.1.1 < ((d.2.1.1.size : Int) : Int)) then (
  let x3 : Int := (bt d.2.1.1 d.2.2.2.2.2.1.1)
  let x4 : Int := (isub .u8 x3 (48 : Int))
  let x5 : Int := (iconv .u64 x4)
  let x6 : Int := (isub .u64 d.2.2.1.1 x5)
  let x7 : Int := (iquo .u64 x6 (10 : Int))
  let x8 : Bool := (decide (d.2.2.2.1.1 > x7))
  bif x8 then (
  let x9 : (Option Int) := (some (5 : Int))
  some ((), (((0 : Int), ()), ((x9, ()), ()))))
  else (
  let x10 : Int := (imul .u64 d.2.2.2.1.1 (10 : Int))
  let x11 : Int := (iadd .u64 x10 x5)
  let x12 : Int := (iadd .i64 d.2.2.2.2.2.1.1 (1 : Int))
  (T.1 ((), ((d.2.1.1, ()), ((d.2.2.1.1, ()), ((x11, ()), ((d.2.2.2.2.1.1, ()), ((x12, ()), ())))))))))
  else none)
  else (
  some ((), ((d.2.2.2.1.1, ()), (((none : Option Int), ()), ()))))
def f_figures_value_t : Nat → TT_figures_value
  | 0 => (fun _ => none, ())
  | k + 1 => (f_figures_value_p4 (f_figures_value_t k), ())
theorem t_figures_value (k : Nat) : f_figures_value_t (k + 1) = (f_figures_value_p4 (f_figures_value_t k), ()) := rfl
def f_figures_value_m (T : TT_figures_value) (d : Unit × ((ByteArray × Unit) × ((Int × Unit) × Unit))) : Option (Unit × ((Int × Unit) × (((Option Int) × Unit) × Unit))) :=
  let x1 : Int := (d.2.1.1.size : Int)
  (T.1 ((), ((d.2.1.1, ()), ((d.2.2.1.1, ()), (((0 : Int), ()), ((x1, ()), (((0 : Int), ()), ())))))))
def c_figures_value : List Nat := []
def L_figures_value (k : Nat) : Pts po_figures_value.den := [(4, ⟨sh_figures_value_4, (f_figures_value_t k).1⟩)]
def E_figures_value : Env := E0
theorem q_figures_value_4 (k : Nat) (d : Unit × ((ByteArray × Unit) × ((Int × Unit) × ((Int × Unit) × ((Int × Unit) × ((Int × Unit) × Unit)))))) : evAt E_figures_value (tab (L_figures_value k)) c_figures_value 4 (bodyOf Tryd.f48) 0 (finK E_figures_value po_figures_value [.tmp 4, .tmp 5]) (ptSt sh_figures_value_4 d) = f_figures_value_p4 (f_figures_value_t k) d := by kernel_rfl
theorem q_figures_value_m (k : Nat) (d : Unit × ((ByteArray × Unit) × ((Int × Unit) × Unit))) : evCode E_figures_value (tab (L_figures_value k)) c_figures_value (bodyOf Tryd.f48) 0 (finK E_figures_value po_figures_value [.tmp 4, .tmp 5]) (startSt pi_figures_value 32 d) = f_figures_value_m (f_figures_value_t k) d := by kernel_rfl
theorem go_figures_value (G : Unit × ((ByteArray × Unit) × ((Int × Unit) × Unit)) → Option (Unit × ((Int × Unit) × (((Option Int) × Unit) × Unit)))) (hG : ∀ d out, G d = some out → ∃ k, f_figures_value_m (f_figures_value_t k) d = some out) : FnOk Tryd.prog ET0 48 pi_figures_value po_figures_value G :=
  fn_of_body (E := E_figures_value) e0_ok (fn := Tryd.f48) Tryd.func48 (by kernel_rfl) (by kernel_rfl) [.tmp 4, .tmp 5] (by kernel_rfl) (by kernel_rfl) (by decide) rfl c_figures_value L_figures_value
    (by intro x hx d; simp only [L_figures_value, List.mem_cons, List.not_mem_nil, or_false] at hx; subst hx; rfl)
    (by intro k x hx d out h; simp only [L_figures_value, List.mem_cons, List.not_mem_nil, or_false] at hx; subst hx; exact (q_figures_value_4 k d).trans h)
    (by intro d out h; obtain ⟨k, hk⟩ := hG d out h; exact ⟨k, (q_figures_value_m k d).trans hk⟩)
def g_figures_value (d : Unit × ((ByteArray × Unit) × ((Int × Unit) × Unit))) : Option (Unit × ((Int × Unit) × (((Option Int) × Unit) × Unit))) := lim fun k => f_figures_value_m (f_figures_value_t k) d
theorem ok_figures_value : FnOk Tryd.prog ET0 48 pi_figures_value po_figures_value g_figures_value := go_figures_value g_figures_value fun d out h => lim_some h

/- horologe/figures.take -/
@[reducible] def pi_figures_take : PSh := ⟨[], [.mk false [.v .str], .mk false [.v (.int .i64)], .mk false [.v (.int .i64)], .mk false [.v (.int .u64)]]⟩
@[reducible] def po_figures_take : PSh := ⟨[], [.mk false [.v (.int .u64)], .mk false [.v (.int .i64)], .mk false [.v .err]]⟩
def f_figures_take_m (T : Unit) (d : Unit × ((ByteArray × Unit) × ((Int × Unit) × ((Int × Unit) × ((Int × Unit) × Unit))))) : Option (Unit × ((Int × Unit) × ((Int × Unit) × (((Option Int) × Unit) × Unit)))) :=
  let x1 : Bool := (decide (d.2.2.1.1 < (1 : Int)))
  bif x1 then (
  let x2 : (Option Int) := (some (1 : Int))
  some ((), (((0 : Int), ()), (((0 : Int), ()), ((x2, ()), ())))))
  else (
  let x3 : Bool := (decide (d.2.2.1.1 > d.2.2.2.1.1))
  bif x3 then (
  let x4 : (Option Int) := (some (1 : Int))
  some ((), (((0 : Int), ()), (((0 : Int), ()), ((x4, ()), ())))))
  else (
  let x5 : Bool := (decide (d.2.2.2.1.1 > (20 : Int)))
  bif x5 then (
  let x6 : (Option Int) := (some (1 : Int))
  some ((), (((0 : Int), ()), (((0 : Int), ()), ((x6, ()), ())))))
  else (
  (g_figures_run ((), ((d.2.1.1, ()), ((d.2.2.2.1.1, ()), ())))).bind fun x7 =>
  let x8 : Bool := (decide (x7.2.1.1 < d.2.2.1.1))
  bif x8 then (
  let x9 : (Option Int) := (some (2 : Int))
  some ((), (((0 : Int), ()), (((0 : Int), ()), ((x9, ()), ())))))
  else (
  bif decide ((0 : Int) ≤ (0 : Int)) && decide ((0 : Int) ≤ x7.2.1.1) && decide (x7.2.1.1 ≤ (d.2.1.1.size : Int)) then (
  let x10 : ByteArray := (d.2.1.1.extract (Int.toNat (0 : Int)) (Int.toNat x7.2.1.1))
  (g_figures_value ((), ((x10, ()), ((d.2.2.2.2.1.1, ()), ())))).bind fun x11 =>
  let x12 : Bool := (!x11.2.2.1.1.isNone)
  bif x12 then (
  some ((), (((0 : Int), ()), (((0 : Int), ()), ((x11.2.2.1.1, ()), ())))))
  else (
  some ((), ((x11.2.1.1, ()), ((x7.2.1.1, ()), (((none : Option Int), ()), ()))))))
  else none))))
def c_figures_take : List Nat := []
def L_figures_take (_ : Nat) : Pts po_figures_take.den := []
def E_figures_take : Env := ((E0.add 47 (typedSem pi_figures_run po_figures_run g_figures_run)).add 48 (typedSem pi_figures_value po_figures_value g_figures_value))
theorem q_figures_take_m (k : Nat) (d : Unit × ((ByteArray × Unit) × ((Int × Unit) × ((Int × Unit) × ((Int × Unit) × Unit))))) : evCode E_figures_take (tab (L_figures_take k)) c_figures_take (bodyOf Tryd.f38) 0 (finK E_figures_take po_figures_take [.tmp 8, .tmp 9, .tmp 10]) (startSt pi_figures_take 46 d) = f_figures_take_m () d := by kernel_rfl
def g_figures_take (d : Unit × ((ByteArray × Unit) × ((Int × Unit) × ((Int × Unit) × ((Int × Unit) × Unit))))) : Option (Unit × ((Int × Unit) × ((Int × Unit) × (((Option Int) × Unit) × Unit)))) := f_figures_take_m () d
theorem ok_figures_take : FnOk Tryd.prog ET0 38 pi_figures_take po_figures_take g_figures_take :=
  fn_of_body (E := E_figures_take) (envOk_add (envOk_add e0_ok (typed_ok ok_figures_run)) (typed_ok ok_figures_value)) (fn := Tryd.f38) Tryd.func38 (by kernel_rfl) (by kernel_rfl) [.tmp 8, .tmp 9, .tmp 10] (by kernel_rfl) (by kernel_rfl) (by decide) rfl c_figures_take L_figures_take
    (by intro x hx; cases hx) (by intro k x hx; cases hx) (fun d out h => ⟨0, (q_figures_take_m 0 d).trans h⟩)

/- horologe/figures.whole -/
@[reducible] def pi_figures_whole : PSh := ⟨[], [.mk false [.v .str], .mk false [.v (.int .i64)], .mk false [.v (.int .i64)], .mk false [.v (.int .u64)]]⟩
@[reducible] def po_figures_whole : PSh := ⟨[], [.mk false [.v (.int .u64)], .mk false [.v .err]]⟩
def f_figures_whole_m (T : Unit) (d : Unit × ((ByteArray × Unit) × ((Int × Unit) × ((Int × Unit) × ((Int × Unit) × Unit))))) : Option (Unit × ((Int × Unit) × (((Option Int) × Unit) × Unit))) :=
  (g_figures_take ((), ((d.2.1.1, ()), ((d.2.2.1.1, ()), ((d.2.2.2.1.1, ()), ((d.2.2.2.2.1.1, ()), ())))))).bind fun x1 =>
  let x2 : Bool := (!x1.2.2.2.1.1.isNone)
  bif x2 then (
  some ((), (((0 : Int), ()), ((x1.2.2.2.1.1, ()), ()))))
  else (
  let x3 : Int := (d.2.1.1.size : Int)
  let x4 : Bool := (decide (x1.2.2.1.1 < x3))
  bif x4 then (
  let x5 : (Option Int) := (some (2 : Int))
  some ((), (((0 : Int), ()), ((x5, ()), ()))))
  else (
  some ((), ((x1.2.1.1, ()), (((none : Option Int), ()), ())))))
def c_figures_whole : List Nat := []
def L_figures_whole (_ : Nat) : Pts po_figures_whole.den := []
def E_figures_whole : Env := (E0.add 38 (typedSem pi_figures_take po_figures_take g_figures_take))
theorem q_figures_whole_m (k : Nat) (d : Unit × ((ByteArray × Unit) × ((Int × Unit) × ((Int × Unit) × ((Int × Unit) × Unit))))) : evCode E_figures_whole (tab (L_figures_whole k)) c_figures_whole (bodyOf Tryd.f23) 0 (finK E_figures_whole po_figures_whole [.tmp 8, .tmp 9]) (startSt pi_figures_whole 33 d) = f_figures_whole_m () d := by kernel_rfl
def g_figures_whole (d : Unit × ((ByteArray × Unit) × ((Int × Unit) × ((Int × Unit) × ((Int × Unit) × Unit))))) : Option (Unit × ((Int × Unit) × (((Option Int) × Unit) × Unit))) := f_figures_whole_m () d
theorem ok_figures_whole : FnOk Tryd.prog ET0 23 pi_figures_whole po_figures_whole g_figures_whole :=
  fn_of_body (E := E_figures_whole) (envOk_add e0_ok (typed_ok ok_figures_take)) (fn := Tryd.f23) Tryd.func23 (by kernel_rfl) (by kernel_rfl) [.tmp 8, .tmp 9] (by kernel_rfl) (by kernel_rfl) (by decide) rfl c_figures_whole L_figures_whole
    (by intro x hx; cases hx) (by intro k x hx; cases hx) (fun d out h => ⟨0, (q_figures_whole_m 0 d).trans h⟩)

/- horologe/figures.Whole -/
@[reducible] def pi_figures_Whole : PSh := ⟨[], [.mk false [.v .str], .mk false [.v (.int .i64)], .mk false [.v (.int .i64)]]⟩
@[reducible] def po_figures_Whole : PSh := ⟨[], [.mk false [.v (.int .i64)], .mk false [.v .err]]⟩
def f_figures_Whole_m (T : Unit) (d : Unit × ((ByteArray × Unit) × ((Int × Unit) × ((Int × Unit) × Unit)))) : Option (Unit × ((Int × Unit) × (((Option Int) × Unit) × Unit))) :=
  (g_figures_whole ((), ((d.2.1.1, ()), ((d.2.2.1.1, ()), ((d.2.2.2.1.1, ()), (((9223372036854775807 : Int), ()), ())))))).bind fun x1 =>
  let x2 : Int := (iconv .i64 x1.2.1.1)
  some ((), ((x2, ()), ((x1.2.2.1.1, ()), ())))
def c_figures_Whole : List Nat := []
def L_figures_Whole (_ : Nat) : Pts po_figures_Whole.den := []
def E_figures_Whole : Env := (E0.add 23 (typedSem pi_figures_whole po_figures_whole g_figures_whole))
theorem q_figures_Whole_m (k : Nat) (d : Unit × ((ByteArray × Unit) × ((Int × Unit) × ((Int × Unit) × Unit)))) : evCode E_figures_Whole (tab (L_figures_Whole k)) c_figures_Whole (bodyOf Tryd.f15) 0 (finK E_figures_Whole po_figures_Whole [.tmp 6, .tmp 7]) (startSt pi_figures_Whole 20 d) = f_figures_Whole_m () d := by kernel_rfl
def g_figures_Whole (d : Unit × ((ByteArray × Unit) × ((Int × Unit) × ((Int × Unit) × Unit)))) : Option (Unit × ((Int × Unit) × (((Option Int) × Unit) × Unit))) := f_figures_Whole_m () d
theorem ok_figures_Whole : FnOk Tryd.prog ET0 15 pi_figures_Whole po_figures_Whole g_figures_Whole :=
  fn_of_body (E := E_figures_Whole) (envOk_add e0_ok (typed_ok ok_figures_whole)) (fn := Tryd.f15) Tryd.func15 (by kernel_rfl) (by kernel_rfl) [.tmp 6, .tmp 7] (by kernel_rfl) (by kernel_rfl) (by decide) rfl c_figures_Whole L_figures_Whole
    (by intro x hx; cases hx) (by intro k x hx; cases hx) (fun d out h => ⟨0, (q_figures_Whole_m 0 d).trans h⟩)

/- horologe/figures.Fraction -/
@[reducible] def pi_figures_Fraction : PSh := ⟨[], [.mk false [.v .str]]⟩
@[reducible] def po_figures_Fraction : PSh := ⟨[], [.mk false [.v (.int .i64)], .mk false [.v .err]]⟩
def f_figures_Fraction_m (T : Unit) (d : Unit × ((ByteArray × Unit) × Unit)) : Option (Unit × ((Int × Unit) × (((Option Int) × Unit) × Unit))) :=
  let x1 : Int := (d.2.1.1.size : Int)
  let x2 : Bool := (decide (x1 > (9 : Int)))
  bif x2 then (
  let x3 : (Option Int) := (some (3 : Int))
  some ((), (((0 : Int), ()), ((x3, ()), ()))))
  else (
  (g_figures_Whole ((), ((d.2.1.1, ()), (((1 : Int), ()), (((9 : Int), ()), ()))))).bind fun x4 =>
  let x5 : Bool := (!x4.2.2.1.1.isNone)
  bif x5 then (
  some ((), (((0 : Int), ()), ((x4.2.2.1.1, ()), ()))))
  else (
  let x6 : Int := (d.2.1.1.size : Int)
  let x7 : Int := (isub .i64 (9 : Int) x6)
  (g_strings_Repeat ((), (((⟨#[48]⟩ : ByteArray), ()), ((x7, ()), ())))).bind fun x8 =>
  bif decide (((d.2.1.1.size + x8.2.1.1.size : Nat) : Int) ≤ 9223372036854775807) then (
  let x9 : ByteArray := (d.2.1.1 ++ x8.2.1.1)
  (g_figures_Whole ((), ((x9, ()), (((9 : Int), ()), (((9 : Int), ()), ()))))).bind fun x10 =>
  some ((), ((x10.2.1.1, ()), ((x10.2.2.1.1, ()), ()))))
  else none))
def c_figures_Fraction : List Nat := []
def L_figures_Fraction (_ : Nat) : Pts po_figures_Fraction.den := []
def E_figures_Fraction : Env := ((E0.add 15 (typedSem pi_figures_Whole po_figures_Whole g_figures_Whole)).add 16 (typedSem pi_strings_Repeat po_strings_Repeat g_strings_Repeat))
theorem q_figures_Fraction_m (k : Nat) (d : Unit × ((ByteArray × Unit) × Unit)) : evCode E_figures_Fraction (tab (L_figures_Fraction k)) c_figures_Fraction (bodyOf Tryd.f6) 0 (finK E_figures_Fraction po_figures_Fraction [.tmp 2, .tmp 3]) (startSt pi_figures_Fraction 32 d) = f_figures_Fraction_m () d := by kernel_rfl
def g_figures_Fraction (d : Unit × ((ByteArray × Unit) × Unit)) : Option (Unit × ((Int × Unit) × (((Option Int) × Unit) × Unit))) := f_figures_Fraction_m () d
theorem ok_figures_Fraction : FnOk Tryd.prog ET0 6 pi_figures_Fraction po_figures_Fraction g_figures_Fraction :=
  fn_of_body (E := E_figures_Fraction) (envOk_add (envOk_add e0_ok (typed_ok ok_figures_Whole)) (typed_ok ok_strings_Repeat)) (fn := Tryd.f6) Tryd.func6 (by kernel_rfl) (by kernel_rfl) [.tmp 2, .tmp 3] (by kernel_rfl) (by kernel_rfl) (by decide) rfl c_figures_Fraction L_figures_Fraction
    (by intro x hx; cases hx) (by intro k x hx; cases hx) (fun d out h => ⟨0, (q_figures_Fraction_m 0 d).trans h⟩)

/- slices.Reverse[[]byte,byte] -/
@[reducible] def pi_slices_Reverse_byte_byte_io : PSh := ⟨[.row 5 (.int .u8)], [.mk false [.osl 0]]⟩
@[reducible] def po_slices_Reverse_byte_byte_io : PSh := ⟨[.row 5 (.int .u8)], [.mk false [.osl 0]]⟩
@[reducible] def TT_slices_Reverse_byte_byte_io : Type := (((((List Int) × Unit) × (Unit × ((Int × Unit) × ((Int × Unit) × Unit)))) → Option (((List Int) × Unit) × (Unit × Unit))) × Unit)
@[reducible] def sh_slices_Reverse_byte_byte_io_1 : PSh := ⟨[.row 5 (.int .u8)], [.mk false [.osl 0], .any, .mk false [.v (.int .i64)], .mk false [.v (.int .i64)], .any, .any, .any, .any, .any, .any, .any, .any, .any, .any, .any, .any, .any, .any, .any, .any, .any, .any, .any, .any, .any, .any, .any, .any]⟩
def f_slices_Reverse_byte_byte_io_p1 (T : TT_slices_Reverse_byte_byte_io) (d : ((List Int) × Unit) × (Unit × ((Int × Unit) × ((Int × Unit) × Unit)))) : Option (((List Int) × Unit) × (Unit × Unit)) :=
  let x3 : Bool := (decide (d.2.2.1.1 < d.2.2.2.1.1))
  bif x3 then (
  bif decide ((0 : Int) ≤ d.2.2.2.1.1) && decide (d.2.2.2.1.1 < (d.1.1.length : Int)) then (
  bif decide ((0 : Int) ≤ d.2.2.1.1) && decide (d.2.2.1.1 < (d.1.1.length : Int)) then (
  bif decide ((0 : Int) ≤ d.2.2.1.1) && decide (d.2.2.1.1 < (d.1.1.length : Int)) then (
  let x4 : (List Int) := (List.set d.1.1 (Int.toNat d.2.2.1.1) (gd (.int .u8) d.1.1 d.2.2.2.1.1))
  bif decide ((0 : Int) ≤ d.2.2.2.1.1) && decide (d.2.2.2.1.1 < (x4.length : Int)) then (
  let x5 : (List Int) := (List.set x4 (Int.toNat d.2.2.2.1.1) (gd (.int .u8) d.1.1 d.2.2.1.1))
  let x6 : Int := (iadd .i64 d.2.2.1.1 (1 : Int))
  let x7 : Int := (isub .i64 d.2.2.2.1.1 (1 : Int))
  (T.1 ((x5, ()), ((), ((x6, ()), ((x7, ()), ()))))))
  else none)
  else none)
  else none)
  else none)
  else (
  some ((d.1.1, ()), ((), ())))
def f_slices_Reverse_byte_byte_io_t : Nat → TT_slices_Reverse_byte_byte_io
  | 0 => (fun _ => none, ())
  | k + 1 => (f_slices_Reverse_byte_byte_io_p1 (f_slices_Reverse_byte_byte_io_t k), ())
theorem t_slices_Reverse_byte_byte_io (k : Nat) : f_slices_Reverse_byte_byte_io_t (k + 1) = (f_slices_Reverse_byte_byte_io_p1 (f_slices_Reverse_byte_byte_io_t k), ()) := rfl
def f_slices_Reverse_byte_byte_io_m (T : TT_slices_Reverse_byte_byte_io) (d : ((List Int) × Unit) × (Unit × Unit)) : Option (((List Int) × Unit) × (Unit × Unit)) :=
  let x1 : Int := (d.1.1.length : Int)
  let x2 : Int := (isub .i64 x1 (1 : Int))
  (T.1 ((d.1.1, ()), ((), (((0 : Int), ()), ((x2, ()), ())))))
def c_slices_Reverse_byte_byte_io : List Nat := []
def L_slices_Reverse_byte_byte_io (k : Nat) : Pts po_slices_Reverse_byte_byte_io.den := [(1, ⟨sh_slices_Reverse_byte_byte_io_1, (f_slices_Reverse_byte_byte_io_t k).1⟩)]
def E_slices_Reverse_byte_byte_io : Env := (E0.kp [0])
theorem q_slices_Reverse_byte_byte_io_1 (k : Nat) (d : ((List Int) × Unit) × (Unit × ((Int × Unit) × ((Int × Unit) × Unit)))) : evAt E_slices_Reverse_byte_byte_io (tab (L_slices_Reverse_byte_byte_io k)) c_slices_Reverse_byte_byte_io 1 (bodyOf Tryd.f31) 0 (finKio E_slices_Reverse_byte_byte_io po_slices_Reverse_byte_byte_io [] [(0, none)]) (ptSt sh_slices_Reverse_byte_byte_io_1 d) = f_slices_Reverse_byte_byte_io_p1 (f_slices_Reverse_byte_byte_io_t k) d := by kernel_rfl
theorem q_slices_Reverse_byte_byte_io_m (k : Nat) (d : ((List Int) × Unit) × (Unit × Unit)) : evCode E_slices_Reverse_byte_byte_io (tab (L_slices_Reverse_byte_byte_io k)) c_slices_Reverse_byte_byte_io (bodyOf Tryd.f31) 0 (finKio E_slices_Reverse_byte_byte_io po_slices_Reverse_byte_byte_io [] [(0, none)]) (startSt pi_slices_Reverse_byte_byte_io 28 d) = f_slices_Reverse_byte_byte_io_m (f_slices_Reverse_byte_byte_io_t k) d := by kernel_rfl
theorem go_slices_Reverse_byte_byte_io (G : ((List Int) × Unit) × (Unit × Unit) → Option (((List Int) × Unit) × (Unit × Unit))) (hG : ∀ d out, G d = some out → ∃ k, f_slices_Reverse_byte_byte_io_m (f_slices_Reverse_byte_byte_io_t k) d = some out) : FnIo Tryd.prog ET0 31 pi_slices_Reverse_byte_byte_io po_slices_Reverse_byte_byte_io 0 [(0, 0, none)] G :=
  fn_of_bodyIo (E := E_slices_Reverse_byte_byte_io) (envOk_kp e0_ok) (fn := Tryd.f31) Tryd.func31 (by kernel_rfl) (by kernel_rfl) [] [(0, none)] [(0, 0, none)] (by kernel_rfl) (by kernel_rfl) (by kernel_rfl) (by kernel_rfl) (by decide) (by decide) c_slices_Reverse_byte_byte_io L_slices_Reverse_byte_byte_io
    (by intro x hx d; simp only [L_slices_Reverse_byte_byte_io, List.mem_cons, List.not_mem_nil, or_false] at hx; subst hx; rfl)
    (by intro k x hx d out h; simp only [L_slices_Reverse_byte_byte_io, List.mem_cons, List.not_mem_nil, or_false] at hx; subst hx; exact (q_slices_Reverse_byte_byte_io_1 k d).trans h)
    (by intro d out h; obtain ⟨k, hk⟩ := hG d out h; exact ⟨k, (q_slices_Reverse_byte_byte_io_m k d).trans hk⟩)
def g_slices_Reverse_byte_byte_io (d : ((List Int) × Unit) × (Unit × Unit)) : Option (((List Int) × Unit) × (Unit × Unit)) := lim fun k => f_slices_Reverse_byte_byte_io_m (f_slices_Reverse_byte_byte_io_t k) d
theorem ok_slices_Reverse_byte_byte_io : FnIo Tryd.prog ET0 31 pi_slices_Reverse_byte_byte_io po_slices_Reverse_byte_byte_io 0 [(0, 0, none)] g_slices_Reverse_byte_byte_io := go_slices_Reverse_byte_byte_io g_slices_Reverse_byte_byte_io fun d out h => lim_some h

/- horologe/figures.raw -/
@[reducible] def pi_figures_raw : PSh := ⟨[], [.mk false [.v (.int .u64)], .mk false [.v (.int .i64)]]⟩
@[reducible] def po_figures_raw : PSh := ⟨[], [.mk false [.v .str]]⟩
@[reducible] def TT_figures_raw : Type := (((((List Int) × Unit) × ((Int × Unit) × ((Int × Unit) × (Unit × Unit)))) → Option (Unit × ((ByteArray × Unit) × Unit))) × Unit)
@[reducible] def sh_figures_raw_3 : PSh := ⟨[.row 5 (.int .u8)], [.mk false [.v (.int .u64)], .mk false [.v (.int .i64)], .any, .any, .any, .mk false [.osl 0], .any, .any, .any, .any, .any, .any, .any, .any, .any, .any, .any, .any, .any, .any, .any, .any, .any, .any, .any, .any, .any, .any]⟩
def f_figures_raw_p3 (T : TT_figures_raw) (d : ((List Int) × Unit) × ((Int × Unit) × ((Int × Unit) × (Unit × Unit)))) : Option (Unit × ((ByteArray × Unit) × Unit)) :=
  let x1 : Bool := (decide (d.2.1.1 > (0 : Int)))
  bif x1 then (
  let x2 : Int := (Int.tmod d.2.1.1 (10 : Int))
  let x3 : Int := (iconv .u8 x2)
  let x4 : Int := (iadd .u8 (48 : Int) x3)
  let x5 : (List Int) := ([x4] : List Int)
  bif decide (((d.1.1.length + x5.length) * 1 : Nat) ≤ 140737488355328) && decide (d.1.1.length + x5.length ≤ 9223372036854775807) then (
  let x6 : (List Int) := (d.1.1 ++ x5)
  let x7 : Int := (iquo .u64 d.2.1.1 (10 : Int))
  (T.1 ((x6, ()), ((x7, ()), ((d.2.2.1.1, ()), ((), ()))))))
  else none)
  else (
  let x8 : Int := (d.1.1.length : Int)
  let x9 : Int := (if (1 : Int) > d.2.2.1.1 then (1 : Int) else d.2.2.1.1)
  let x10 : Bool := (decide (x8 < x9))
  bif x10 then (
  let x11 : Int := (Int.tmod d.2.1.1 (10 : Int))
  let x12 : Int := (iconv .u8 x11)
  let x13 : Int := (iadd .u8 (48 : Int) x12)
  let x14 : (List Int) := ([x13] : List Int)
  bif decide (((d.1.1.length + x14.length) * 1 : Nat) ≤ 140737488355328) && decide (d.1.1.length + x14.length ≤ 9223372036854775807) then (
  let x15 : (List Int) := (d.1.1 ++ x14)
  let x16 : Int := (iquo .u64 d.2.1.1 (10 : Int))
  (T.1 ((x15, ()), ((x16, ()), ((d.2.2.1.1, ()), ((), ()))))))
  else none)
  else (
  (g_slices_Reverse_byte_byte_io ((d.1.1, ()), ((), ()))).bind fun x17 =>
  let x18 : ByteArray := (strOf x17.1.1)
  some ((), ((x18, ()), ()))))
def f_figures_raw_t : Nat → TT_figures_raw
  | 0 => (fun _ => none, ())
  | k + 1 => (f_figures_raw_p3 (f_figures_raw_t k), ())
theorem t_figures_raw (k : Nat) : f_figures_raw_t (k + 1) = (f_figures_raw_p3 (f_figures_raw_t k), ()) := rfl
def f_figures_raw_m (T : TT_figures_raw) (d : Unit × ((Int × Unit) × ((Int × Unit) × Unit))) : Option (Unit × ((ByteArray × Unit) × Unit)) :=
  (T.1 ((([] : List Int), ()), ((d.2.1.1, ()), ((d.2.2.1.1, ()), ((), ())))))
def c_figures_raw : List Nat := []
def L_figures_raw (k : Nat) : Pts po_figures_raw.den := [(3, ⟨sh_figures_raw_3, (f_figures_raw_t k).1⟩)]
def E_figures_raw : Env := (E0.add 31 (ioSem pi_slices_Reverse_byte_byte_io po_slices_Reverse_byte_byte_io 0 [(0, 0, none)] g_slices_Reverse_byte_byte_io))
theorem q_figures_raw_3 (k : Nat) (d : ((List Int) × Unit) × ((Int × Unit) × ((Int × Unit) × (Unit × Unit)))) : evAt E_figures_raw (tab (L_figures_raw k)) c_figures_raw 3 (bodyOf Tryd.f19) 0 (finK E_figures_raw po_figures_raw [.tmp 4]) (ptSt sh_figures_raw_3 d) = f_figures_raw_p3 (f_figures_raw_t k) d := by kernel_rfl
theorem q_figures_raw_m (k : Nat) (d : Unit × ((Int × Unit) × ((Int × Unit) × Unit))) : evCode E_figures_raw (tab (L_figures_raw k)) c_figures_raw (bodyOf Tryd.f19) 0 (finK E_figures_raw po_figures_raw [.tmp 4]) (startSt pi_figures_raw 28 d) = f_figures_raw_m (f_figures_raw_t k) d := by kernel_rfl
theorem go_figures_raw (G : Unit × ((Int × Unit) × ((Int × Unit) × Unit)) → Option (Unit × ((ByteArray × Unit) × Unit))) (hG : ∀ d out, G d = some out → ∃ k, f_figures_raw_m (f_figures_raw_t k) d = some out) : FnOk Tryd.prog ET0 19 pi_figures_raw po_figures_raw G :=
  fn_of_body (E := E_figures_raw) (envOk_add e0_ok (io_ok ok_slices_Reverse_byte_byte_io)) (fn := Tryd.f19) Tryd.func19 (by kernel_rfl) (by kernel_rfl) [.tmp 4] (by kernel_rfl) (by kernel_rfl) (by decide) rfl c_figures_raw L_figures_raw
    (by intro x hx d; simp only [L_figures_raw, List.mem_cons, List.not_mem_nil, or_false] at hx; subst hx; rfl)
    (by intro k x hx d out h; simp only [L_figures_raw, List.mem_cons, List.not_mem_nil, or_false] at hx; subst hx; exact (q_figures_raw_3 k d).trans h)
    (by intro d out h; obtain ⟨k, hk⟩ := hG d out h; exact ⟨k, (q_figures_raw_m k d).trans hk⟩)
def g_figures_raw (d : Unit × ((Int × Unit) × ((Int × Unit) × Unit))) : Option (Unit × ((ByteArray × Unit) × Unit)) := lim fun k => f_figures_raw_m (f_figures_raw_t k) d
theorem ok_figures_raw : FnOk Tryd.prog ET0 19 pi_figures_raw po_figures_raw g_figures_raw := go_figures_raw g_figures_raw fun d out h => lim_some h

/- horologe/figures.Put -/
@[reducible] def pi_figures_Put : PSh := ⟨[], [.mk false [.v (.int .i64)], .mk false [.v (.int .i64)]]⟩
@[reducible] def po_figures_Put : PSh := ⟨[], [.mk false [.v .str], .mk false [.v .err]]⟩
def f_figures_Put_m (T : Unit) (d : Unit × ((Int × Unit) × ((Int × Unit) × Unit))) : Option (Unit × ((ByteArray × Unit) × (((Option Int) × Unit) × Unit))) :=
  let x1 : Bool := (decide (d.2.2.1.1 < (0 : Int)))
  bif x1 then (
  let x2 : (Option Int) := (some (1 : Int))
  some ((), (((⟨#[]⟩ : ByteArray), ()), ((x2, ()), ()))))
  else (
  let x3 : Bool := (decide (d.2.2.1.1 > (20 : Int)))
  bif x3 then (
  let x4 : (Option Int) := (some (1 : Int))
  some ((), (((⟨#[]⟩ : ByteArray), ()), ((x4, ()), ()))))
  else (
  let x5 : Bool := (decide (d.2.1.1 < (0 : Int)))
  bif x5 then (
  let x6 : Int := (iconv .u64 d.2.1.1)
  let x7 : Int := (ineg .u64 x6)
  (g_figures_raw ((), ((x7, ()), ((d.2.2.1.1, ()), ())))).bind fun x8 =>
  bif decide ((((⟨#[45]⟩ : ByteArray).size + x8.2.1.1.size : Nat) : Int) ≤ 9223372036854775807) then (
  let x9 : ByteArray := ((⟨#[45]⟩ : ByteArray) ++ x8.2.1.1)
  some ((), ((x9, ()), (((none : Option Int), ()), ()))))
  else none)
  else (
  let x10 : Int := (iconv .u64 d.2.1.1)
  (g_figures_raw ((), ((x10, ()), ((d.2.2.1.1, ()), ())))).bind fun x11 =>
  some ((), ((x11.2.1.1, ()), (((none : Option Int), ()), ()))))))
def c_figures_Put : List Nat := []
def L_figures_Put (_ : Nat) : Pts po_figures_Put.den := []
def E_figures_Put : Env := (E0.add 19 (typedSem pi_figures_raw po_figures_raw g_figures_raw))
theorem q_figures_Put_m (k : Nat) (d : Unit × ((Int × Unit) × ((Int × Unit) × Unit))) : evCode E_figures_Put (tab (L_figures_Put k)) c_figures_Put (bodyOf Tryd.f13) 0 (finK E_figures_Put po_figures_Put [.tmp 4, .tmp 5]) (startSt pi_figures_Put 27 d) = f_figures_Put_m () d := by kernel_rfl
def g_figures_Put (d : Unit × ((Int × Unit) × ((Int × Unit) × Unit))) : Option (Unit × ((ByteArray × Unit) × (((Option Int) × Unit) × Unit))) := f_figures_Put_m () d
theorem ok_figures_Put : FnOk Tryd.prog ET0 13 pi_figures_Put po_figures_Put g_figures_Put :=
  fn_of_body (E := E_figures_Put) (envOk_add e0_ok (typed_ok ok_figures_raw)) (fn := Tryd.f13) Tryd.func13 (by kernel_rfl) (by kernel_rfl) [.tmp 4, .tmp 5] (by kernel_rfl) (by kernel_rfl) (by decide) rfl c_figures_Put L_figures_Put
    (by intro x hx; cases hx) (by intro k x hx; cases hx) (fun d out h => ⟨0, (q_figures_Put_m 0 d).trans h⟩)

/- horologe/horologelaw02.alive -/
@[reducible] def pi_law02_alive : PSh := ⟨[], []⟩
@[reducible] def po_law02_alive : PSh := ⟨[], [.mk false [.v .bool]]⟩
def f_law02_alive_m (T : Unit) (d : Unit × Unit) : Option (Unit × ((Bool × Unit) × Unit)) :=
  (g_figures_Put ((), (((7 : Int), ()), (((2 : Int), ()), ())))).bind fun x1 =>
  (g_figures_Fraction ((), (((⟨#[48, 53]⟩ : ByteArray), ()), ()))).bind fun x2 =>
  bif x1.2.2.1.1.isNone then (
  bif x2.2.2.1.1.isNone then (
  let x3 : Bool := (x1.2.1.1.toList == (⟨#[48, 55]⟩ : ByteArray).toList)
  bif x3 then (
  let x4 : Bool := (x2.2.1.1 == (50000000 : Int))
  some ((), ((x4, ()), ())))
  else (
  some ((), ((false, ()), ()))))
  else (
  some ((), ((false, ()), ()))))
  else (
  some ((), ((false, ()), ())))
def c_law02_alive : List Nat := []
def L_law02_alive (_ : Nat) : Pts po_law02_alive.den := []
def E_law02_alive : Env := ((E0.add 6 (typedSem pi_figures_Fraction po_figures_Fraction g_figures_Fraction)).add 13 (typedSem pi_figures_Put po_figures_Put g_figures_Put))
theorem q_law02_alive_m (k : Nat) (d : Unit × Unit) : evCode E_law02_alive (tab (L_law02_alive k)) c_law02_alive (bodyOf Tryd.f5) 0 (finK E_law02_alive po_law02_alive [.tmp 0]) (startSt pi_law02_alive 27 d) = f_law02_alive_m () d := by kernel_rfl
def g_law02_alive (d : Unit × Unit) : Option (Unit × ((Bool × Unit) × Unit)) := f_law02_alive_m () d
theorem ok_law02_alive : FnOk Tryd.prog ET0 5 pi_law02_alive po_law02_alive g_law02_alive :=
  fn_of_body (E := E_law02_alive) (envOk_add (envOk_add e0_ok (typed_ok ok_figures_Fraction)) (typed_ok ok_figures_Put)) (fn := Tryd.f5) Tryd.func5 (by kernel_rfl) (by kernel_rfl) [.tmp 0] (by kernel_rfl) (by kernel_rfl) (by decide) rfl c_law02_alive L_law02_alive
    (by intro x hx; cases hx) (by intro k x hx; cases hx) (fun d out h => ⟨0, (q_law02_alive_m 0 d).trans h⟩)

/- horologe/horologeref02.Is -/
@[reducible] def pi_ref02_Is : PSh := ⟨[], [.mk false [.v (.int .u8)]]⟩
@[reducible] def po_ref02_Is : PSh := ⟨[], [.mk false [.v .bool]]⟩
@[reducible] def TT_ref02_Is : Type := (((Unit × ((Int × Unit) × ((Int × Unit) × Unit))) → Option (Unit × ((Bool × Unit) × Unit))) × Unit)
@[reducible] def sh_ref02_Is_3 : PSh := ⟨[], [.mk false [.v (.int .u8)], .any, .any, .mk false [.v (.int .u8)], .any, .any, .any, .any, .any, .any, .any]⟩
def f_ref02_Is_p3 (T : TT_ref02_Is) (d : Unit × ((Int × Unit) × ((Int × Unit) × Unit))) : Option (Unit × ((Bool × Unit) × Unit)) :=
  let x1 : Bool := (decide (d.2.2.1.1 ≤ (57 : Int)))
  bif x1 then (
  let x2 : Bool := (d.2.1.1 == d.2.2.1.1)
  bif x2 then (
  some ((), ((true, ()), ())))
  else (
  let x3 : Int := (iadd .u8 d.2.2.1.1 (1 : Int))
  (T.1 ((), ((d.2.1.1, ()), ((x3, ()), ()))))))
  else (
  some ((), ((false, ()), ())))
def f_ref02_Is_t : Nat → TT_ref02_Is
  | 0 => (fun _ => none, ())
  | k + 1 => (f_ref02_Is_p3 (f_ref02_Is_t k), ())
theorem t_ref02_Is (k : Nat) : f_ref02_Is_t (k + 1) = (f_ref02_Is_p3 (f_ref02_Is_t k), ()) := rfl
def f_ref02_Is_m (T : TT_ref02_Is) (d : Unit × ((Int × Unit) × Unit)) : Option (Unit × ((Bool × Unit) × Unit)) :=
  (T.1 ((), ((d.2.1.1, ()), (((48 : Int), ()), ()))))
def c_ref02_Is : List Nat := []
def L_ref02_Is (k : Nat) : Pts po_ref02_Is.den := [(3, ⟨sh_ref02_Is_3, (f_ref02_Is_t k).1⟩)]
def E_ref02_Is : Env := E0
theorem q_ref02_Is_3 (k : Nat) (d : Unit × ((Int × Unit) × ((Int × Unit) × Unit))) : evAt E_ref02_Is (tab (L_ref02_Is k)) c_ref02_Is 3 (bodyOf Tryd.f30) 0 (finK E_ref02_Is po_ref02_Is [.tmp 2]) (ptSt sh_ref02_Is_3 d) = f_ref02_Is_p3 (f_ref02_Is_t k) d := by kernel_rfl
theorem q_ref02_Is_m (k : Nat) (d : Unit × ((Int × Unit) × Unit)) : evCode E_ref02_Is (tab (L_ref02_Is k)) c_ref02_Is (bodyOf Tryd.f30) 0 (finK E_ref02_Is po_ref02_Is [.tmp 2]) (startSt pi_ref02_Is 11 d) = f_ref02_Is_m (f_ref02_Is_t k) d := by kernel_rfl
theorem go_ref02_Is (G : Unit × ((Int × Unit) × Unit) → Option (Unit × ((Bool × Unit) × Unit))) (hG : ∀ d out, G d = some out → ∃ k, f_ref02_Is_m (f_ref02_Is_t k) d = some out) : FnOk Tryd.prog ET0 30 pi_ref02_Is po_ref02_Is G :=
  fn_of_body (E := E_ref02_Is) e0_ok (fn := Tryd.f30) Tryd.func30 (by kernel_rfl) (by kernel_rfl) [.tmp 2] (by kernel_rfl) (by kernel_rfl) (by decide) rfl c_ref02_Is L_ref02_Is
    (by intro x hx d; simp only [L_ref02_Is, List.mem_cons, List.not_mem_nil, or_false] at hx; subst hx; rfl)
    (by intro k x hx d out h; simp only [L_ref02_Is, List.mem_cons, List.not_mem_nil, or_false] at hx; subst hx; exact (q_ref02_Is_3 k d).trans h)
    (by intro d out h; obtain ⟨k, hk⟩ := hG d out h; exact ⟨k, (q_ref02_Is_m k d).trans hk⟩)
def g_ref02_Is (d : Unit × ((Int × Unit) × Unit)) : Option (Unit × ((Bool × Unit) × Unit)) := lim fun k => f_ref02_Is_m (f_ref02_Is_t k) d
theorem ok_ref02_Is : FnOk Tryd.prog ET0 30 pi_ref02_Is po_ref02_Is g_ref02_Is := go_ref02_Is g_ref02_Is fun d out h => lim_some h

/- horologe/horologeref02.Many -/
@[reducible] def pi_ref02_Many : PSh := ⟨[], [.mk false [.v .str]]⟩
@[reducible] def po_ref02_Many : PSh := ⟨[], [.mk false [.v (.int .i64)]]⟩
@[reducible] def TT_ref02_Many : Type := (((Unit × ((ByteArray × Unit) × ((Int × Unit) × Unit))) → Option (Unit × ((Int × Unit) × Unit))) × Unit)
@[reducible] def sh_ref02_Many_3 : PSh := ⟨[], [.mk false [.v .str], .any, .any, .mk false [.v (.int .i64)], .any, .any, .any, .any, .any, .any, .any, .any, .any, .any, .any, .any, .any, .any]⟩
def f_ref02_Many_p3 (T : TT_ref02_Many) (d : Unit × ((ByteArray × Unit) × ((Int × Unit) × Unit))) : Option (Unit × ((Int × Unit) × Unit)) :=
  let x1 : Int := (d.2.1.1.size : Int)
  let x2 : Bool := (decide (d.2.2.1.1 < x1))
  bif x2 then (
  bif decide ((0 : Int) ≤ d.2.2.1.1) && decide (d.2.2.1.1 < ((d.2.1.1.size : Int) : Int)) then (
  let x3 : Int := (bt d.2.1.1 d.2.2.1.1)
  (g_ref02_Is ((), ((x3, ()), ()))).bind fun x4 =>
  let x5 : Bool := (!x4.2.1.1)
  bif x5 then (
  some ((), ((d.2.2.1.1, ()), ())))
  else (
  let x6 : Int := (iadd .i64 d.2.2.1.1 (1 : Int))
  (T.1 ((), ((d.2.1.1, ()), ((x6, ()), ()))))))
  else none)
  else (
  let x7 : Int := (d.2.1.1.size : Int)
  some ((), ((x7, ()), ())))
def f_ref02_Many_t : Nat → TT_ref02_Many
  | 0 => (fun _ => none, ())
  | k + 1 => (f_ref02_Many_p3 (f_ref02_Many_t k), ())
theorem t_ref02_Many (k : Nat) : f_ref02_Many_t (k + 1) = (f_ref02_Many_p3 (f_ref02_Many_t k), ()) := rfl
def f_ref02_Many_m (T : TT_ref02_Many) (d : Unit × ((ByteArray × Unit) × Unit)) : Option (Unit × ((Int × Unit) × Unit)) :=
  (T.1 ((), ((d.2.1.1, ()), (((0 : Int), ()), ()))))
def c_ref02_Many : List Nat := []
def L_ref02_Many (k : Nat) : Pts po_ref02_Many.den := [(3, ⟨sh_ref02_Many_3, (f_ref02_Many_t k).1⟩)]
def E_ref02_Many : Env := (E0.add 30 (typedSem pi_ref02_Is po_ref02_Is g_ref02_Is))
theorem q_ref02_Many_3 (k : Nat) (d : Unit × ((ByteArray × Unit) × ((Int × Unit) × Unit))) : evAt E_ref02_Many (tab (L_ref02_Many k)) c_ref02_Many 3 (bodyOf Tryd.f17) 0 (finK E_ref02_Many po_ref02_Many [.tmp 2]) (ptSt sh_ref02_Many_3 d) = f_ref02_Many_p3 (f_ref02_Many_t k) d := by kernel_rfl
theorem q_ref02_Many_m (k : Nat) (d : Unit × ((ByteArray × Unit) × Unit)) : evCode E_ref02_Many (tab (L_ref02_Many k)) c_ref02_Many (bodyOf Tryd.f17) 0 (finK E_ref02_Many po_ref02_Many [.tmp 2]) (startSt pi_ref02_Many 18 d) = f_ref02_Many_m (f_ref02_Many_t k) d := by kernel_rfl
theorem go_ref02_Many (G : Unit × ((ByteArray × Unit) × Unit) → Option (Unit × ((Int × Unit) × Unit))) (hG : ∀ d out, G d = some out → ∃ k, f_ref02_Many_m (f_ref02_Many_t k) d = some out) : FnOk Tryd.prog ET0 17 pi_ref02_Many po_ref02_Many G :=
  fn_of_body (E := E_ref02_Many) (envOk_add e0_ok (typed_ok ok_ref02_Is)) (fn := Tryd.f17) Tryd.func17 (by kernel_rfl) (by kernel_rfl) [.tmp 2] (by kernel_rfl) (by kernel_rfl) (by decide) rfl c_ref02_Many L_ref02_Many
    (by intro x hx d; simp only [L_ref02_Many, List.mem_cons, List.not_mem_nil, or_false] at hx; subst hx; rfl)
    (by intro k x hx d out h; simp only [L_ref02_Many, List.mem_cons, List.not_mem_nil, or_false] at hx; subst hx; exact (q_ref02_Many_3 k d).trans h)
    (by intro d out h; obtain ⟨k, hk⟩ := hG d out h; exact ⟨k, (q_ref02_Many_m k d).trans hk⟩)
def g_ref02_Many (d : Unit × ((ByteArray × Unit) × Unit)) : Option (Unit × ((Int × Unit) × Unit)) := lim fun k => f_ref02_Many_m (f_ref02_Many_t k) d
theorem ok_ref02_Many : FnOk Tryd.prog ET0 17 pi_ref02_Many po_ref02_Many g_ref02_Many := go_ref02_Many g_ref02_Many fun d out h => lim_some h

/- horologe/horologeref02.Fraction -/
@[reducible] def pi_ref02_Fraction : PSh := ⟨[], [.mk false [.v .str]]⟩
@[reducible] def po_ref02_Fraction : PSh := ⟨[], [.mk false [.v (.int .i64)], .mk false [.v (.int .i64)]]⟩
@[reducible] def TT_ref02_Fraction : Type := (((Unit × ((ByteArray × Unit) × ((Int × Unit) × ((Int × Unit) × ((Int × Unit) × Unit))))) → Option (Unit × ((Int × Unit) × ((Int × Unit) × Unit)))) × Unit)
@[reducible] def sh_ref02_Fraction_10 : PSh := ⟨[], [.mk false [.v .str], .any, .any, .any, .mk false [.v (.int .i64)], .mk false [.v (.int .i64)], .mk false [.v (.int .i64)], .any, .any, .any, .any, .any, .any, .any, .any, .any, .any, .any, .any, .any, .any, .any, .any, .any, .any, .any, .any, .any, .any, .any, .any, .any, .any, .any, .any, .any, .any, .any]⟩
def f_ref02_Fraction_p10 (T : TT_ref02_Fraction) (d : Unit × ((ByteArray × Unit) × ((Int × Unit) × ((Int × Unit) × ((Int × Unit) × Unit))))) : Option (Unit × ((Int × Unit) × ((Int × Unit) × Unit))) :=
  let x8 : Int := (d.2.1.1.size : Int)
  let x9 : Bool := (decide (d.2.2.2.2.1.1 < x8))
  bif x9 then (
  bif decide ((0 : Int) ≤ d.2.2.2.2.1.1) && decide (d.2.2.2.2.1.1 < ((d.2.1.1.size : Int) : Int)) then (
  let x10 : Int := (bt d.2.1.1 d.2.2.2.2.1.1)
  let x11 : Int := (isub .u8 x10 (48 : Int))
  let x12 : Int := (iconv .i64 x11)
  let x13 : Int := (imul .i64 d.2.2.2.1.1 x12)
  let x14 : Int := (iadd .i64 d.2.2.1.1 x13)
  let x15 : Int := (iquo .i64 d.2.2.2.1.1 (10 : Int))
  let x16 : Int := (iadd .i64 d.2.2.2.2.1.1 (1 : Int))
  (T.1 ((), ((d.2.1.1, ()), ((x14, ()), ((x15, ()), ((x16, ()), ())))))))
  else none)
  else (
  some ((), ((d.2.2.1.1, ()), (((0 : Int), ()), ()))))
def f_ref02_Fraction_t : Nat → TT_ref02_Fraction
  | 0 => (fun _ => none, ())
  | k + 1 => (f_ref02_Fraction_p10 (f_ref02_Fraction_t k), ())
theorem t_ref02_Fraction (k : Nat) : f_ref02_Fraction_t (k + 1) = (f_ref02_Fraction_p10 (f_ref02_Fraction_t k), ()) := rfl
def f_ref02_Fraction_m (T : TT_ref02_Fraction) (d : Unit × ((ByteArray × Unit) × Unit)) : Option (Unit × ((Int × Unit) × ((Int × Unit) × Unit))) :=
  let x1 : Int := (d.2.1.1.size : Int)
  let x2 : Bool := (decide (x1 > (9 : Int)))
  bif x2 then (
  some ((), (((0 : Int), ()), (((3 : Int), ()), ()))))
  else (
  let x3 : Int := (d.2.1.1.size : Int)
  let x4 : Bool := (x3 == (0 : Int))
  bif x4 then (
  some ((), (((0 : Int), ()), (((2 : Int), ()), ()))))
  else (
  (g_ref02_Many ((), ((d.2.1.1, ()), ()))).bind fun x5 =>
  let x6 : Int := (d.2.1.1.size : Int)
  let x7 : Bool := (decide (x5.2.1.1 < x6))
  bif x7 then (
  some ((), (((0 : Int), ()), (((2 : Int), ()), ()))))
  else (
  (T.1 ((), ((d.2.1.1, ()), (((0 : Int), ()), (((100000000 : Int), ()), (((0 : Int), ()), ())))))))))
def c_ref02_Fraction : List Nat := []
def L_ref02_Fraction (k : Nat) : Pts po_ref02_Fraction.den := [(10, ⟨sh_ref02_Fraction_10, (f_ref02_Fraction_t k).1⟩)]
def E_ref02_Fraction : Env := (E0.add 17 (typedSem pi_ref02_Many po_ref02_Many g_ref02_Many))
theorem q_ref02_Fraction_10 (k : Nat) (d : Unit × ((ByteArray × Unit) × ((Int × Unit) × ((Int × Unit) × ((Int × Unit) × Unit))))) : evAt E_ref02_Fraction (tab (L_ref02_Fraction k)) c_ref02_Fraction 10 (bodyOf Tryd.f7) 0 (finK E_ref02_Fraction po_ref02_Fraction [.tmp 2, .tmp 3]) (ptSt sh_ref02_Fraction_10 d) = f_ref02_Fraction_p10 (f_ref02_Fraction_t k) d := by kernel_rfl
theorem q_ref02_Fraction_m (k : Nat) (d : Unit × ((ByteArray × Unit) × Unit)) : evCode E_ref02_Fraction (tab (L_ref02_Fraction k)) c_ref02_Fraction (bodyOf Tryd.f7) 0 (finK E_ref02_Fraction po_ref02_Fraction [.tmp 2, .tmp 3]) (startSt pi_ref02_Fraction 38 d) = f_ref02_Fraction_m (f_ref02_Fraction_t k) d := by kernel_rfl
theorem go_ref02_Fraction (G : Unit × ((ByteArray × Unit) × Unit) → Option (Unit × ((Int × Unit) × ((Int × Unit) × Unit)))) (hG : ∀ d out, G d = some out → ∃ k, f_ref02_Fraction_m (f_ref02_Fraction_t k) d = some out) : FnOk Tryd.prog ET0 7 pi_ref02_Fraction po_ref02_Fraction G :=
  fn_of_body (E := E_ref02_Fraction) (envOk_add e0_ok (typed_ok ok_ref02_Many)) (fn := Tryd.f7) Tryd.func7 (by kernel_rfl) (by kernel_rfl) [.tmp 2, .tmp 3] (by kernel_rfl) (by kernel_rfl) (by decide) rfl c_ref02_Fraction L_ref02_Fraction
    (by intro x hx d; simp only [L_ref02_Fraction, List.mem_cons, List.not_mem_nil, or_false] at hx; subst hx; rfl)
    (by intro k x hx d out h; simp only [L_ref02_Fraction, List.mem_cons, List.not_mem_nil, or_false] at hx; subst hx; exact (q_ref02_Fraction_10 k d).trans h)
    (by intro d out h; obtain ⟨k, hk⟩ := hG d out h; exact ⟨k, (q_ref02_Fraction_m k d).trans hk⟩)
def g_ref02_Fraction (d : Unit × ((ByteArray × Unit) × Unit)) : Option (Unit × ((Int × Unit) × ((Int × Unit) × Unit))) := lim fun k => f_ref02_Fraction_m (f_ref02_Fraction_t k) d
theorem ok_ref02_Fraction : FnOk Tryd.prog ET0 7 pi_ref02_Fraction po_ref02_Fraction g_ref02_Fraction := go_ref02_Fraction g_ref02_Fraction fun d out h => lim_some h

/- horologe/horologenum.Num -/
@[reducible] def pi_hnum_Num : PSh := ⟨[], [.mk false [.v .err]]⟩
@[reducible] def po_hnum_Num : PSh := ⟨[], [.mk false [.v (.int .i64)]]⟩
def f_hnum_Num_m (T : Unit) (d : Unit × (((Option Int) × Unit) × Unit)) : Option (Unit × ((Int × Unit) × Unit)) :=
  bif d.2.1.1.isNone then (
  some ((), (((0 : Int), ()), ())))
  else (
  bif d.2.1.1.isSome then (
  let x1 : Bool := ((d.2.1.1.getD 0) != (0 : Int))
  bif x1 then (
  some ((), (((d.2.1.1.getD 0), ()), ())))
  else (
  some ((), (((-1 : Int), ()), ()))))
  else (
  some ((), (((-1 : Int), ()), ()))))
def c_hnum_Num : List Nat := []
def L_hnum_Num (_ : Nat) : Pts po_hnum_Num.den := []
def E_hnum_Num : Env := E0
theorem q_hnum_Num_m (k : Nat) (d : Unit × (((Option Int) × Unit) × Unit)) : evCode E_hnum_Num (tab (L_hnum_Num k)) c_hnum_Num (bodyOf Tryd.f8) 0 (finK E_hnum_Num po_hnum_Num [.tmp 2]) (startSt pi_hnum_Num 18 d) = f_hnum_Num_m () d := by kernel_rfl
def g_hnum_Num (d : Unit × (((Option Int) × Unit) × Unit)) : Option (Unit × ((Int × Unit) × Unit)) := f_hnum_Num_m () d
theorem ok_hnum_Num : FnOk Tryd.prog ET0 8 pi_hnum_Num po_hnum_Num g_hnum_Num :=
  fn_of_body (E := E_hnum_Num) e0_ok (fn := Tryd.f8) Tryd.func8 (by kernel_rfl) (by kernel_rfl) [.tmp 2] (by kernel_rfl) (by kernel_rfl) (by decide) rfl c_hnum_Num L_hnum_Num
    (by intro x hx; cases hx) (by intro k x hx; cases hx) (fun d out h => ⟨0, (q_hnum_Num_m 0 d).trans h⟩)

/- horologe/figures.fits -/
@[reducible] def pi_figures_fits : PSh := ⟨[], [.mk false [.v (.int .i64)]]⟩
@[reducible] def po_figures_fits : PSh := ⟨[], [.mk false [.v .bool]]⟩
def f_figures_fits_m (T : Unit) (d : Unit × ((Int × Unit) × Unit)) : Option (Unit × ((Bool × Unit) × Unit)) :=
  let x1 : Bool := (decide (d.2.1.1 ≥ (0 : Int)))
  bif x1 then (
  let x2 : Bool := (decide (d.2.1.1 < (1000000000 : Int)))
  some ((), ((x2, ()), ())))
  else (
  some ((), ((false, ()), ())))
def c_figures_fits : List Nat := []
def L_figures_fits (_ : Nat) : Pts po_figures_fits.den := []
def E_figures_fits : Env := E0
theorem q_figures_fits_m (k : Nat) (d : Unit × ((Int × Unit) × Unit)) : evCode E_figures_fits (tab (L_figures_fits k)) c_figures_fits (bodyOf Tryd.f18) 0 (finK E_figures_fits po_figures_fits [.tmp 2]) (startSt pi_figures_fits 9 d) = f_figures_fits_m () d := by kernel_rfl
def g_figures_fits (d : Unit × ((Int × Unit) × Unit)) : Option (Unit × ((Bool × Unit) × Unit)) := f_figures_fits_m () d
theorem ok_figures_fits : FnOk Tryd.prog ET0 18 pi_figures_fits po_figures_fits g_figures_fits :=
  fn_of_body (E := E_figures_fits) e0_ok (fn := Tryd.f18) Tryd.func18 (by kernel_rfl) (by kernel_rfl) [.tmp 2] (by kernel_rfl) (by kernel_rfl) (by decide) rfl c_figures_fits L_figures_fits
    (by intro x hx; cases hx) (by intro k x hx; cases hx) (fun d out h => ⟨0, (q_figures_fits_m 0 d).trans h⟩)

/- horologe/figures.PutFraction -/
@[reducible] def pi_figures_PutFraction : PSh := ⟨[], [.mk false [.v (.int .i64)], .mk false [.v (.int .i64)]]⟩
@[reducible] def po_figures_PutFraction : PSh := ⟨[], [.mk false [.v .str], .mk false [.v .err]]⟩
def f_figures_PutFraction_m (T : Unit) (d : Unit × ((Int × Unit) × ((Int × Unit) × Unit))) : Option (Unit × ((ByteArray × Unit) × (((Option Int) × Unit) × Unit))) :=
  (g_figures_fits ((), ((d.2.1.1, ()), ()))).bind fun x1 =>
  let x2 : Bool := (!x1.2.1.1)
  bif x2 then (
  let x3 : (Option Int) := (some (1 : Int))
  some ((), (((⟨#[]⟩ : ByteArray), ()), ((x3, ()), ()))))
  else (
  let x4 : Bool := (decide (d.2.2.1.1 < (0 : Int)))
  bif x4 then (
  let x5 : (Option Int) := (some (1 : Int))
  some ((), (((⟨#[]⟩ : ByteArray), ()), ((x5, ()), ()))))
  else (
  let x6 : Bool := (decide (d.2.2.1.1 > (9 : Int)))
  bif x6 then (
  let x7 : (Option Int) := (some (1 : Int))
  some ((), (((⟨#[]⟩ : ByteArray), ()), ((x7, ()), ()))))
  else (
  let x8 : Int := (iconv .u64 d.2.1.1)
  (g_figures_raw ((), ((x8, ()), (((9 : Int), ()), ())))).bind fun x9 =>
  bif decide ((0 : Int) ≤ (0 : Int)) && decide ((0 : Int) ≤ d.2.2.1.1) && decide (d.2.2.1.1 ≤ (x9.2.1.1.size : Int)) then (
  let x10 : ByteArray := (x9.2.1.1.extract (Int.toNat (0 : Int)) (Int.toNat d.2.2.1.1))
  some ((), ((x10, ()), (((none : Option Int), ()), ()))))
  else none)))
def c_figures_PutFraction : List Nat := []
def L_figures_PutFraction (_ : Nat) : Pts po_figures_PutFraction.den := []
def E_figures_PutFraction : Env := ((E0.add 18 (typedSem pi_figures_fits po_figures_fits g_figures_fits)).add 19 (typedSem pi_figures_raw po_figures_raw g_figures_raw))
theorem q_figures_PutFraction_m (k : Nat) (d : Unit × ((Int × Unit) × ((Int × Unit) × Unit))) : evCode E_figures_PutFraction (tab (L_figures_PutFraction k)) c_figures_PutFraction (bodyOf Tryd.f9) 0 (finK E_figures_PutFraction po_figures_PutFraction [.tmp 4, .tmp 5]) (startSt pi_figures_PutFraction 23 d) = f_figures_PutFraction_m () d := by kernel_rfl
def g_figures_PutFraction (d : Unit × ((Int × Unit) × ((Int × Unit) × Unit))) : Option (Unit × ((ByteArray × Unit) × (((Option Int) × Unit) × Unit))) := f_figures_PutFraction_m () d
theorem ok_figures_PutFraction : FnOk Tryd.prog ET0 9 pi_figures_PutFraction po_figures_PutFraction g_figures_PutFraction :=
  fn_of_body (E := E_figures_PutFraction) (envOk_add (envOk_add e0_ok (typed_ok ok_figures_fits)) (typed_ok ok_figures_raw)) (fn := Tryd.f9) Tryd.func9 (by kernel_rfl) (by kernel_rfl) [.tmp 4, .tmp 5] (by kernel_rfl) (by kernel_rfl) (by decide) rfl c_figures_PutFraction L_figures_PutFraction
    (by intro x hx; cases hx) (by intro k x hx; cases hx) (fun d out h => ⟨0, (q_figures_PutFraction_m 0 d).trans h⟩)

/- strings.trimRightByte -/
@[reducible] def pi_strings_trimRightByte : PSh := ⟨[], [.mk false [.v .str], .mk false [.v (.int .u8)]]⟩
@[reducible] def po_strings_trimRightByte : PSh := ⟨[], [.mk false [.v .str]]⟩
@[reducible] def TT_strings_trimRightByte : Type := (((Unit × ((ByteArray × Unit) × ((Int × Unit) × Unit))) → Option (Unit × ((ByteArray × Unit) × Unit))) × Unit)
@[reducible] def sh_strings_trimRightByte_2 : PSh := ⟨[], [.mk false [.v .str], .mk false [.v (.int .u8)], .any, .any, .any, .any, .any, .any, .any, .any, .any, .any, .any, .any, .any, .any, .any, .any, .any, .any, .any, .any, .any]⟩
def f_strings_trimRightByte_p2 (T : TT_strings_trimRightByte) (d : Unit × ((ByteArray × Unit) × ((Int × Unit) × Unit))) : Option (Unit × ((ByteArray × Unit) × Unit)) :=
  let x1 : Int := (d.2.1.1.size : Int)
  let x2 : Bool := (decide (x1 > (0 : Int)))
  bif x2 then (
  let x3 : Int := (d.2.1.1.size : Int)
  let x4 : Int := (isub .i64 x3 (1 : Int))
  bif decide ((0 : Int) ≤ x4) && decide (x4 < ((d.2.1.1.size : Int) : Int)) then (
  let x5 : Int := (bt d.2.1.1 x4)
  let x6 : Bool := (x5 == d.2.2.1.1)
  bif x6 then (
  let x7 : Int := (d.2.1.1.size : Int)
  let x8 : Int := (isub .i64 x7 (1 : Int))
  bif decide ((0 : Int) ≤ (0 : Int)) && decide ((0 : Int) ≤ x8) && decide (x8 ≤ (d.2.1.1.size : Int)) then (
  let x9 : ByteArray := (d.2.1.1.extract (Int.toNat (0 : Int)) (Int.toNat x8))
  (T.1 ((), ((x9, ()), ((d.2.2.1.1, ()), ())))))
  else none)
  else (
  some ((), ((d.2.1.1, ()), ()))))
  else none)
  else (
  some ((), ((d.2.1.1, ()), ())))
def f_strings_trimRightByte_t : Nat → TT_strings_trimRightByte
  | 0 => (fun _ => none, ())
  | k + 1 => (f_strings_trimRightByte_p2 (f_strings_trimRightByte_t k), ())
theorem t_strings_trimRightByte (k : Nat) : f_strings_trimRightByte_t (k + 1) = (f_strings_trimRightByte_p2 (f_strings_trimRightByte_t k), ()) := rfl
def f_strings_trimRightByte_m (T : TT_strings_trimRightByte) (d : Unit × ((ByteArray × Unit) × ((Int × Unit) × Unit))) : Option (Unit × ((ByteArray × Unit) × Unit)) :=
  (T.1 ((), ((d.2.1.1, ()), ((d.2.2.1.1, ()), ()))))
def c_strings_trimRightByte : List Nat := []
def L_strings_trimRightByte (k : Nat) : Pts po_strings_trimRightByte.den := [(2, ⟨sh_strings_trimRightByte_2, (f_strings_trimRightByte_t k).1⟩)]
def E_strings_trimRightByte : Env := E0
theorem q_strings_trimRightByte_2 (k : Nat) (d : Unit × ((ByteArray × Unit) × ((Int × Unit) × Unit))) : evAt E_strings_trimRightByte (tab (L_strings_trimRightByte k)) c_strings_trimRightByte 2 (bodyOf Tryd.f32) 0 (finK E_strings_trimRightByte po_strings_trimRightByte [.tmp 4]) (ptSt sh_strings_trimRightByte_2 d) = f_strings_trimRightByte_p2 (f_strings_trimRightByte_t k) d := by kernel_rfl
theorem q_strings_trimRightByte_m (k : Nat) (d : Unit × ((ByteArray × Unit) × ((Int × Unit) × Unit))) : evCode E_strings_trimRightByte (tab (L_strings_trimRightByte k)) c_strings_trimRightByte (bodyOf Tryd.f32) 0 (finK E_strings_trimRightByte po_strings_trimRightByte [.tmp 4]) (startSt pi_strings_trimRightByte 23 d) = f_strings_trimRightByte_m (f_strings_trimRightByte_t k) d := by kernel_rfl
theorem go_strings_trimRightByte (G : Unit × ((ByteArray × Unit) × ((Int × Unit) × Unit)) → Option (Unit × ((ByteArray × Unit) × Unit))) (hG : ∀ d out, G d = some out → ∃ k, f_strings_trimRightByte_m (f_strings_trimRightByte_t k) d = some out) : FnOk Tryd.prog ET0 32 pi_strings_trimRightByte po_strings_trimRightByte G :=
  fn_of_body (E := E_strings_trimRightByte) e0_ok (fn := Tryd.f32) Tryd.func32 (by kernel_rfl) (by kernel_rfl) [.tmp 4] (by kernel_rfl) (by kernel_rfl) (by decide) rfl c_strings_trimRightByte L_strings_trimRightByte
    (by intro x hx d; simp only [L_strings_trimRightByte, List.mem_cons, List.not_mem_nil, or_false] at hx; subst hx; rfl)
    (by intro k x hx d out h; simp only [L_strings_trimRightByte, List.mem_cons, List.not_mem_nil, or_false] at hx; subst hx; exact (q_strings_trimRightByte_2 k d).trans h)
    (by intro d out h; obtain ⟨k, hk⟩ := hG d out h; exact ⟨k, (q_strings_trimRightByte_m k d).trans hk⟩)
def g_strings_trimRightByte (d : Unit × ((ByteArray × Unit) × ((Int × Unit) × Unit))) : Option (Unit × ((ByteArray × Unit) × Unit)) := lim fun k => f_strings_trimRightByte_m (f_strings_trimRightByte_t k) d
theorem ok_strings_trimRightByte : FnOk Tryd.prog ET0 32 pi_strings_trimRightByte po_strings_trimRightByte g_strings_trimRightByte := go_strings_trimRightByte g_strings_trimRightByte fun d out h => lim_some h

/- strings.TrimRight -/
@[reducible] def pi_strings_TrimRight : PSh := ⟨[], [.mk false [.v .str], .mk false [.v .str]]⟩
@[reducible] def po_strings_TrimRight : PSh := ⟨[], [.mk false [.v .str]]⟩
def f_strings_TrimRight_m (T : Unit) (d : Unit × ((ByteArray × Unit) × ((ByteArray × Unit) × Unit))) : Option (Unit × ((ByteArray × Unit) × Unit)) :=
  let x1 : Bool := (d.2.1.1.toList == (⟨#[]⟩ : ByteArray).toList)
  bif x1 then (
  some ((), ((d.2.1.1, ()), ())))
  else (
  let x2 : Bool := (d.2.2.1.1.toList == (⟨#[]⟩ : ByteArray).toList)
  bif x2 then (
  some ((), ((d.2.1.1, ()), ())))
  else (
  let x3 : Int := (d.2.2.1.1.size : Int)
  let x4 : Bool := (x3 == (1 : Int))
  bif x4 then (
  bif decide ((0 : Int) ≤ (0 : Int)) && decide ((0 : Int) < ((d.2.2.1.1.size : Int) : Int)) then (
  let x5 : Int := (bt d.2.2.1.1 (0 : Int))
  let x6 : Bool := (decide (x5 < (128 : Int)))
  bif x6 then (
  bif decide ((0 : Int) ≤ (0 : Int)) && decide ((0 : Int) < ((d.2.2.1.1.size : Int) : Int)) then (
  let x7 : Int := (bt d.2.2.1.1 (0 : Int))
  (g_strings_trimRightByte ((), ((d.2.1.1, ()), ((x7, ()), ())))).bind fun x8 =>
  some ((), ((x8.2.1.1, ()), ())))
  else none)
  else (
  none))
  else none)
  else (
  none)))
def c_strings_TrimRight : List Nat := []
def L_strings_TrimRight (_ : Nat) : Pts po_strings_TrimRight.den := []
def E_strings_TrimRight : Env := (E0.add 32 (typedSem pi_strings_trimRightByte po_strings_trimRightByte g_strings_trimRightByte))
theorem q_strings_TrimRight_m (k : Nat) (d : Unit × ((ByteArray × Unit) × ((ByteArray × Unit) × Unit))) : evCode E_strings_TrimRight (tab (L_strings_TrimRight k)) c_strings_TrimRight (bodyOf Tryd.f20) 0 (finK E_strings_TrimRight po_strings_TrimRight [.tmp 4]) (startSt pi_strings_TrimRight 37 d) = f_strings_TrimRight_m () d := by kernel_rfl
def g_strings_TrimRight (d : Unit × ((ByteArray × Unit) × ((ByteArray × Unit) × Unit))) : Option (Unit × ((ByteArray × Unit) × Unit)) := f_strings_TrimRight_m () d
theorem ok_strings_TrimRight : FnOk Tryd.prog ET0 20 pi_strings_TrimRight po_strings_TrimRight g_strings_TrimRight :=
  fn_of_body (E := E_strings_TrimRight) (envOk_add e0_ok (typed_ok ok_strings_trimRightByte)) (fn := Tryd.f20) Tryd.func20 (by kernel_rfl) (by kernel_rfl) [.tmp 4] (by kernel_rfl) (by kernel_rfl) (by decide) rfl c_strings_TrimRight L_strings_TrimRight
    (by intro x hx; cases hx) (by intro k x hx; cases hx) (fun d out h => ⟨0, (q_strings_TrimRight_m 0 d).trans h⟩)

/- horologe/figures.Short -/
@[reducible] def pi_figures_Short : PSh := ⟨[], [.mk false [.v (.int .i64)]]⟩
@[reducible] def po_figures_Short : PSh := ⟨[], [.mk false [.v .str], .mk false [.v .err]]⟩
def f_figures_Short_m (T : Unit) (d : Unit × ((Int × Unit) × Unit)) : Option (Unit × ((ByteArray × Unit) × (((Option Int) × Unit) × Unit))) :=
  (g_figures_fits ((), ((d.2.1.1, ()), ()))).bind fun x1 =>
  let x2 : Bool := (!x1.2.1.1)
  bif x2 then (
  let x3 : (Option Int) := (some (1 : Int))
  some ((), (((⟨#[]⟩ : ByteArray), ()), ((x3, ()), ()))))
  else (
  let x4 : Int := (iconv .u64 d.2.1.1)
  (g_figures_raw ((), ((x4, ()), (((9 : Int), ()), ())))).bind fun x5 =>
  (g_strings_TrimRight ((), ((x5.2.1.1, ()), (((⟨#[48]⟩ : ByteArray), ()), ())))).bind fun x6 =>
  some ((), ((x6.2.1.1, ()), (((none : Option Int), ()), ()))))
def c_figures_Short : List Nat := []
def L_figures_Short (_ : Nat) : Pts po_figures_Short.den := []
def E_figures_Short : Env := (((E0.add 18 (typedSem pi_figures_fits po_figures_fits g_figures_fits)).add 19 (typedSem pi_figures_raw po_figures_raw g_figures_raw)).add 20 (typedSem pi_strings_TrimRight po_strings_TrimRight g_strings_TrimRight))
theorem q_figures_Short_m (k : Nat) (d : Unit × ((Int × Unit) × Unit)) : evCode E_figures_Short (tab (L_figures_Short k)) c_figures_Short (bodyOf Tryd.f10) 0 (finK E_figures_Short po_figures_Short [.tmp 2, .tmp 3]) (startSt pi_figures_Short 12 d) = f_figures_Short_m () d := by kernel_rfl
def g_figures_Short (d : Unit × ((Int × Unit) × Unit)) : Option (Unit × ((ByteArray × Unit) × (((Option Int) × Unit) × Unit))) := f_figures_Short_m () d
theorem ok_figures_Short : FnOk Tryd.prog ET0 10 pi_figures_Short po_figures_Short g_figures_Short :=
  fn_of_body (E := E_figures_Short) (envOk_add (envOk_add (envOk_add e0_ok (typed_ok ok_figures_fits)) (typed_ok ok_figures_raw)) (typed_ok ok_strings_TrimRight)) (fn := Tryd.f10) Tryd.func10 (by kernel_rfl) (by kernel_rfl) [.tmp 2, .tmp 3] (by kernel_rfl) (by kernel_rfl) (by decide) rfl c_figures_Short L_figures_Short
    (by intro x hx; cases hx) (by intro k x hx; cases hx) (fun d out h => ⟨0, (q_figures_Short_m 0 d).trans h⟩)

/- horologe/horologenum.Is -/
@[reducible] def pi_hnum_Is : PSh := ⟨[], [.mk false [.v .err], .mk false [.v (.int .i64)]]⟩
@[reducible] def po_hnum_Is : PSh := ⟨[], [.mk false [.v .bool]]⟩
def f_hnum_Is_m (T : Unit) (d : Unit × (((Option Int) × Unit) × ((Int × Unit) × Unit))) : Option (Unit × ((Bool × Unit) × Unit)) :=
  (g_hnum_Num ((), ((d.2.1.1, ()), ()))).bind fun x1 =>
  let x2 : Bool := (x1.2.1.1 == d.2.2.1.1)
  some ((), ((x2, ()), ()))
def c_hnum_Is : List Nat := []
def L_hnum_Is (_ : Nat) : Pts po_hnum_Is.den := []
def E_hnum_Is : Env := (E0.add 8 (typedSem pi_hnum_Num po_hnum_Num g_hnum_Num))
theorem q_hnum_Is_m (k : Nat) (d : Unit × (((Option Int) × Unit) × ((Int × Unit) × Unit))) : evCode E_hnum_Is (tab (L_hnum_Is k)) c_hnum_Is (bodyOf Tryd.f11) 0 (finK E_hnum_Is po_hnum_Is [.tmp 4]) (startSt pi_hnum_Is 9 d) = f_hnum_Is_m () d := by kernel_rfl
def g_hnum_Is (d : Unit × (((Option Int) × Unit) × ((Int × Unit) × Unit))) : Option (Unit × ((Bool × Unit) × Unit)) := f_hnum_Is_m () d
theorem ok_hnum_Is : FnOk Tryd.prog ET0 11 pi_hnum_Is po_hnum_Is g_hnum_Is :=
  fn_of_body (E := E_hnum_Is) (envOk_add e0_ok (typed_ok ok_hnum_Num)) (fn := Tryd.f11) Tryd.func11 (by kernel_rfl) (by kernel_rfl) [.tmp 4] (by kernel_rfl) (by kernel_rfl) (by decide) rfl c_hnum_Is L_hnum_Is
    (by intro x hx; cases hx) (by intro k x hx; cases hx) (fun d out h => ⟨0, (q_hnum_Is_m 0 d).trans h⟩)

/- horologe/horologeref02.Raw -/
@[reducible] def pi_ref02_Raw : PSh := ⟨[], [.mk false [.v (.int .i64)], .mk false [.v (.int .i64)]]⟩
@[reducible] def po_ref02_Raw : PSh := ⟨[], [.mk false [.v .str]]⟩
@[reducible] def TT_ref02_Raw : Type := (((Unit × ((Int × Unit) × ((Int × Unit) × ((ByteArray × Unit) × Unit)))) → Option (Unit × ((ByteArray × Unit) × Unit))) × (((Unit × ((Int × Unit) × ((ByteArray × Unit) × Unit))) → Option (Unit × ((ByteArray × Unit) × Unit))) × Unit))
@[reducible] def sh_ref02_Raw_3 : PSh := ⟨[], [.mk false [.v (.int .i64)], .mk false [.v (.int .i64)], .any, .any, .any, .mk false [.v .str], .any, .any, .any, .any, .any, .any, .any, .any, .any, .any, .any, .any, .any, .any, .any, .any, .any, .any, .any, .any, .any, .any, .any, .any]⟩
@[reducible] def sh_ref02_Raw_8 : PSh := ⟨[], [.any, .mk false [.v (.int .i64)], .any, .any, .any, .mk false [.v .str], .any, .any, .any, .any, .any, .any, .any, .any, .any, .any, .any, .any, .any, .any, .any, .any, .any, .any, .any, .any, .any, .any, .any, .any]⟩
def f_ref02_Raw_p3 (T : TT_ref02_Raw) (d : Unit × ((Int × Unit) × ((Int × Unit) × ((ByteArray × Unit) × Unit)))) : Option (Unit × ((ByteArray × Unit) × Unit)) :=
  let x1 : Bool := (decide (d.2.1.1 > (0 : Int)))
  bif x1 then (
  let x2 : Int := (Int.tmod d.2.1.1 (10 : Int))
  let x3 : Int := (iadd .i64 (48 : Int) x2)
  let x4 : Int := (iconv .u8 x3)
  let x5 : (List Int) := ([x4] : List Int)
  let x6 : ByteArray := (strOf x5)
  bif decide (((x6.size + d.2.2.2.1.1.size : Nat) : Int) ≤ 9223372036854775807) then (
  let x7 : ByteArray := (x6 ++ d.2.2.2.1.1)
  let x8 : Int := (iquo .i64 d.2.1.1 (10 : Int))
  (T.1 ((), ((x8, ()), ((d.2.2.1.1, ()), ((x7, ()), ()))))))
  else none)
  else (
  (T.2.1 ((), ((d.2.2.1.1, ()), ((d.2.2.2.1.1, ()), ())))))
def f_ref02_Raw_p8 (T : TT_ref02_Raw) (d : Unit × ((Int × Unit) × ((ByteArray × Unit) × Unit))) : Option (Unit × ((ByteArray × Unit) × Unit)) :=
  let x9 : Int := (d.2.2.1.1.size : Int)
  let x10 : Bool := (decide (x9 < d.2.1.1))
  bif x10 then (
  bif decide ((((⟨#[48]⟩ : ByteArray).size + d.2.2.1.1.size : Nat) : Int) ≤ 9223372036854775807) then (
  let x11 : ByteArray := ((⟨#[48]⟩ : ByteArray) ++ d.2.2.1.1)
  (T.2.1 ((), ((d.2.1.1, ()), ((x11, ()), ())))))
  else none)
  else (
  let x12 : Int := (d.2.2.1.1.size : Int)
  let x13 : Bool := (x12 == (0 : Int))
  bif x13 then (
  bif decide ((((⟨#[48]⟩ : ByteArray).size + d.2.2.1.1.size : Nat) : Int) ≤ 9223372036854775807) then (
  let x14 : ByteArray := ((⟨#[48]⟩ : ByteArray) ++ d.2.2.1.1)
  (T.2.1 ((), ((d.2.1.1, ()), ((x14, ()), ())))))
  else none)
  else (
  some ((), ((d.2.2.1.1, ()), ()))))
def f_ref02_Raw_t : Nat → TT_ref02_Raw
  | 0 => (fun _ => none, (fun _ => none, ()))
  | k + 1 => (f_ref02_Raw_p3 (f_ref02_Raw_t k), (f_ref02_Raw_p8 (f_ref02_Raw_t k), ()))
theorem t_ref02_Raw (k : Nat) : f_ref02_Raw_t (k + 1) = (f_ref02_Raw_p3 (f_ref02_Raw_t k), (f_ref02_Raw_p8 (f_ref02_Raw_t k), ())) := rfl
def f_ref02_Raw_m (T : TT_ref02_Raw) (d : Unit × ((Int × Unit) × ((Int × Unit) × Unit))) : Option (Unit × ((ByteArray × Unit) × Unit)) :=
  (T.1 ((), ((d.2.1.1, ()), ((d.2.2.1.1, ()), (((⟨#[]⟩ : ByteArray), ()), ())))))
def c_ref02_Raw : List Nat := []
def L_ref02_Raw (k : Nat) : Pts po_ref02_Raw.den := [(3, ⟨sh_ref02_Raw_3, (f_ref02_Raw_t k).1⟩), (8, ⟨sh_ref02_Raw_8, (f_ref02_Raw_t k).2.1⟩)]
def E_ref02_Raw : Env := E0
theorem q_ref02_Raw_3 (k : Nat) (d : Unit × ((Int × Unit) × ((Int × Unit) × ((ByteArray × Unit) × Unit)))) : evAt E_ref02_Raw (tab (L_ref02_Raw k)) c_ref02_Raw 3 (bodyOf Tryd.f12) 0 (finK E_ref02_Raw po_ref02_Raw [.tmp 4]) (ptSt sh_ref02_Raw_3 d) = f_ref02_Raw_p3 (f_ref02_Raw_t k) d := by kernel_rfl
theorem q_ref02_Raw_8 (k : Nat) (d : Unit × ((Int × Unit) × ((ByteArray × Unit) × Unit))) : evAt E_ref02_Raw (tab (L_ref02_Raw k)) c_ref02_Raw 8 (bodyOf Tryd.f12) 0 (finK E_ref02_Raw po_ref02_Raw [.tmp 4]) (ptSt sh_ref02_Raw_8 d) = f_ref02_Raw_p8 (f_ref02_Raw_t k) d := by kernel_rfl
theorem q_ref02_Raw_m (k : Nat) (d : Unit × ((Int × Unit) × ((Int × Unit) × Unit))) : evCode E_ref02_Raw (tab (L_ref02_Raw k)) c_ref02_Raw (bodyOf Tryd.f12) 0 (finK E_ref02_Raw po_ref02_Raw [.tmp 4]) (startSt pi_ref02_Raw 30 d) = f_ref02_Raw_m (f_ref02_Raw_t k) d := by kernel_rfl
theorem go_ref02_Raw (G : Unit × ((Int × Unit) × ((Int × Unit) × Unit)) → Option (Unit × ((ByteArray × Unit) × Unit))) (hG : ∀ d out, G d = some out → ∃ k, f_ref02_Raw_m (f_ref02_Raw_t k) d = some out) : FnOk Tryd.prog ET0 12 pi_ref02_Raw po_ref02_Raw G :=
  fn_of_body (E := E_ref02_Raw) e0_ok (fn := Tryd.f12) Tryd.func12 (by kernel_rfl) (by kernel_rfl) [.tmp 4] (by kernel_rfl) (by kernel_rfl) (by decide) rfl c_ref02_Raw L_ref02_Raw
    (by intro x hx d; simp only [L_ref02_Raw, List.mem_cons, List.not_mem_nil, or_false] at hx; rcases hx with rfl | rfl; rfl; rfl)
    (by intro k x hx d out h; simp only [L_ref02_Raw, List.mem_cons, List.not_mem_nil, or_false] at hx; rcases hx with rfl | rfl; exact (q_ref02_Raw_3 k d).trans h; exact (q_ref02_Raw_8 k d).trans h)
    (by intro d out h; obtain ⟨k, hk⟩ := hG d out h; exact ⟨k, (q_ref02_Raw_m k d).trans hk⟩)
def g_ref02_Raw (d : Unit × ((Int × Unit) × ((Int × Unit) × Unit))) : Option (Unit × ((ByteArray × Unit) × Unit)) := lim fun k => f_ref02_Raw_m (f_ref02_Raw_t k) d
theorem ok_ref02_Raw : FnOk Tryd.prog ET0 12 pi_ref02_Raw po_ref02_Raw g_ref02_Raw := go_ref02_Raw g_ref02_Raw fun d out h => lim_some h

/- horologe/horologelaw02.FiguresFractions -/
@[reducible] def pi_law02_FiguresFractions : PSh := ⟨[], [.mk false [.v .str], .mk false [.v (.int .i64)], .mk false [.v (.int .i64)]]⟩
@[reducible] def po_law02_FiguresFractions : PSh := ⟨[], [.mk false [.v .bool]]⟩
@[reducible] def TT_law02_FiguresFractions : Type := (((Unit × ((Int × Unit) × (((Option Int) × Unit) × ((ByteArray × Unit) × ((ByteArray × Unit) × (((Option Int) × Unit) × ((ByteArray × Unit) × ((Int × Unit) × Unit)))))))) → Option (Unit × ((Bool × Unit) × Unit))) × Unit)
@[reducible] def sh_law02_FiguresFractions_20 : PSh := ⟨[], [.any, .any, .mk false [.v (.int .i64)], .any, .any, .any, .any, .any, .mk false [.v .err], .any, .any, .mk false [.v .str], .mk false [.v .str], .mk false [.v .err], .mk false [.v .str], .mk false [.v (.int .i64)], .any, .any, .any, .any, .any, .any, .any, .any, .any, .any, .any, .any, .any, .any, .any, .any, .any, .any, .any, .any, .any, .any, .any, .any, .any, .any, .any, .any, .any, .any, .any, .any, .any, .any, .any, .any, .any, .any, .any, .any, .any, .any, .any, .any, .any, .any, .any, .any, .any, .any, .any, .any, .any, .any, .any, .any, .any, .any, .any, .any, .any, .any, .any, .any, .any, .any, .any, .any, .any, .any, .any, .any, .any, .any, .any, .any, .any, .any, .any, .any, .any, .any, .any, .any, .any, .any, .any, .any, .any, .any, .any, .any, .any, .any, .any, .any, .any, .any]⟩
def f_law02_FiguresFractions_p20 (T : TT_law02_FiguresFractions) (d : Unit × ((Int × Unit) × (((Option Int) × Unit) × ((ByteArray × Unit) × ((ByteArray × Unit) × (((Option Int) × Unit) × ((ByteArray × Unit) × ((Int × Unit) × Unit)))))))) : Option (Unit × ((Bool × Unit) × Unit)) :=
  let x23 : Bool := (decide (d.2.2.2.2.2.2.2.1.1 > (0 : Int)))
  bif x23 then (
  let x24 : Int := (isub .i64 d.2.2.2.2.2.2.2.1.1 (1 : Int))
  bif decide ((0 : Int) ≤ x24) && decide (x24 < ((d.2.2.2.2.2.2.1.1.size : Int) : Int)) then (
  let x25 : Int := (bt d.2.2.2.2.2.2.1.1 x24)
  let x26 : Bool := (x25 == (48 : Int))
  bif x26 then (
  let x27 : Int := (isub .i64 d.2.2.2.2.2.2.2.1.1 (1 : Int))
  (T.1 ((), ((d.2.1.1, ()), ((d.2.2.1.1, ()), ((d.2.2.2.1.1, ()), ((d.2.2.2.2.1.1, ()), ((d.2.2.2.2.2.1.1, ()), ((d.2.2.2.2.2.2.1.1, ()), ((x27, ()), ()))))))))))
  else (
  let x28 : Bool := (!d.2.2.2.2.2.1.1.isNone)
  bif x28 then (
  some ((), ((false, ()), ())))
  else (
  bif decide ((0 : Int) ≤ (0 : Int)) && decide ((0 : Int) ≤ d.2.2.2.2.2.2.2.1.1) && decide (d.2.2.2.2.2.2.2.1.1 ≤ (d.2.2.2.2.2.2.1.1.size : Int)) then (
  let x29 : ByteArray := (d.2.2.2.2.2.2.1.1.extract (Int.toNat (0 : Int)) (Int.toNat d.2.2.2.2.2.2.2.1.1))
  let x30 : Bool := (!(d.2.2.2.2.1.1.toList == x29.toList))
  bif x30 then (
  some ((), ((false, ()), ())))
  else (
  let x31 : Bool := (decide (d.2.1.1 < (0 : Int)))
  bif x31 then (
  let x32 : Bool := (d.2.2.2.1.1.toList == (⟨#[]⟩ : ByteArray).toList)
  bif x32 then (
  (g_hnum_Is ((), ((d.2.2.1.1, ()), (((1 : Int), ()), ())))).bind fun x33 =>
  some ((), ((x33.2.1.1, ()), ())))
  else (
  some ((), ((false, ()), ()))))
  else (
  let x34 : Bool := (decide (d.2.1.1 > (9 : Int)))
  bif x34 then (
  let x35 : Bool := (d.2.2.2.1.1.toList == (⟨#[]⟩ : ByteArray).toList)
  bif x35 then (
  (g_hnum_Is ((), ((d.2.2.1.1, ()), (((1 : Int), ()), ())))).bind fun x36 =>
  some ((), ((x36.2.1.1, ()), ())))
  else (
  some ((), ((false, ()), ()))))
  else (
  bif d.2.2.1.1.isNone then (
  bif decide ((0 : Int) ≤ (0 : Int)) && decide ((0 : Int) ≤ d.2.1.1) && decide (d.2.1.1 ≤ (d.2.2.2.2.2.2.1.1.size : Int)) then (
  let x37 : ByteArray := (d.2.2.2.2.2.2.1.1.extract (Int.toNat (0 : Int)) (Int.toNat d.2.1.1))
  let x38 : Bool := (d.2.2.2.1.1.toList == x37.toList)
  some ((), ((x38, ()), ())))
  else none)
  else (
  some ((), ((false, ()), ())))))))
  else none)))
  else none)
  else (
  let x39 : Bool := (!d.2.2.2.2.2.1.1.isNone)
  bif x39 then (
  some ((), ((false, ()), ())))
  else (
  bif decide ((0 : Int) ≤ (0 : Int)) && decide ((0 : Int) ≤ d.2.2.2.2.2.2.2.1.1) && decide (d.2.2.2.2.2.2.2.1.1 ≤ (d.2.2.2.2.2.2.1.1.size : Int)) then (
  let x40 : ByteArray := (d.2.2.2.2.2.2.1.1.extract (Int.toNat (0 : Int)) (Int.toNat d.2.2.2.2.2.2.2.1.1))
  let x41 : Bool := (!(d.2.2.2.2.1.1.toList == x40.toList))
  bif x41 then (
  some ((), ((false, ()), ())))
  else (
  let x42 : Bool := (decide (d.2.1.1 < (0 : Int)))
  bif x42 then (
  let x43 : Bool := (d.2.2.2.1.1.toList == (⟨#[]⟩ : ByteArray).toList)
  bif x43 then (
  (g_hnum_Is ((), ((d.2.2.1.1, ()), (((1 : Int), ()), ())))).bind fun x44 =>
  some ((), ((x44.2.1.1, ()), ())))
  else (
  some ((), ((false, ()), ()))))
  else (
  let x45 : Bool := (decide (d.2.1.1 > (9 : Int)))
  bif x45 then (
  let x46 : Bool := (d.2.2.2.1.1.toList == (⟨#[]⟩ : ByteArray).toList)
  bif x46 then (
  (g_hnum_Is ((), ((d.2.2.1.1, ()), (((1 : Int), ()), ())))).bind fun x47 =>
  some ((), ((x47.2.1.1, ()), ())))
  else (
  some ((), ((false, ()), ()))))
  else (
  bif d.2.2.1.1.isNone then (
  bif decide ((0 : Int) ≤ (0 : Int)) && decide ((0 : Int) ≤ d.2.1.1) && decide (d.2.1.1 ≤ (d.2.2.2.2.2.2.1.1.size : Int)) then (
  let x48 : ByteArray := (d.2.2.2.2.2.2.1.1.extract (Int.toNat (0 : Int)) (Int.toNat d.2.1.1))
  let x49 : Bool := (d.2.2.2.1.1.toList == x48.toList)
  some ((), ((x49, ()), ())))
  else none)
  else (
  some ((), ((false, ()), ())))))))
  else none))
def f_law02_FiguresFractions_t : Nat → TT_law02_FiguresFractions
  | 0 => (fun _ => none, ())
  | k + 1 => (f_law02_FiguresFractions_p20 (f_law02_FiguresFractions_t k), ())
theorem t_law02_FiguresFractions (k : Nat) : f_law02_FiguresFractions_t (k + 1) = (f_law02_FiguresFractions_p20 (f_law02_FiguresFractions_t k), ()) := rfl
def f_law02_FiguresFractions_m (T : TT_law02_FiguresFractions) (d : Unit × ((ByteArray × Unit) × ((Int × Unit) × ((Int × Unit) × Unit)))) : Option (Unit × ((Bool × Unit) × Unit)) :=
  (g_law02_alive ((), ())).bind fun x1 =>
  let x2 : Bool := (!x1.2.1.1)
  bif x2 then (
  some ((), ((false, ()), ())))
  else (
  let x3 : Int := (d.2.1.1.size : Int)
  let x4 : Bool := (decide (x3 > (300 : Int)))
  bif x4 then (
  some ((), ((true, ()), ())))
  else (
  (g_figures_Fraction ((), ((d.2.1.1, ()), ()))).bind fun x5 =>
  (g_ref02_Fraction ((), ((d.2.1.1, ()), ()))).bind fun x6 =>
  let x7 : Bool := (x5.2.1.1 != x6.2.1.1)
  bif x7 then (
  some ((), ((false, ()), ())))
  else (
  (g_hnum_Num ((), ((x5.2.2.1.1, ()), ()))).bind fun x8 =>
  let x9 : Bool := (x8.2.1.1 != x6.2.2.1.1)
  bif x9 then (
  some ((), ((false, ()), ())))
  else (
  (g_figures_PutFraction ((), ((d.2.2.1.1, ()), ((d.2.2.2.1.1, ()), ())))).bind fun x10 =>
  (g_figures_Short ((), ((d.2.2.1.1, ()), ()))).bind fun x11 =>
  let x12 : Bool := (decide (d.2.2.1.1 < (0 : Int)))
  bif x12 then (
  let x13 : Bool := (x10.2.1.1.toList == (⟨#[]⟩ : ByteArray).toList)
  bif x13 then (
  let x14 : Bool := (x11.2.1.1.toList == (⟨#[]⟩ : ByteArray).toList)
  bif x14 then (
  (g_hnum_Is ((), ((x10.2.2.1.1, ()), (((1 : Int), ()), ())))).bind fun x15 =>
  bif x15.2.1.1 then (
  (g_hnum_Is ((), ((x11.2.2.1.1, ()), (((1 : Int), ()), ())))).bind fun x16 =>
  some ((), ((x16.2.1.1, ()), ())))
  else (
  some ((), ((false, ()), ()))))
  else (
  some ((), ((false, ()), ()))))
  else (
  some ((), ((false, ()), ()))))
  else (
  let x17 : Bool := (decide (d.2.2.1.1 > (999999999 : Int)))
  bif x17 then (
  let x18 : Bool := (x10.2.1.1.toList == (⟨#[]⟩ : ByteArray).toList)
  bif x18 then (
  let x19 : Bool := (x11.2.1.1.toList == (⟨#[]⟩ : ByteArray).toList)
  bif x19 then (
  (g_hnum_Is ((), ((x10.2.2.1.1, ()), (((1 : Int), ()), ())))).bind fun x20 =>
  bif x20.2.1.1 then (
  (g_hnum_Is ((), ((x11.2.2.1.1, ()), (((1 : Int), ()), ())))).bind fun x21 =>
  some ((), ((x21.2.1.1, ()), ())))
  else (
  some ((), ((false, ()), ()))))
  else (
  some ((), ((false, ()), ()))))
  else (
  some ((), ((false, ()), ()))))
  else (
  (g_ref02_Raw ((), ((d.2.2.1.1, ()), (((9 : Int), ()), ())))).bind fun x22 =>
  (T.1 ((), ((d.2.2.2.1.1, ()), ((x10.2.2.1.1, ()), ((x10.2.1.1, ()), ((x11.2.1.1, ()), ((x11.2.2.1.1, ()), ((x22.2.1.1, ()), (((9 : Int), ()), ())))))))))))))))
def c_law02_FiguresFractions : List Nat := []
def L_law02_FiguresFractions (k : Nat) : Pts po_law02_FiguresFractions.den := [(20, ⟨sh_law02_FiguresFractions_20, (f_law02_FiguresFractions_t k).1⟩)]
def E_law02_FiguresFractions : Env := ((((((((E0.add 5 (typedSem pi_law02_alive po_law02_alive g_law02_alive)).add 6 (typedSem pi_figures_Fraction po_figures_Fraction g_figures_Fraction)).add 7 (typedSem pi_ref02_Fraction po_ref02_Fraction g_ref02_Fraction)).add 8 (typedSem pi_hnum_Num po_hnum_Num g_hnum_Num)).add 9 (typedSem pi_figures_PutFraction po_figures_PutFraction g_figures_PutFraction)).add 10 (typedSem pi_figures_Short po_figures_Short g_figures_Short)).add 11 (typedSem pi_hnum_Is po_hnum_Is g_hnum_Is)).add 12 (typedSem pi_ref02_Raw po_ref02_Raw g_ref02_Raw))
theorem q_law02_FiguresFractions_20 (k : Nat) (d : Unit × ((Int × Unit) × (((Option Int) × Unit) × ((ByteArray × Unit) × ((ByteArray × Unit) × (((Option Int) × Unit) × ((ByteArray × Unit) × ((Int × Unit) × Unit)))))))) : evAt E_law02_FiguresFractions (tab (L_law02_FiguresFractions k)) c_law02_FiguresFractions 20 (bodyOf Tryd.f3) 0 (finK E_law02_FiguresFractions po_law02_FiguresFractions [.tmp 6]) (ptSt sh_law02_FiguresFractions_20 d) = f_law02_FiguresFractions_p20 (f_law02_FiguresFractions_t k) d := by kernel_rfl
theorem q_law02_FiguresFractions_m (k : Nat) (d : Unit × ((ByteArray × Unit) × ((Int × Unit) × ((Int × Unit) × Unit)))) : evCode E_law02_FiguresFractions (tab (L_law02_FiguresFractions k)) c_law02_FiguresFractions (bodyOf Tryd.f3) 0 (finK E_law02_FiguresFractions po_law02_FiguresFractions [.tmp 6]) (startSt pi_law02_FiguresFractions 114 d) = f_law02_FiguresFractions_m (f_law02_FiguresFractions_t k) d := by kernel_rfl
theorem go_law02_FiguresFractions (G : Unit × ((ByteArray × Unit) × ((Int × Unit) × ((Int × Unit) × Unit))) → Option (Unit × ((Bool × Unit) × Unit))) (hG : ∀ d out, G d = some out → ∃ k, f_law02_FiguresFractions_m (f_law02_FiguresFractions_t k) d = some out) : FnOk Tryd.prog ET0 3 pi_law02_FiguresFractions po_law02_FiguresFractions G :=
  fn_of_body (E := E_law02_FiguresFractions) (envOk_add (envOk_add (envOk_add (envOk_add (envOk_add (envOk_add (envOk_add (envOk_add e0_ok (typed_ok ok_law02_alive)) (typed_ok ok_figures_Fraction)) (typed_ok ok_ref02_Fraction)) (typed_ok ok_hnum_Num)) (typed_ok ok_figures_PutFraction)) (typed_ok ok_figures_Short)) (typed_ok ok_hnum_Is)) (typed_ok ok_ref02_Raw)) (fn := Tryd.f3) Tryd.func3 (by kernel_rfl) (by kernel_rfl) [.tmp 6] (by kernel_rfl) (by kernel_rfl) (by decide) rfl c_law02_FiguresFractions L_law02_FiguresFractions
    (by intro x hx d; simp only [L_law02_FiguresFractions, List.mem_cons, List.not_mem_nil, or_false] at hx; subst hx; rfl)
    (by intro k x hx d out h; simp only [L_law02_FiguresFractions, List.mem_cons, List.not_mem_nil, or_false] at hx; subst hx; exact (q_law02_FiguresFractions_20 k d).trans h)
    (by intro d out h; obtain ⟨k, hk⟩ := hG d out h; exact ⟨k, (q_law02_FiguresFractions_m k d).trans hk⟩)
def g_law02_FiguresFractions (d : Unit × ((ByteArray × Unit) × ((Int × Unit) × ((Int × Unit) × Unit)))) : Option (Unit × ((Bool × Unit) × Unit)) := lim fun k => f_law02_FiguresFractions_m (f_law02_FiguresFractions_t k) d
theorem ok_law02_FiguresFractions : FnOk Tryd.prog ET0 3 pi_law02_FiguresFractions po_law02_FiguresFractions g_law02_FiguresFractions := go_law02_FiguresFractions g_law02_FiguresFractions fun d out h => lim_some h

/- internal/stringslite.HasPrefix -/
@[reducible] def pi_internal_stringslite_HasPrefix : PSh := ⟨[], [.mk false [.v .str], .mk false [.v .str]]⟩
@[reducible] def po_internal_stringslite_HasPrefix : PSh := ⟨[], [.mk false [.v .bool]]⟩
def f_internal_stringslite_HasPrefix_m (T : Unit) (d : Unit × ((ByteArray × Unit) × ((ByteArray × Unit) × Unit))) : Option (Unit × ((Bool × Unit) × Unit)) :=
  let x1 : Int := (d.2.1.1.size : Int)
  let x2 : Int := (d.2.2.1.1.size : Int)
  let x3 : Bool := (decide (x1 ≥ x2))
  bif x3 then (
  let x4 : Int := (d.2.2.1.1.size : Int)
  bif decide ((0 : Int) ≤ (0 : Int)) && decide ((0 : Int) ≤ x4) && decide (x4 ≤ (d.2.1.1.size : Int)) then (
  let x5 : ByteArray := (d.2.1.1.extract (Int.toNat (0 : Int)) (Int.toNat x4))
  let x6 : Bool := (x5.toList == d.2.2.1.1.toList)
  some ((), ((x6, ()), ())))
  else none)
  else (
  some ((), ((false, ()), ())))
def c_internal_stringslite_HasPrefix : List Nat := []
def L_internal_stringslite_HasPrefix (_ : Nat) : Pts po_internal_stringslite_HasPrefix.den := []
def E_internal_stringslite_HasPrefix : Env := E0
theorem q_internal_stringslite_HasPrefix_m (k : Nat) (d : Unit × ((ByteArray × Unit) × ((ByteArray × Unit) × Unit))) : evCode E_internal_stringslite_HasPrefix (tab (L_internal_stringslite_HasPrefix k)) c_internal_stringslite_HasPrefix (bodyOf Tryd.f41) 0 (finK E_internal_stringslite_HasPrefix po_internal_stringslite_HasPrefix [.tmp 4]) (startSt pi_internal_stringslite_HasPrefix 18 d) = f_internal_stringslite_HasPrefix_m () d := by kernel_rfl
def g_internal_stringslite_HasPrefix (d : Unit × ((ByteArray × Unit) × ((ByteArray × Unit) × Unit))) : Option (Unit × ((Bool × Unit) × Unit)) := f_internal_stringslite_HasPrefix_m () d
theorem ok_internal_stringslite_HasPrefix : FnOk Tryd.prog ET0 41 pi_internal_stringslite_HasPrefix po_internal_stringslite_HasPrefix g_internal_stringslite_HasPrefix :=
  fn_of_body (E := E_internal_stringslite_HasPrefix) e0_ok (fn := Tryd.f41) Tryd.func41 (by kernel_rfl) (by kernel_rfl) [.tmp 4] (by kernel_rfl) (by kernel_rfl) (by decide) rfl c_internal_stringslite_HasPrefix L_internal_stringslite_HasPrefix
    (by intro x hx; cases hx) (by intro k x hx; cases hx) (fun d out h => ⟨0, (q_internal_stringslite_HasPrefix_m 0 d).trans h⟩)

/- internal/stringslite.CutPrefix -/
@[reducible] def pi_internal_stringslite_CutPrefix : PSh := ⟨[], [.mk false [.v .str], .mk false [.v .str]]⟩
@[reducible] def po_internal_stringslite_CutPrefix : PSh := ⟨[], [.mk false [.v .str], .mk false [.v .bool]]⟩
def f_internal_stringslite_CutPrefix_m (T : Unit) (d : Unit × ((ByteArray × Unit) × ((ByteArray × Unit) × Unit))) : Option (Unit × ((ByteArray × Unit) × ((Bool × Unit) × Unit))) :=
  (g_internal_stringslite_HasPrefix ((), ((d.2.1.1, ()), ((d.2.2.1.1, ()), ())))).bind fun x1 =>
  let x2 : Bool := (!x1.2.1.1)
  bif x2 then (
  some ((), ((d.2.1.1, ()), ((false, ()), ()))))
  else (
  let x3 : Int := (d.2.2.1.1.size : Int)
  bif decide ((0 : Int) ≤ x3) && decide (x3 ≤ (d.2.1.1.size : Int)) && decide ((d.2.1.1.size : Int) ≤ (d.2.1.1.size : Int)) then (
  let x4 : ByteArray := (d.2.1.1.extract (Int.toNat x3) (Int.toNat (d.2.1.1.size : Int)))
  some ((), ((x4, ()), ((true, ()), ()))))
  else none)
def c_internal_stringslite_CutPrefix : List Nat := []
def L_internal_stringslite_CutPrefix (_ : Nat) : Pts po_internal_stringslite_CutPrefix.den := []
def E_internal_stringslite_CutPrefix : Env := (E0.add 41 (typedSem pi_internal_stringslite_HasPrefix po_internal_stringslite_HasPrefix g_internal_stringslite_HasPrefix))
theorem q_internal_stringslite_CutPrefix_m (k : Nat) (d : Unit × ((ByteArray × Unit) × ((ByteArray × Unit) × Unit))) : evCode E_internal_stringslite_CutPrefix (tab (L_internal_stringslite_CutPrefix k)) c_internal_stringslite_CutPrefix (bodyOf Tryd.f36) 0 (finK E_internal_stringslite_CutPrefix po_internal_stringslite_CutPrefix [.tmp 4, .tmp 5]) (startSt pi_internal_stringslite_CutPrefix 15 d) = f_internal_stringslite_CutPrefix_m () d := by kernel_rfl
def g_internal_stringslite_CutPrefix (d : Unit × ((ByteArray × Unit) × ((ByteArray × Unit) × Unit))) : Option (Unit × ((ByteArray × Unit) × ((Bool × Unit) × Unit))) := f_internal_stringslite_CutPrefix_m () d
theorem ok_internal_stringslite_CutPrefix : FnOk Tryd.prog ET0 36 pi_internal_stringslite_CutPrefix po_internal_stringslite_CutPrefix g_internal_stringslite_CutPrefix :=
  fn_of_body (E := E_internal_stringslite_CutPrefix) (envOk_add e0_ok (typed_ok ok_internal_stringslite_HasPrefix)) (fn := Tryd.f36) Tryd.func36 (by kernel_rfl) (by kernel_rfl) [.tmp 4, .tmp 5] (by kernel_rfl) (by kernel_rfl) (by decide) rfl c_internal_stringslite_CutPrefix L_internal_stringslite_CutPrefix
    (by intro x hx; cases hx) (by intro k x hx; cases hx) (fun d out h => ⟨0, (q_internal_stringslite_CutPrefix_m 0 d).trans h⟩)

/- strings.CutPrefix -/
@[reducible] def pi_strings_CutPrefix : PSh := ⟨[], [.mk false [.v .str], .mk false [.v .str]]⟩
@[reducible] def po_strings_CutPrefix : PSh := ⟨[], [.mk false [.v .str], .mk false [.v .bool]]⟩
def f_strings_CutPrefix_m (T : Unit) (d : Unit × ((ByteArray × Unit) × ((ByteArray × Unit) × Unit))) : Option (Unit × ((ByteArray × Unit) × ((Bool × Unit) × Unit))) :=
  (g_internal_stringslite_CutPrefix ((), ((d.2.1.1, ()), ((d.2.2.1.1, ()), ())))).bind fun x1 =>
  some ((), ((x1.2.1.1, ()), ((x1.2.2.1.1, ()), ())))
def c_strings_CutPrefix : List Nat := []
def L_strings_CutPrefix (_ : Nat) : Pts po_strings_CutPrefix.den := []
def E_strings_CutPrefix : Env := (E0.add 36 (typedSem pi_internal_stringslite_CutPrefix po_internal_stringslite_CutPrefix g_internal_stringslite_CutPrefix))
theorem q_strings_CutPrefix_m (k : Nat) (d : Unit × ((ByteArray × Unit) × ((ByteArray × Unit) × Unit))) : evCode E_strings_CutPrefix (tab (L_strings_CutPrefix k)) c_strings_CutPrefix (bodyOf Tryd.f21) 0 (finK E_strings_CutPrefix po_strings_CutPrefix [.tmp 4, .tmp 5]) (startSt pi_strings_CutPrefix 11 d) = f_strings_CutPrefix_m () d := by kernel_rfl
def g_strings_CutPrefix (d : Unit × ((ByteArray × Unit) × ((ByteArray × Unit) × Unit))) : Option (Unit × ((ByteArray × Unit) × ((Bool × Unit) × Unit))) := f_strings_CutPrefix_m () d
theorem ok_strings_CutPrefix : FnOk Tryd.prog ET0 21 pi_strings_CutPrefix po_strings_CutPrefix g_strings_CutPrefix :=
  fn_of_body (E := E_strings_CutPrefix) (envOk_add e0_ok (typed_ok ok_internal_stringslite_CutPrefix)) (fn := Tryd.f21) Tryd.func21 (by kernel_rfl) (by kernel_rfl) [.tmp 4, .tmp 5] (by kernel_rfl) (by kernel_rfl) (by decide) rfl c_strings_CutPrefix L_strings_CutPrefix
    (by intro x hx; cases hx) (by intro k x hx; cases hx) (fun d out h => ⟨0, (q_strings_CutPrefix_m 0 d).trans h⟩)

/- internal/stringslite.TrimPrefix -/
@[reducible] def pi_internal_stringslite_TrimPrefix : PSh := ⟨[], [.mk false [.v .str], .mk false [.v .str]]⟩
@[reducible] def po_internal_stringslite_TrimPrefix : PSh := ⟨[], [.mk false [.v .str]]⟩
def f_internal_stringslite_TrimPrefix_m (T : Unit) (d : Unit × ((ByteArray × Unit) × ((ByteArray × Unit) × Unit))) : Option (Unit × ((ByteArray × Unit) × Unit)) :=
  (g_internal_stringslite_HasPrefix ((), ((d.2.1.1, ()), ((d.2.2.1.1, ()), ())))).bind fun x1 =>
  bif x1.2.1.1 then (
  let x2 : Int := (d.2.2.1.1.size : Int)
  bif decide ((0 : Int) ≤ x2) && decide (x2 ≤ (d.2.1.1.size : Int)) && decide ((d.2.1.1.size : Int) ≤ (d.2.1.1.size : Int)) then (
  let x3 : ByteArray := (d.2.1.1.extract (Int.toNat x2) (Int.toNat (d.2.1.1.size : Int)))
  some ((), ((x3, ()), ())))
  else none)
  else (
  some ((), ((d.2.1.1, ()), ())))
def c_internal_stringslite_TrimPrefix : List Nat := []
def L_internal_stringslite_TrimPrefix (_ : Nat) : Pts po_internal_stringslite_TrimPrefix.den := []
def E_internal_stringslite_TrimPrefix : Env := (E0.add 41 (typedSem pi_internal_stringslite_HasPrefix po_internal_stringslite_HasPrefix g_internal_stringslite_HasPrefix))
theorem q_internal_stringslite_TrimPrefix_m (k : Nat) (d : Unit × ((ByteArray × Unit) × ((ByteArray × Unit) × Unit))) : evCode E_internal_stringslite_TrimPrefix (tab (L_internal_stringslite_TrimPrefix k)) c_internal_stringslite_TrimPrefix (bodyOf Tryd.f37) 0 (finK E_internal_stringslite_TrimPrefix po_internal_stringslite_TrimPrefix [.tmp 4]) (startSt pi_internal_stringslite_TrimPrefix 13 d) = f_internal_stringslite_TrimPrefix_m () d := by kernel_rfl
def g_internal_stringslite_TrimPrefix (d : Unit × ((ByteArray × Unit) × ((ByteArray × Unit) × Unit))) : Option (Unit × ((ByteArray × Unit) × Unit)) := f_internal_stringslite_TrimPrefix_m () d
theorem ok_internal_stringslite_TrimPrefix : FnOk Tryd.prog ET0 37 pi_internal_stringslite_TrimPrefix po_internal_stringslite_TrimPrefix g_internal_stringslite_TrimPrefix :=
  fn_of_body (E := E_internal_stringslite_TrimPrefix) (envOk_add e0_ok (typed_ok ok_internal_stringslite_HasPrefix)) (fn := Tryd.f37) Tryd.func37 (by kernel_rfl) (by kernel_rfl) [.tmp 4] (by kernel_rfl) (by kernel_rfl) (by decide) rfl c_internal_stringslite_TrimPrefix L_internal_stringslite_TrimPrefix
    (by intro x hx; cases hx) (by intro k x hx; cases hx) (fun d out h => ⟨0, (q_internal_stringslite_TrimPrefix_m 0 d).trans h⟩)

/- strings.TrimPrefix -/
@[reducible] def pi_strings_TrimPrefix : PSh := ⟨[], [.mk false [.v .str], .mk false [.v .str]]⟩
@[reducible] def po_strings_TrimPrefix : PSh := ⟨[], [.mk false [.v .str]]⟩
def f_strings_TrimPrefix_m (T : Unit) (d : Unit × ((ByteArray × Unit) × ((ByteArray × Unit) × Unit))) : Option (Unit × ((ByteArray × Unit) × Unit)) :=
  (g_internal_stringslite_TrimPrefix ((), ((d.2.1.1, ()), ((d.2.2.1.1, ()), ())))).bind fun x1 =>
  some ((), ((x1.2.1.1, ()), ()))
def c_strings_TrimPrefix : List Nat := []
def L_strings_TrimPrefix (_ : Nat) : Pts po_strings_TrimPrefix.den := []
def E_strings_TrimPrefix : Env := (E0.add 37 (typedSem pi_internal_stringslite_TrimPrefix po_internal_stringslite_TrimPrefix g_internal_stringslite_TrimPrefix))
theorem q_strings_TrimPrefix_m (k : Nat) (d : Unit × ((ByteArray × Unit) × ((ByteArray × Unit) × Unit))) : evCode E_strings_TrimPrefix (tab (L_strings_TrimPrefix k)) c_strings_TrimPrefix (bodyOf Tryd.f22) 0 (finK E_strings_TrimPrefix po_strings_TrimPrefix [.tmp 4]) (startSt pi_strings_TrimPrefix 8 d) = f_strings_TrimPrefix_m () d := by kernel_rfl
def g_strings_TrimPrefix (d : Unit × ((ByteArray × Unit) × ((ByteArray × Unit) × Unit))) : Option (Unit × ((ByteArray × Unit) × Unit)) := f_strings_TrimPrefix_m () d
theorem ok_strings_TrimPrefix : FnOk Tryd.prog ET0 22 pi_strings_TrimPrefix po_strings_TrimPrefix g_strings_TrimPrefix :=
  fn_of_body (E := E_strings_TrimPrefix) (envOk_add e0_ok (typed_ok ok_internal_stringslite_TrimPrefix)) (fn := Tryd.f22) Tryd.func22 (by kernel_rfl) (by kernel_rfl) [.tmp 4] (by kernel_rfl) (by kernel_rfl) (by decide) rfl c_strings_TrimPrefix L_strings_TrimPrefix
    (by intro x hx; cases hx) (by intro k x hx; cases hx) (fun d out h => ⟨0, (q_strings_TrimPrefix_m 0 d).trans h⟩)

/- horologe/figures.Signed -/
@[reducible] def pi_figures_Signed : PSh := ⟨[], [.mk false [.v .str], .mk false [.v (.int .i64)]]⟩
@[reducible] def po_figures_Signed : PSh := ⟨[], [.mk false [.v (.int .i64)], .mk false [.v .err]]⟩
def f_figures_Signed_m (T : Unit) (d : Unit × ((ByteArray × Unit) × ((Int × Unit) × Unit))) : Option (Unit × ((Int × Unit) × (((Option Int) × Unit) × Unit))) :=
  (g_strings_CutPrefix ((), ((d.2.1.1, ()), (((⟨#[45]⟩ : ByteArray), ()), ())))).bind fun x1 =>
  bif x1.2.2.1.1 then (
  let x2 : Int := (iadd .u64 (9223372036854775807 : Int) (1 : Int))
  (g_figures_whole ((), ((x1.2.1.1, ()), (((1 : Int), ()), ((d.2.2.1.1, ()), ((x2, ()), ())))))).bind fun x3 =>
  let x4 : Bool := (!x3.2.2.1.1.isNone)
  bif x4 then (
  some ((), (((0 : Int), ()), ((x3.2.2.1.1, ()), ()))))
  else (
  bif x1.2.2.1.1 then (
  let x5 : Int := (ineg .u64 x3.2.1.1)
  let x6 : Int := (iconv .i64 x5)
  some ((), ((x6, ()), (((none : Option Int), ()), ()))))
  else (
  let x7 : Int := (iconv .i64 x3.2.1.1)
  some ((), ((x7, ()), (((none : Option Int), ()), ()))))))
  else (
  (g_strings_TrimPrefix ((), ((d.2.1.1, ()), (((⟨#[43]⟩ : ByteArray), ()), ())))).bind fun x8 =>
  (g_figures_whole ((), ((x8.2.1.1, ()), (((1 : Int), ()), ((d.2.2.1.1, ()), (((9223372036854775807 : Int), ()), ())))))).bind fun x9 =>
  let x10 : Bool := (!x9.2.2.1.1.isNone)
  bif x10 then (
  some ((), (((0 : Int), ()), ((x9.2.2.1.1, ()), ()))))
  else (
  bif x1.2.2.1.1 then (
  let x11 : Int := (ineg .u64 x9.2.1.1)
  let x12 : Int := (iconv .i64 x11)
  some ((), ((x12, ()), (((none : Option Int), ()), ()))))
  else (
  let x13 : Int := (iconv .i64 x9.2.1.1)
  some ((), ((x13, ()), (((none : Option Int), ()), ()))))))
def c_figures_Signed : List Nat := []
def L_figures_Signed (_ : Nat) : Pts po_figures_Signed.den := []
def E_figures_Signed : Env := (((E0.add 21 (typedSem pi_strings_CutPrefix po_strings_CutPrefix g_strings_CutPrefix)).add 22 (typedSem pi_strings_TrimPrefix po_strings_TrimPrefix g_strings_TrimPrefix)).add 23 (typedSem pi_figures_whole po_figures_whole g_figures_whole))
theorem q_figures_Signed_m (k : Nat) (d : Unit × ((ByteArray × Unit) × ((Int × Unit) × Unit))) : evCode E_figures_Signed (tab (L_figures_Signed k)) c_figures_Signed (bodyOf Tryd.f14) 0 (finK E_figures_Signed po_figures_Signed [.tmp 4, .tmp 5]) (startSt pi_figures_Signed 39 d) = f_figures_Signed_m () d := by kernel_rfl
def g_figures_Signed (d : Unit × ((ByteArray × Unit) × ((Int × Unit) × Unit))) : Option (Unit × ((Int × Unit) × (((Option Int) × Unit) × Unit))) := f_figures_Signed_m () d
theorem ok_figures_Signed : FnOk Tryd.prog ET0 14 pi_figures_Signed po_figures_Signed g_figures_Signed :=
  fn_of_body (E := E_figures_Signed) (envOk_add (envOk_add (envOk_add e0_ok (typed_ok ok_strings_CutPrefix)) (typed_ok ok_strings_TrimPrefix)) (typed_ok ok_figures_whole)) (fn := Tryd.f14) Tryd.func14 (by kernel_rfl) (by kernel_rfl) [.tmp 4, .tmp 5] (by kernel_rfl) (by kernel_rfl) (by decide) rfl c_figures_Signed L_figures_Signed
    (by intro x hx; cases hx) (by intro k x hx; cases hx) (fun d out h => ⟨0, (q_figures_Signed_m 0 d).trans h⟩)

/- horologe/horologelaw02.FiguresBack -/
@[reducible] def pi_law02_FiguresBack : PSh := ⟨[], [.mk false [.v (.int .i64)], .mk false [.v (.int .i64)], .mk false [.v (.int .i64)]]⟩
@[reducible] def po_law02_FiguresBack : PSh := ⟨[], [.mk false [.v .bool]]⟩
def f_law02_FiguresBack_m (T : Unit) (d : Unit × ((Int × Unit) × ((Int × Unit) × ((Int × Unit) × Unit)))) : Option (Unit × ((Bool × Unit) × Unit)) :=
  (g_law02_alive ((), ())).bind fun x1 =>
  let x2 : Bool := (!x1.2.1.1)
  bif x2 then (
  some ((), ((false, ()), ())))
  else (
  (g_figures_Put ((), ((d.2.1.1, ()), ((d.2.2.1.1, ()), ())))).bind fun x3 =>
  bif x3.2.2.1.1.isNone then (
  (g_figures_Signed ((), ((x3.2.1.1, ()), (((20 : Int), ()), ())))).bind fun x4 =>
  let x5 : Bool := (!x4.2.2.1.1.isNone)
  bif x5 then (
  some ((), ((false, ()), ())))
  else (
  let x6 : Bool := (x4.2.1.1 != d.2.1.1)
  bif x6 then (
  some ((), ((false, ()), ())))
  else (
  (g_figures_PutFraction ((), ((d.2.2.2.1.1, ()), (((9 : Int), ()), ())))).bind fun x7 =>
  (g_figures_Short ((), ((d.2.2.2.1.1, ()), ()))).bind fun x8 =>
  let x9 : Bool := (!x7.2.2.1.1.isNone)
  bif x9 then (
  let x10 : Bool := (decide (d.2.2.2.1.1 < (0 : Int)))
  bif x10 then (
  let x11 : Bool := (!x7.2.2.1.1.isNone)
  bif x11 then (
  let x12 : Bool := (!x8.2.2.1.1.isNone)
  some ((), ((x12, ()), ())))
  else (
  some ((), ((false, ()), ()))))
  else (
  let x13 : Bool := (decide (d.2.2.2.1.1 > (999999999 : Int)))
  bif x13 then (
  let x14 : Bool := (!x7.2.2.1.1.isNone)
  bif x14 then (
  let x15 : Bool := (!x8.2.2.1.1.isNone)
  some ((), ((x15, ()), ())))
  else (
  some ((), ((false, ()), ()))))
  else (
  some ((), ((false, ()), ())))))
  else (
  let x16 : Bool := (!x8.2.2.1.1.isNone)
  bif x16 then (
  let x17 : Bool := (decide (d.2.2.2.1.1 < (0 : Int)))
  bif x17 then (
  let x18 : Bool := (!x7.2.2.1.1.isNone)
  bif x18 then (
  let x19 : Bool := (!x8.2.2.1.1.isNone)
  some ((), ((x19, ()), ())))
  else (
  some ((), ((false, ()), ()))))
  else (
  let x20 : Bool := (decide (d.2.2.2.1.1 > (999999999 : Int)))
  bif x20 then (
  let x21 : Bool := (!x7.2.2.1.1.isNone)
  bif x21 then (
  let x22 : Bool := (!x8.2.2.1.1.isNone)
  some ((), ((x22, ()), ())))
  else (
  some ((), ((false, ()), ()))))
  else (
  some ((), ((false, ()), ())))))
  else (
  (g_figures_Fraction ((), ((x7.2.1.1, ()), ()))).bind fun x23 =>
  let x24 : Bool := (!x23.2.2.1.1.isNone)
  bif x24 then (
  some ((), ((false, ()), ())))
  else (
  let x25 : Bool := (x23.2.1.1 != d.2.2.2.1.1)
  bif x25 then (
  some ((), ((false, ()), ())))
  else (
  (g_figures_Fraction ((), ((x8.2.1.1, ()), ()))).bind fun x26 =>
  let x27 : Bool := (x26.2.1.1 == d.2.2.2.1.1)
  bif x27 then (
  let x28 : Bool := (!(x8.2.1.1.toList == (⟨#[]⟩ : ByteArray).toList))
  let x29 : Bool := (x26.2.2.1.1.isNone == x28)
  some ((), ((x29, ()), ())))
  else (
  some ((), ((false, ()), ()))))))))))
  else (
  (g_figures_PutFraction ((), ((d.2.2.2.1.1, ()), (((9 : Int), ()), ())))).bind fun x30 =>
  (g_figures_Short ((), ((d.2.2.2.1.1, ()), ()))).bind fun x31 =>
  let x32 : Bool := (!x30.2.2.1.1.isNone)
  bif x32 then (
  let x33 : Bool := (decide (d.2.2.2.1.1 < (0 : Int)))
  bif x33 then (
  let x34 : Bool := (!x30.2.2.1.1.isNone)
  bif x34 then (
  let x35 : Bool := (!x31.2.2.1.1.isNone)
  some ((), ((x35, ()), ())))
  else (
  some ((), ((false, ()), ()))))
  else (
  let x36 : Bool := (decide (d.2.2.2.1.1 > (999999999 : Int)))
  bif x36 then (
  let x37 : Bool := (!x30.2.2.1.1.isNone)
  bif x37 then (
  let x38 : Bool := (!x31.2.2.1.1.isNone)
  some ((), ((x38, ()), ())))
  else (
  some ((), ((false, ()), ()))))
  else (
  some ((), ((false, ()), ())))))
  else (
  let x39 : Bool := (!x31.2.2.1.1.isNone)
  bif x39 then (
  let x40 : Bool := (decide (d.2.2.2.1.1 < (0 : Int)))
  bif x40 then (
  let x41 : Bool := (!x30.2.2.1.1.isNone)
  bif x41 then (
  let x42 : Bool := (!x31.2.2.1.1.isNone)
  some ((), ((x42, ()), ())))
  else (
  some ((), ((false, ()), ()))))
  else (
  let x43 : Bool := (decide (d.2.2.2.1.1 > (999999999 : Int)))
  bif x43 then (
  let x44 : Bool := (!x30.2.2.1.1.isNone)
  bif x44 then (
  let x45 : Bool := (!x31.2.2.1.1.isNone)
  some ((), ((x45, ()), ())))
  else (
  some ((), ((false, ()), ()))))
  else (
  some ((), ((false, ()), ())))))
  else (
  (g_figures_Fraction ((), ((x30.2.1.1, ()), ()))).bind fun x46 =>
  let x47 : Bool := (!x46.2.2.1.1.isNone)
  bif x47 then (
  some ((), ((false, ()), ())))
  else (
  let x48 : Bool := (x46.2.1.1 != d.2.2.2.1.1)
  bif x48 then (
  some ((), ((false, ()), ())))
  else (
  (g_figures_Fraction ((), ((x31.2.1.1, ()), ()))).bind fun x49 =>
  let x50 : Bool := (x49.2.1.1 == d.2.2.2.1.1)
  bif x50 then (
  let x51 : Bool := (!(x31.2.1.1.toList == (⟨#[]⟩ : ByteArray).toList))
  let x52 : Bool := (x49.2.2.1.1.isNone == x51)
  some ((), ((x52, ()), ())))
  else (
  some ((), ((false, ()), ())))))))))
def c_law02_FiguresBack : List Nat := []
def L_law02_FiguresBack (_ : Nat) : Pts po_law02_FiguresBack.den := []
def E_law02_FiguresBack : Env := ((((((E0.add 5 (typedSem pi_law02_alive po_law02_alive g_law02_alive)).add 6 (typedSem pi_figures_Fraction po_figures_Fraction g_figures_Fraction)).add 9 (typedSem pi_figures_PutFraction po_figures_PutFraction g_figures_PutFraction)).add 10 (typedSem pi_figures_Short po_figures_Short g_figures_Short)).add 13 (typedSem pi_figures_Put po_figures_Put g_figures_Put)).add 14 (typedSem pi_figures_Signed po_figures_Signed g_figures_Signed))
theorem q_law02_FiguresBack_m (k : Nat) (d : Unit × ((Int × Unit) × ((Int × Unit) × ((Int × Unit) × Unit)))) : evCode E_law02_FiguresBack (tab (L_law02_FiguresBack k)) c_law02_FiguresBack (bodyOf Tryd.f4) 0 (finK E_law02_FiguresBack po_law02_FiguresBack [.tmp 6]) (startSt pi_law02_FiguresBack 94 d) = f_law02_FiguresBack_m () d := by kernel_rfl
def g_law02_FiguresBack (d : Unit × ((Int × Unit) × ((Int × Unit) × ((Int × Unit) × Unit)))) : Option (Unit × ((Bool × Unit) × Unit)) := f_law02_FiguresBack_m () d
theorem ok_law02_FiguresBack : FnOk Tryd.prog ET0 4 pi_law02_FiguresBack po_law02_FiguresBack g_law02_FiguresBack :=
  fn_of_body (E := E_law02_FiguresBack) (envOk_add (envOk_add (envOk_add (envOk_add (envOk_add (envOk_add e0_ok (typed_ok ok_law02_alive)) (typed_ok ok_figures_Fraction)) (typed_ok ok_figures_PutFraction)) (typed_ok ok_figures_Short)) (typed_ok ok_figures_Put)) (typed_ok ok_figures_Signed)) (fn := Tryd.f4) Tryd.func4 (by kernel_rfl) (by kernel_rfl) [.tmp 6] (by kernel_rfl) (by kernel_rfl) (by decide) rfl c_law02_FiguresBack L_law02_FiguresBack
    (by intro x hx; cases hx) (by intro k x hx; cases hx) (fun d out h => ⟨0, (q_law02_FiguresBack_m 0 d).trans h⟩)
end
end Go.Proofs.YtfdppbfefplikaaDoor.Ev
