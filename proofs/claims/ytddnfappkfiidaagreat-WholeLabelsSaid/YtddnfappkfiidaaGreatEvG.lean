/- Printed by wip/tools/evgen.py. -/
import Derived.Test.YtddnfappkfiidaaGreatEvGa
import Derived.Test.YtddnfappkfiidaaGreatEvE
import Derived.Test.YtddnfappkfiidaaGreatProg
import Derived.KernelRfl
set_option maxRecDepth 100000
set_option maxHeartbeats 2000000
set_option linter.unusedVariables false
namespace Go.Proofs.YtddnfappkfiidaaGreat.Ev
open Go
noncomputable section

@[reducible] def pi_slices_IndexFunc_leap_Row_leap_Row_leap_New_2 : PSh := ⟨[], [.mk false [.v (.sl (.pair (.int .i64) (.int .i64)))], .mk false [.fn 71 []]]⟩
@[reducible] def po_slices_IndexFunc_leap_Row_leap_Row_leap_New_2 : PSh := ⟨[], [.mk false [vI]]⟩
@[reducible] def TT_slices_IndexFunc_leap_Row_leap_Row_leap_New_2 : Type := (((Unit × (((List (Int × Int)) × Unit) × (Unit × ((Int × Unit) × ((Int × Unit) × Unit))))) → Option (Unit × ((Int × Unit) × Unit))) × Unit)
@[reducible] def sh_slices_IndexFunc_leap_Row_leap_Row_leap_New_2_3 : PSh := ⟨[], [.mk false [.v (.sl (.pair (.int .i64) (.int .i64)))], .mk false [.fn 71 []], .any, .any, .any, .any, .any, .mk false [vI], .mk false [vI], .any, .any, .any, .any, .any, .any, .any, .any, .any, .any]⟩
def f_slices_IndexFunc_leap_Row_leap_Row_leap_New_2_p3 (T : TT_slices_IndexFunc_leap_Row_leap_Row_leap_New_2) (d : Unit × (((List (Int × Int)) × Unit) × (Unit × ((Int × Unit) × ((Int × Unit) × Unit))))) : Option (Unit × ((Int × Unit) × Unit)) :=
  let x2 : Bool := (decide (d.2.2.2.2.1.1 < d.2.2.2.1.1))
  bif x2 then (
  bif decide ((0 : Int) ≤ d.2.2.2.2.1.1) && decide (d.2.2.2.2.1.1 < (d.2.1.1.length : Int)) then (
  (g_leap_New_2 ((), (((gd_i64_i64 d.2.1.1 d.2.2.2.2.1.1).1, ((gd_i64_i64 d.2.1.1 d.2.2.2.2.1.1).2, ())), ()))).bind fun x3 =>
  bif x3.2.1.1 then (
  some ((), d.2.2.2.2))
  else (
  let x4 : Int := (iadd .i64 d.2.2.2.2.1.1 (1 : Int))
  (T.1 ((), (d.2.1, ((), (d.2.2.2.1, ((x4, ()), ()))))))))
  else none)
  else (
  some ((), (((-1 : Int), ()), ())))
def f_slices_IndexFunc_leap_Row_leap_Row_leap_New_2_t : Nat → TT_slices_IndexFunc_leap_Row_leap_Row_leap_New_2
  | 0 => (fun _ => none, ())
  | k + 1 => (f_slices_IndexFunc_leap_Row_leap_Row_leap_New_2_p3 (f_slices_IndexFunc_leap_Row_leap_Row_leap_New_2_t k), ())
theorem t_slices_IndexFunc_leap_Row_leap_Row_leap_New_2 (k : Nat) : f_slices_IndexFunc_leap_Row_leap_Row_leap_New_2_t (k + 1) = (f_slices_IndexFunc_leap_Row_leap_Row_leap_New_2_p3 (f_slices_IndexFunc_leap_Row_leap_Row_leap_New_2_t k), ()) := rfl
def f_slices_IndexFunc_leap_Row_leap_Row_leap_New_2_m (T : TT_slices_IndexFunc_leap_Row_leap_Row_leap_New_2) (d : Unit × (((List (Int × Int)) × Unit) × (Unit × Unit))) : Option (Unit × ((Int × Unit) × Unit)) :=
  let x1 : Int := (d.2.1.1.length : Int)
  (T.1 ((), (d.2.1, ((), ((x1, ()), (((0 : Int), ()), ()))))))
def c_slices_IndexFunc_leap_Row_leap_Row_leap_New_2 : List Nat := []
def L_slices_IndexFunc_leap_Row_leap_Row_leap_New_2 (k : Nat) : Pts po_slices_IndexFunc_leap_Row_leap_Row_leap_New_2.den := [(3, ⟨sh_slices_IndexFunc_leap_Row_leap_Row_leap_New_2_3, (f_slices_IndexFunc_leap_Row_leap_Row_leap_New_2_t k).1⟩)]
def R_slices_IndexFunc_leap_Row_leap_Row_leap_New_2 (_ : Nat) : PtsR po_slices_IndexFunc_leap_Row_leap_Row_leap_New_2.den := []
def E_slices_IndexFunc_leap_Row_leap_Row_leap_New_2 : Env := (E0.add 71 (typedSem pi_leap_New_2 po_leap_New_2 g_leap_New_2))
theorem q_slices_IndexFunc_leap_Row_leap_Row_leap_New_2_3 (k : Nat) (d : sh_slices_IndexFunc_leap_Row_leap_Row_leap_New_2_3.den) : evAt E_slices_IndexFunc_leap_Row_leap_Row_leap_New_2 (tb (L_slices_IndexFunc_leap_Row_leap_Row_leap_New_2 k) (R_slices_IndexFunc_leap_Row_leap_Row_leap_New_2 k)) c_slices_IndexFunc_leap_Row_leap_Row_leap_New_2 3 (bodyOf Tryz.f150) 0 (finK E_slices_IndexFunc_leap_Row_leap_Row_leap_New_2 po_slices_IndexFunc_leap_Row_leap_Row_leap_New_2 [.tmp 4]) (ptSt sh_slices_IndexFunc_leap_Row_leap_Row_leap_New_2_3 d) = f_slices_IndexFunc_leap_Row_leap_Row_leap_New_2_p3 (f_slices_IndexFunc_leap_Row_leap_Row_leap_New_2_t k) d := by kernel_rfl
theorem q_slices_IndexFunc_leap_Row_leap_Row_leap_New_2_m (k : Nat) (d : pi_slices_IndexFunc_leap_Row_leap_Row_leap_New_2.den) : evCode E_slices_IndexFunc_leap_Row_leap_Row_leap_New_2 (tb (L_slices_IndexFunc_leap_Row_leap_Row_leap_New_2 k) (R_slices_IndexFunc_leap_Row_leap_Row_leap_New_2 k)) c_slices_IndexFunc_leap_Row_leap_Row_leap_New_2 (bodyOf Tryz.f150) 0 (finK E_slices_IndexFunc_leap_Row_leap_Row_leap_New_2 po_slices_IndexFunc_leap_Row_leap_Row_leap_New_2 [.tmp 4]) (startSt pi_slices_IndexFunc_leap_Row_leap_Row_leap_New_2 19 d) = f_slices_IndexFunc_leap_Row_leap_Row_leap_New_2_m (f_slices_IndexFunc_leap_Row_leap_Row_leap_New_2_t k) d := by kernel_rfl
def g_slices_IndexFunc_leap_Row_leap_Row_leap_New_2 (d : Unit × (((List (Int × Int)) × Unit) × (Unit × Unit))) : Option (Unit × ((Int × Unit) × Unit)) := lim fun k => f_slices_IndexFunc_leap_Row_leap_Row_leap_New_2_m (f_slices_IndexFunc_leap_Row_leap_Row_leap_New_2_t k) d
theorem ok_slices_IndexFunc_leap_Row_leap_Row_leap_New_2 : FnOk Tryz.prog ET0 150 pi_slices_IndexFunc_leap_Row_leap_Row_leap_New_2 po_slices_IndexFunc_leap_Row_leap_Row_leap_New_2 g_slices_IndexFunc_leap_Row_leap_Row_leap_New_2 :=
  fn_of_body (E := E_slices_IndexFunc_leap_Row_leap_Row_leap_New_2) (envOk_add e0_ok (typed_ok ok_leap_New_2)) (fn := Tryz.f150) Tryz.func150 (by kernel_rfl) (by kernel_rfl) [.tmp 4] (by kernel_rfl) (by kernel_rfl) (by decide) rfl c_slices_IndexFunc_leap_Row_leap_Row_leap_New_2 L_slices_IndexFunc_leap_Row_leap_Row_leap_New_2 R_slices_IndexFunc_leap_Row_leap_Row_leap_New_2
    (by intro x hx d; simp only [L_slices_IndexFunc_leap_Row_leap_Row_leap_New_2, List.mem_cons, List.not_mem_nil, or_false] at hx; subst hx; rfl)
    (by intro k x hx d out h; simp only [L_slices_IndexFunc_leap_Row_leap_Row_leap_New_2, List.mem_cons, List.not_mem_nil, or_false] at hx; subst hx; exact (q_slices_IndexFunc_leap_Row_leap_Row_leap_New_2_3 k d).trans h)
    (by intro x hx; cases hx)
    (by intro k x hx; cases hx)
    (by intro d out h; obtain ⟨k, hk⟩ := lim_some h; exact ⟨k, (q_slices_IndexFunc_leap_Row_leap_Row_leap_New_2_m k d).trans hk⟩)

@[reducible] def pi_slices_ContainsFunc_leap_Row_leap_Row_leap_New_2 : PSh := ⟨[], [.mk false [.v (.sl (.pair (.int .i64) (.int .i64)))], .mk false [.fn 71 []]]⟩
@[reducible] def po_slices_ContainsFunc_leap_Row_leap_Row_leap_New_2 : PSh := ⟨[], [.mk false [vB]]⟩
def f_slices_ContainsFunc_leap_Row_leap_Row_leap_New_2_m (T : Unit) (d : Unit × (((List (Int × Int)) × Unit) × (Unit × Unit))) : Option (Unit × ((Bool × Unit) × Unit)) :=
  (g_slices_IndexFunc_leap_Row_leap_Row_leap_New_2 ((), (d.2.1, ((), ())))).bind fun x1 =>
  let x2 : Bool := (decide (x1.2.1.1 ≥ (0 : Int)))
  some ((), ((x2, ()), ()))
def g_slices_ContainsFunc_leap_Row_leap_Row_leap_New_2 (d : Unit × (((List (Int × Int)) × Unit) × (Unit × Unit))) : Option (Unit × ((Bool × Unit) × Unit)) := f_slices_ContainsFunc_leap_Row_leap_Row_leap_New_2_m () d
theorem ok_slices_ContainsFunc_leap_Row_leap_Row_leap_New_2 : FnOk Tryz.prog ET0 73 pi_slices_ContainsFunc_leap_Row_leap_Row_leap_New_2 po_slices_ContainsFunc_leap_Row_leap_Row_leap_New_2 g_slices_ContainsFunc_leap_Row_leap_Row_leap_New_2 :=
  fn0 (E := (E0.add 150 (typedSem pi_slices_IndexFunc_leap_Row_leap_Row_leap_New_2 po_slices_IndexFunc_leap_Row_leap_Row_leap_New_2 g_slices_IndexFunc_leap_Row_leap_Row_leap_New_2))) (envOk_add e0_ok (typed_ok ok_slices_IndexFunc_leap_Row_leap_Row_leap_New_2)) (fn := Tryz.f73) Tryz.func73 (by kernel_rfl) (by kernel_rfl) [.tmp 4] (by kernel_rfl) rfl rfl rfl [] fun d => by kernel_rfl

@[reducible] def pi_leap_New : PSh := ⟨[], [.mk false [.v (.sl (.pair (.int .i64) (.int .i64)))], .mk false [vI], .mk false [vI]]⟩
@[reducible] def po_leap_New : PSh := ⟨[], [.mk false [.v (.nptr (.pair (.sl (.pair (.int .i64) (.int .i64))) (.pair (.int .i64) (.int .i64))))], .mk false [vE]]⟩
def f_leap_New_m (T : Unit) (d : Unit × (((List (Int × Int)) × Unit) × ((Int × Unit) × ((Int × Unit) × Unit)))) : Option (Unit × (((Option ((List (Int × Int)) × (Int × Int))) × Unit) × (((Option Int) × Unit) × Unit))) :=
  let x1 : Int := (d.2.1.1.length : Int)
  let x2 : Bool := (x1 == (0 : Int))
  bif x2 then (
  let x3 : (Option Int) := (some (8 : Int))
  some ((), (((none : Option ((List (Int × Int)) × (Int × Int))), ()), ((x3, ()), ()))))
  else (
  let x4 : Int := (d.2.1.1.length : Int)
  let x5 : Bool := (decide (x4 > (256 : Int)))
  bif x5 then (
  let x6 : (Option Int) := (some (3 : Int))
  some ((), (((none : Option ((List (Int × Int)) × (Int × Int))), ()), ((x6, ()), ()))))
  else (
  (g_slices_ContainsFunc_leap_Row_leap_Row_leap_New_1 ((), (d.2.1, ((), ())))).bind fun x7 =>
  bif x7.2.1.1 then (
  let x8 : (Option Int) := (some (13 : Int))
  some ((), (((none : Option ((List (Int × Int)) × (Int × Int))), ()), ((x8, ()), ()))))
  else (
  (g_slices_ContainsFunc_leap_Row_leap_Row_leap_New_2 ((), (d.2.1, ((), ())))).bind fun x9 =>
  bif x9.2.1.1 then (
  let x10 : (Option Int) := (some (1 : Int))
  some ((), (((none : Option ((List (Int × Int)) × (Int × Int))), ()), ((x10, ()), ()))))
  else (
  (g_leap_time ((), (d.2.2.1, ()))).bind fun x11 =>
  let x12 : Bool := (!x11.2.1.1)
  bif x12 then (
  let x13 : (Option Int) := (some (1 : Int))
  some ((), (((none : Option ((List (Int × Int)) × (Int × Int))), ()), ((x13, ()), ()))))
  else (
  (g_leap_time ((), d.2.2.2)).bind fun x14 =>
  let x15 : Bool := (!x14.2.1.1)
  bif x15 then (
  let x16 : (Option Int) := (some (1 : Int))
  some ((), (((none : Option ((List (Int × Int)) × (Int × Int))), ()), ((x16, ()), ()))))
  else (
  (g_leap_rise ((), (d.2.1, ()))).bind fun x17 =>
  let x18 : Bool := (!x17.2.1.1)
  bif x18 then (
  let x19 : (Option Int) := (some (6 : Int))
  some ((), (((none : Option ((List (Int × Int)) × (Int × Int))), ()), ((x19, ()), ()))))
  else (
  (g_slices_Clone_leap_Row_leap_Row ((), (d.2.1, ()))).bind fun x20 =>
  some ((), (((some (x20.1.1, (d.2.2.1.1, d.2.2.2.1.1))), ()), (((none : Option Int), ()), ()))))))))))
def g_leap_New (d : Unit × (((List (Int × Int)) × Unit) × ((Int × Unit) × ((Int × Unit) × Unit)))) : Option (Unit × (((Option ((List (Int × Int)) × (Int × Int))) × Unit) × (((Option Int) × Unit) × Unit))) := f_leap_New_m () d
theorem ok_leap_New : FnOk Tryz.prog ET0 18 pi_leap_New po_leap_New g_leap_New :=
  fn0 (E := ((((E0.add 73 (altSem pi_slices_ContainsFunc_leap_Row_leap_Row_leap_New_1 (typedSem pi_slices_ContainsFunc_leap_Row_leap_Row_leap_New_1 po_slices_ContainsFunc_leap_Row_leap_Row_leap_New_1 g_slices_ContainsFunc_leap_Row_leap_Row_leap_New_1) (typedSem pi_slices_ContainsFunc_leap_Row_leap_Row_leap_New_2 po_slices_ContainsFunc_leap_Row_leap_Row_leap_New_2 g_slices_ContainsFunc_leap_Row_leap_Row_leap_New_2))).add 74 (typedSem pi_leap_time po_leap_time g_leap_time)).add 75 (typedSem pi_leap_rise po_leap_rise g_leap_rise)).add 76 (typedSem pi_slices_Clone_leap_Row_leap_Row po_slices_Clone_leap_Row_leap_Row g_slices_Clone_leap_Row_leap_Row))) (envOk_add (envOk_add (envOk_add (envOk_add e0_ok (alt_ok (typed_ok ok_slices_ContainsFunc_leap_Row_leap_Row_leap_New_1) (typed_ok ok_slices_ContainsFunc_leap_Row_leap_Row_leap_New_2))) (typed_ok ok_leap_time)) (typed_ok ok_leap_rise)) (typed_ok ok_slices_Clone_leap_Row_leap_Row)) (fn := Tryz.f18) Tryz.func18 (by kernel_rfl) (by kernel_rfl) [.tmp 6, .tmp 7] (by kernel_rfl) rfl rfl rfl [] fun d => by kernel_rfl

@[reducible] def pi_iso_right : PSh := ⟨[], [.mk true [vI, vI, vI, vI, vI, vI, vI, vI]]⟩
@[reducible] def po_iso_right : PSh := ⟨[], [.mk false [vE]]⟩
def f_iso_right_m (T : Unit) (d : Unit × ((Int × (Int × (Int × (Int × (Int × (Int × (Int × (Int × Unit)))))))) × Unit)) : Option (Unit × (((Option Int) × Unit) × Unit)) :=
  (g_label_Check ((), d.2)).bind fun x1 =>
  let x2 : Bool := (!x1.2.1.1.isNone)
  bif x2 then (
  some ((), x1.2))
  else (
  let x3 : Bool := (decide (d.2.1.1 < (0 : Int)))
  bif x3 then (
  let x4 : (Option Int) := (some (13 : Int))
  some ((), ((x4, ()), ())))
  else (
  some ((), (((none : Option Int), ()), ()))))
def g_iso_right (d : Unit × ((Int × (Int × (Int × (Int × (Int × (Int × (Int × (Int × Unit)))))))) × Unit)) : Option (Unit × (((Option Int) × Unit) × Unit)) := f_iso_right_m () d
theorem ok_iso_right : FnOk Tryz.prog ET0 78 pi_iso_right po_iso_right g_iso_right :=
  fn0 (E := (E0.add 51 (typedSem pi_label_Check po_label_Check g_label_Check))) (envOk_add e0_ok (typed_ok ok_label_Check)) (fn := Tryz.f78) Tryz.func78 (by kernel_rfl) (by kernel_rfl) [.tmp 2] (by kernel_rfl) rfl rfl rfl [] fun d => by kernel_rfl

@[reducible] def pi_figures_fits : PSh := ⟨[], [.mk false [vI]]⟩
@[reducible] def po_figures_fits : PSh := ⟨[], [.mk false [vB]]⟩
def f_figures_fits_m (T : Unit) (d : Unit × ((Int × Unit) × Unit)) : Option (Unit × ((Bool × Unit) × Unit)) :=
  let x1 : Bool := (decide (d.2.1.1 ≥ (0 : Int)))
  bif x1 then (
  let x2 : Bool := (decide (d.2.1.1 < (1000000000 : Int)))
  some ((), ((x2, ()), ())))
  else (
  some ((), ((false, ()), ())))
def g_figures_fits (d : Unit × ((Int × Unit) × Unit)) : Option (Unit × ((Bool × Unit) × Unit)) := f_figures_fits_m () d
theorem ok_figures_fits : FnOk Tryz.prog ET0 153 pi_figures_fits po_figures_fits g_figures_fits :=
  fn0 (E := E0) e0_ok (fn := Tryz.f153) Tryz.func153 (by kernel_rfl) (by kernel_rfl) [.tmp 2] (by kernel_rfl) rfl rfl rfl [] fun d => by kernel_rfl

@[reducible] def pi_figures_PutFraction : PSh := ⟨[], [.mk false [vI], .mk false [vI]]⟩
@[reducible] def po_figures_PutFraction : PSh := ⟨[], [.mk false [vS], .mk false [vE]]⟩
def f_figures_PutFraction_m (T : Unit) (d : Unit × ((Int × Unit) × ((Int × Unit) × Unit))) : Option (Unit × ((ByteArray × Unit) × (((Option Int) × Unit) × Unit))) :=
  (g_figures_fits ((), (d.2.1, ()))).bind fun x1 =>
  let x2 : Bool := (!x1.2.1.1)
  bif x2 then (
  let x3 : (Option Int) := (some (1 : Int))
  some ((), (((⟨#[]⟩ : ByteArray), ()), ((x3, ()), ()))))
  else (
  let x4 : Bool := (decide (d.2.2.1.1 < (0 : Int)))
  bif x4 then (
  let x5 : (Option Int) := (some (1 : Int))
  some ((), (((⟨#[]⟩ : ByteArray), ()), ((x5, ()), ()))))
  else (
  let x6 : Bool := (decide (d.2.2.1.1 > (9 : Int)))
  bif x6 then (
  let x7 : (Option Int) := (some (1 : Int))
  some ((), (((⟨#[]⟩ : ByteArray), ()), ((x7, ()), ()))))
  else (
  let x8 : Int := (iconv .u64 d.2.1.1)
  (g_figures_raw ((), ((x8, ()), (((9 : Int), ()), ())))).bind fun x9 =>
  bif decide ((0 : Int) ≤ (0 : Int)) && decide ((0 : Int) ≤ d.2.2.1.1) && decide (d.2.2.1.1 ≤ (x9.2.1.1.size : Int)) then (
  let x10 : ByteArray := (x9.2.1.1.extract (Int.toNat (0 : Int)) (Int.toNat d.2.2.1.1))
  some ((), ((x10, ()), (((none : Option Int), ()), ()))))
  else none)))
def g_figures_PutFraction (d : Unit × ((Int × Unit) × ((Int × Unit) × Unit))) : Option (Unit × ((ByteArray × Unit) × (((Option Int) × Unit) × Unit))) := f_figures_PutFraction_m () d
theorem ok_figures_PutFraction : FnOk Tryz.prog ET0 79 pi_figures_PutFraction po_figures_PutFraction g_figures_PutFraction :=
  fn0 (E := ((E0.add 153 (typedSem pi_figures_fits po_figures_fits g_figures_fits)).add 154 (typedSem pi_figures_raw po_figures_raw g_figures_raw))) (envOk_add (envOk_add e0_ok (typed_ok ok_figures_fits)) (typed_ok ok_figures_raw)) (fn := Tryz.f79) Tryz.func79 (by kernel_rfl) (by kernel_rfl) [.tmp 4, .tmp 5] (by kernel_rfl) rfl rfl rfl [] fun d => by kernel_rfl

@[reducible] def pi_iso_writer_put_io : PSh := ⟨[.var 199 [.osl 1, vE], .row 5 (.int .u8)], [.mk false [.ref 0 0], .mk false [vS], .mk false [vI], .mk false [vI]]⟩
@[reducible] def po_iso_writer_put_io : PSh := ⟨[.var 199 [.osl 1, vE], .row 5 (.int .u8)], [.mk false [.ref 0 0]]⟩
def f_iso_writer_put_io_m (T : Unit) (d : (((Option Int) × Unit) × ((List Int) × Unit)) × (Unit × ((ByteArray × Unit) × ((Int × Unit) × ((Int × Unit) × Unit))))) : Option ((((Option Int) × Unit) × ((List Int) × Unit)) × (Unit × Unit)) :=
  (g_figures_Put ((), d.2.2.2)).bind fun x1 =>
  let x2 : Bool := (!x1.2.2.1.1.isNone)
  bif x2 then (
  bif decide (((d.1.2.1.length + (bytesOf d.2.2.1.1).length) * 1 : Nat) ≤ 140737488355328) && decide (d.1.2.1.length + (bytesOf d.2.2.1.1).length ≤ 9223372036854775807) then (
  let x3 : (List Int) := (d.1.2.1 ++ (bytesOf d.2.2.1.1))
  bif decide (((x3.length + (bytesOf x1.2.1.1).length) * 1 : Nat) ≤ 140737488355328) && decide (x3.length + (bytesOf x1.2.1.1).length ≤ 9223372036854775807) then (
  let x4 : (List Int) := (x3 ++ (bytesOf x1.2.1.1))
  some ((x1.2.2.1, (x4, ())), ((), ())))
  else none)
  else none)
  else (
  bif decide (((d.1.2.1.length + (bytesOf d.2.2.1.1).length) * 1 : Nat) ≤ 140737488355328) && decide (d.1.2.1.length + (bytesOf d.2.2.1.1).length ≤ 9223372036854775807) then (
  let x5 : (List Int) := (d.1.2.1 ++ (bytesOf d.2.2.1.1))
  bif decide (((x5.length + (bytesOf x1.2.1.1).length) * 1 : Nat) ≤ 140737488355328) && decide (x5.length + (bytesOf x1.2.1.1).length ≤ 9223372036854775807) then (
  let x6 : (List Int) := (x5 ++ (bytesOf x1.2.1.1))
  some ((d.1.1, (x6, ())), ((), ())))
  else none)
  else none)
def c_iso_writer_put_io : List Nat := []
def L_iso_writer_put_io (_ : Nat) : Pts po_iso_writer_put_io.den := []
def R_iso_writer_put_io (_ : Nat) : PtsR po_iso_writer_put_io.den := []
def E_iso_writer_put_io : Env := ((E0.add 86 (typedSem pi_figures_Put po_figures_Put g_figures_Put)).kp [0])
theorem q_iso_writer_put_io_m (k : Nat) (d : pi_iso_writer_put_io.den) : evCode E_iso_writer_put_io (tb (L_iso_writer_put_io k) (R_iso_writer_put_io k)) c_iso_writer_put_io (bodyOf Tryz.f156) 0 (finKio E_iso_writer_put_io po_iso_writer_put_io [] [(0, none)]) (startSt pi_iso_writer_put_io 33 d) = f_iso_writer_put_io_m () d := by kernel_rfl
def g_iso_writer_put_io (d : (((Option Int) × Unit) × ((List Int) × Unit)) × (Unit × ((ByteArray × Unit) × ((Int × Unit) × ((Int × Unit) × Unit))))) : Option ((((Option Int) × Unit) × ((List Int) × Unit)) × (Unit × Unit)) := f_iso_writer_put_io_m () d
theorem ok_iso_writer_put_io : FnIo Tryz.prog ET0 156 pi_iso_writer_put_io po_iso_writer_put_io 0 [(0, 0, none)] g_iso_writer_put_io :=
  fn_of_bodyIo (E := E_iso_writer_put_io) (envOk_kp (envOk_add e0_ok (typed_ok ok_figures_Put))) (fn := Tryz.f156) Tryz.func156 (by kernel_rfl) (by kernel_rfl) [] [(0, none)] [(0, 0, none)] (by kernel_rfl) (by kernel_rfl) (by kernel_rfl) (by kernel_rfl) (by decide) (by decide) c_iso_writer_put_io L_iso_writer_put_io R_iso_writer_put_io
    (by intro x hx; cases hx) (by intro k x hx; cases hx) (by intro x hx; cases hx) (by intro k x hx; cases hx) (fun d out h => ⟨0, (q_iso_writer_put_io_m 0 d).trans h⟩)

@[reducible] def pi_iso_writer_date_io : PSh := ⟨[.var 199 [.osl 1, vE], .row 5 (.int .u8)], [.mk false [.ref 0 0], .mk false [vI], .mk false [vI], .mk false [vI]]⟩
@[reducible] def po_iso_writer_date_io : PSh := ⟨[.var 199 [.osl 1, vE], .row 5 (.int .u8)], [.mk false [.ref 0 0]]⟩
def f_iso_writer_date_io_m (T : Unit) (d : (((Option Int) × Unit) × ((List Int) × Unit)) × (Unit × ((Int × Unit) × ((Int × Unit) × ((Int × Unit) × Unit))))) : Option ((((Option Int) × Unit) × ((List Int) × Unit)) × (Unit × Unit)) :=
  (g_iso_writer_put_io (d.1, ((), (((⟨#[]⟩ : ByteArray), ()), (d.2.2.1, (((4 : Int), ()), ())))))).bind fun x1 =>
  (g_iso_writer_put_io (x1.1, ((), (((⟨#[45]⟩ : ByteArray), ()), (d.2.2.2.1, (((2 : Int), ()), ())))))).bind fun x2 =>
  (g_iso_writer_put_io (x2.1, ((), (((⟨#[45]⟩ : ByteArray), ()), (d.2.2.2.2.1, (((2 : Int), ()), ())))))).bind fun x3 =>
  some (x3.1, ((), ()))
def c_iso_writer_date_io : List Nat := []
def L_iso_writer_date_io (_ : Nat) : Pts po_iso_writer_date_io.den := []
def R_iso_writer_date_io (_ : Nat) : PtsR po_iso_writer_date_io.den := []
def E_iso_writer_date_io : Env := ((E0.add 156 (ioSem pi_iso_writer_put_io po_iso_writer_put_io 0 [(0, 0, none)] g_iso_writer_put_io)).kp [0])
theorem q_iso_writer_date_io_m (k : Nat) (d : pi_iso_writer_date_io.den) : evCode E_iso_writer_date_io (tb (L_iso_writer_date_io k) (R_iso_writer_date_io k)) c_iso_writer_date_io (bodyOf Tryz.f155) 0 (finKio E_iso_writer_date_io po_iso_writer_date_io [] [(0, none)]) (startSt pi_iso_writer_date_io 17 d) = f_iso_writer_date_io_m () d := by kernel_rfl
def g_iso_writer_date_io (d : (((Option Int) × Unit) × ((List Int) × Unit)) × (Unit × ((Int × Unit) × ((Int × Unit) × ((Int × Unit) × Unit))))) : Option ((((Option Int) × Unit) × ((List Int) × Unit)) × (Unit × Unit)) := f_iso_writer_date_io_m () d
theorem ok_iso_writer_date_io : FnIo Tryz.prog ET0 155 pi_iso_writer_date_io po_iso_writer_date_io 0 [(0, 0, none)] g_iso_writer_date_io :=
  fn_of_bodyIo (E := E_iso_writer_date_io) (envOk_kp (envOk_add e0_ok (io_ok ok_iso_writer_put_io))) (fn := Tryz.f155) Tryz.func155 (by kernel_rfl) (by kernel_rfl) [] [(0, none)] [(0, 0, none)] (by kernel_rfl) (by kernel_rfl) (by kernel_rfl) (by kernel_rfl) (by decide) (by decide) c_iso_writer_date_io L_iso_writer_date_io R_iso_writer_date_io
    (by intro x hx; cases hx) (by intro k x hx; cases hx) (by intro x hx; cases hx) (by intro k x hx; cases hx) (fun d out h => ⟨0, (q_iso_writer_date_io_m 0 d).trans h⟩)

@[reducible] def pi_iso_text : PSh := ⟨[], [.mk true [vI, vI, vI, vI, vI, vI, vI, vI], .mk false [vS]]⟩
@[reducible] def po_iso_text : PSh := ⟨[], [.mk false [vS], .mk false [vE]]⟩
def f_iso_text_m (T : Unit) (d : Unit × ((Int × (Int × (Int × (Int × (Int × (Int × (Int × (Int × Unit)))))))) × ((ByteArray × Unit) × Unit))) : Option (Unit × ((ByteArray × Unit) × (((Option Int) × Unit) × Unit))) :=
  (g_iso_writer_date_io ((((none : Option Int), ()), (([] : List Int), ())), ((), ((d.2.1.1, ()), ((d.2.1.2.1, ()), ((d.2.1.2.2.1, ()), ())))))).bind fun x1 =>
  (g_iso_writer_put_io (x1.1, ((), (((⟨#[84]⟩ : ByteArray), ()), ((d.2.1.2.2.2.1, ()), (((2 : Int), ()), ())))))).bind fun x2 =>
  (g_iso_writer_put_io (x2.1, ((), (((⟨#[58]⟩ : ByteArray), ()), ((d.2.1.2.2.2.2.1, ()), (((2 : Int), ()), ())))))).bind fun x3 =>
  (g_iso_writer_put_io (x3.1, ((), (((⟨#[58]⟩ : ByteArray), ()), ((d.2.1.2.2.2.2.2.1, ()), (((2 : Int), ()), ())))))).bind fun x4 =>
  let x5 : Bool := (!(d.2.2.1.1.toList == (⟨#[]⟩ : ByteArray).toList))
  bif x5 then (
  let x6 : (List Int) := ([(46 : Int)] : List Int)
  bif decide (((x4.1.2.1.length + x6.length) * 1 : Nat) ≤ 140737488355328) && decide (x4.1.2.1.length + x6.length ≤ 9223372036854775807) then (
  let x7 : (List Int) := (x4.1.2.1 ++ x6)
  bif decide (((x7.length + (bytesOf d.2.2.1.1).length) * 1 : Nat) ≤ 140737488355328) && decide (x7.length + (bytesOf d.2.2.1.1).length ≤ 9223372036854775807) then (
  let x8 : (List Int) := (x7 ++ (bytesOf d.2.2.1.1))
  let x9 : Bool := (d.2.1.2.2.2.2.2.2.2.1 == (0 : Int))
  bif x9 then (
  let x10 : ByteArray := (strOf x8)
  bif fitsS x10 (⟨#[90]⟩ : ByteArray) then (
  let x11 : ByteArray := (x10 ++ (⟨#[90]⟩ : ByteArray))
  some ((), ((x11, ()), (x4.1.1, ()))))
  else none)
  else (
  let x12 : Bool := (decide (d.2.1.2.2.2.2.2.2.2.1 < (0 : Int)))
  bif x12 then (
  let x13 : Int := (ineg .i64 d.2.1.2.2.2.2.2.2.2.1)
  let x14 : Int := (iquo .i64 x13 (60 : Int))
  (g_iso_writer_put_io ((x4.1.1, (x8, ())), ((), (((⟨#[45]⟩ : ByteArray), ()), ((x14, ()), (((2 : Int), ()), ())))))).bind fun x15 =>
  let x16 : Int := (ineg .i64 d.2.1.2.2.2.2.2.2.2.1)
  let x17 : Int := (Int.tmod x16 (60 : Int))
  (g_iso_writer_put_io (x15.1, ((), (((⟨#[58]⟩ : ByteArray), ()), ((x17, ()), (((2 : Int), ()), ())))))).bind fun x18 =>
  let x19 : ByteArray := (strOf x18.1.2.1)
  some ((), ((x19, ()), (x18.1.1, ()))))
  else (
  let x20 : Int := (iquo .i64 d.2.1.2.2.2.2.2.2.2.1 (60 : Int))
  (g_iso_writer_put_io ((x4.1.1, (x8, ())), ((), (((⟨#[43]⟩ : ByteArray), ()), ((x20, ()), (((2 : Int), ()), ())))))).bind fun x21 =>
  let x22 : Int := (Int.tmod d.2.1.2.2.2.2.2.2.2.1 (60 : Int))
  (g_iso_writer_put_io (x21.1, ((), (((⟨#[58]⟩ : ByteArray), ()), ((x22, ()), (((2 : Int), ()), ())))))).bind fun x23 =>
  let x24 : ByteArray := (strOf x23.1.2.1)
  some ((), ((x24, ()), (x23.1.1, ()))))))
  else none)
  else none)
  else (
  let x25 : Bool := (d.2.1.2.2.2.2.2.2.2.1 == (0 : Int))
  bif x25 then (
  let x26 : ByteArray := (strOf x4.1.2.1)
  bif fitsS x26 (⟨#[90]⟩ : ByteArray) then (
  let x27 : ByteArray := (x26 ++ (⟨#[90]⟩ : ByteArray))
  some ((), ((x27, ()), (x4.1.1, ()))))
  else none)
  else (
  let x28 : Bool := (decide (d.2.1.2.2.2.2.2.2.2.1 < (0 : Int)))
  bif x28 then (
  let x29 : Int := (ineg .i64 d.2.1.2.2.2.2.2.2.2.1)
  let x30 : Int := (iquo .i64 x29 (60 : Int))
  (g_iso_writer_put_io (x4.1, ((), (((⟨#[45]⟩ : ByteArray), ()), ((x30, ()), (((2 : Int), ()), ())))))).bind fun x31 =>
  let x32 : Int := (ineg .i64 d.2.1.2.2.2.2.2.2.2.1)
  let x33 : Int := (Int.tmod x32 (60 : Int))
  (g_iso_writer_put_io (x31.1, ((), (((⟨#[58]⟩ : ByteArray), ()), ((x33, ()), (((2 : Int), ()), ())))))).bind fun x34 =>
  let x35 : ByteArray := (strOf x34.1.2.1)
  some ((), ((x35, ()), (x34.1.1, ()))))
  else (
  let x36 : Int := (iquo .i64 d.2.1.2.2.2.2.2.2.2.1 (60 : Int))
  (g_iso_writer_put_io (x4.1, ((), (((⟨#[43]⟩ : ByteArray), ()), ((x36, ()), (((2 : Int), ()), ())))))).bind fun x37 =>
  let x38 : Int := (Int.tmod d.2.1.2.2.2.2.2.2.2.1 (60 : Int))
  (g_iso_writer_put_io (x37.1, ((), (((⟨#[58]⟩ : ByteArray), ()), ((x38, ()), (((2 : Int), ()), ())))))).bind fun x39 =>
  let x40 : ByteArray := (strOf x39.1.2.1)
  some ((), ((x40, ()), (x39.1.1, ()))))))
def g_iso_text (d : Unit × ((Int × (Int × (Int × (Int × (Int × (Int × (Int × (Int × Unit)))))))) × ((ByteArray × Unit) × Unit))) : Option (Unit × ((ByteArray × Unit) × (((Option Int) × Unit) × Unit))) := f_iso_text_m () d
theorem ok_iso_text : FnOk Tryz.prog ET0 80 pi_iso_text po_iso_text g_iso_text :=
  fn0 (E := ((E0.add 155 (ioSem pi_iso_writer_date_io po_iso_writer_date_io 0 [(0, 0, none)] g_iso_writer_date_io)).add 156 (ioSem pi_iso_writer_put_io po_iso_writer_put_io 0 [(0, 0, none)] g_iso_writer_put_io))) (envOk_add (envOk_add e0_ok (io_ok ok_iso_writer_date_io)) (io_ok ok_iso_writer_put_io)) (fn := Tryz.f80) Tryz.func80 (by kernel_rfl) (by kernel_rfl) [.tmp 4, .tmp 5] (by kernel_rfl) rfl rfl rfl [] fun d => by kernel_rfl

@[reducible] def pi_iso_Put : PSh := ⟨[], [.mk true [vI, vI, vI, vI, vI, vI, vI, vI], .mk false [vI]]⟩
@[reducible] def po_iso_Put : PSh := ⟨[], [.mk false [vS], .mk false [vE]]⟩
def f_iso_Put_m (T : Unit) (d : Unit × ((Int × (Int × (Int × (Int × (Int × (Int × (Int × (Int × Unit)))))))) × ((Int × Unit) × Unit))) : Option (Unit × ((ByteArray × Unit) × (((Option Int) × Unit) × Unit))) :=
  (g_iso_right ((), (d.2.1, ()))).bind fun x1 =>
  let x2 : Bool := (!x1.2.1.1.isNone)
  bif x2 then (
  some ((), (((⟨#[]⟩ : ByteArray), ()), x1.2)))
  else (
  (g_figures_PutFraction ((), ((d.2.1.2.2.2.2.2.2.1, ()), d.2.2))).bind fun x3 =>
  let x4 : Bool := (!x3.2.2.1.1.isNone)
  bif x4 then (
  some ((), (((⟨#[]⟩ : ByteArray), ()), x3.2.2)))
  else (
  (g_iso_text ((), (d.2.1, (x3.2.1, ())))).bind fun x5 =>
  some ((), x5.2)))
def g_iso_Put (d : Unit × ((Int × (Int × (Int × (Int × (Int × (Int × (Int × (Int × Unit)))))))) × ((Int × Unit) × Unit))) : Option (Unit × ((ByteArray × Unit) × (((Option Int) × Unit) × Unit))) := f_iso_Put_m () d
theorem ok_iso_Put : FnOk Tryz.prog ET0 20 pi_iso_Put po_iso_Put g_iso_Put :=
  fn0 (E := (((E0.add 78 (typedSem pi_iso_right po_iso_right g_iso_right)).add 79 (typedSem pi_figures_PutFraction po_figures_PutFraction g_figures_PutFraction)).add 80 (typedSem pi_iso_text po_iso_text g_iso_text))) (envOk_add (envOk_add (envOk_add e0_ok (typed_ok ok_iso_right)) (typed_ok ok_figures_PutFraction)) (typed_ok ok_iso_text)) (fn := Tryz.f20) Tryz.func20 (by kernel_rfl) (by kernel_rfl) [.tmp 4, .tmp 5] (by kernel_rfl) rfl rfl rfl [] fun d => by kernel_rfl

@[reducible] def pi_iso_ParseBy : PSh := ⟨[], [.mk false [.v (.nptr (.pair (.sl (.pair (.int .i64) (.int .i64))) (.pair (.int .i64) (.int .i64))))], .mk false [vS]]⟩
@[reducible] def po_iso_ParseBy : PSh := ⟨[], [.mk true [vI, vI, vI, vI, vI, vI, vI, vI], .mk false [vE]]⟩
def f_iso_ParseBy_m (T : Unit) (d : Unit × (((Option ((List (Int × Int)) × (Int × Int))) × Unit) × ((ByteArray × Unit) × Unit))) : Option (Unit × ((Int × (Int × (Int × (Int × (Int × (Int × (Int × (Int × Unit)))))))) × (((Option Int) × Unit) × Unit))) :=
  (g_iso_Parse ((), d.2.2)).bind fun x1 =>
  let x2 : Bool := (!x1.2.2.1.1.isNone)
  bif x2 then (
  some ((), (((0 : Int), ((0 : Int), ((0 : Int), ((0 : Int), ((0 : Int), ((0 : Int), ((0 : Int), ((0 : Int), ())))))))), x1.2.2)))
  else (
  (g_scale_Listed ((), (d.2.1, (x1.2.1, ())))).bind fun x3 =>
  let x4 : Bool := (!x3.2.1.1.isNone)
  bif x4 then (
  some ((), (((0 : Int), ((0 : Int), ((0 : Int), ((0 : Int), ((0 : Int), ((0 : Int), ((0 : Int), ((0 : Int), ())))))))), x3.2)))
  else (
  some ((), (x1.2.1, (((none : Option Int), ()), ())))))
def g_iso_ParseBy (d : Unit × (((Option ((List (Int × Int)) × (Int × Int))) × Unit) × ((ByteArray × Unit) × Unit))) : Option (Unit × ((Int × (Int × (Int × (Int × (Int × (Int × (Int × (Int × Unit)))))))) × (((Option Int) × Unit) × Unit))) := f_iso_ParseBy_m () d
theorem ok_iso_ParseBy : FnOk Tryz.prog ET0 21 pi_iso_ParseBy po_iso_ParseBy g_iso_ParseBy :=
  fn0 (E := ((E0.add 19 (typedSem pi_scale_Listed po_scale_Listed g_scale_Listed)).add 67 (typedSem pi_iso_Parse po_iso_Parse g_iso_Parse))) (envOk_add (envOk_add e0_ok (typed_ok ok_scale_Listed)) (typed_ok ok_iso_Parse)) (fn := Tryz.f21) Tryz.func21 (by kernel_rfl) (by kernel_rfl) [.cell 4 28, .tmp 5] (by kernel_rfl) rfl rfl rfl [] fun d => by kernel_rfl

@[reducible] def pi_mail_Weekday : PSh := ⟨[], [.mk false [vI]]⟩
@[reducible] def po_mail_Weekday : PSh := ⟨[], [.mk false [vS]]⟩
def f_mail_Weekday_m (T : Unit) (d : Unit × ((Int × Unit) × Unit)) : Option (Unit × ((ByteArray × Unit) × Unit)) :=
  (g_mail_name ((), (((⟨#[77, 111, 110, 84, 117, 101, 87, 101, 100, 84, 104, 117, 70, 114, 105, 83, 97, 116, 83, 117, 110]⟩ : ByteArray), ()), d.2))).bind fun x1 =>
  some ((), x1.2)
def g_mail_Weekday (d : Unit × ((Int × Unit) × Unit)) : Option (Unit × ((ByteArray × Unit) × Unit)) := f_mail_Weekday_m () d
theorem ok_mail_Weekday : FnOk Tryz.prog ET0 82 pi_mail_Weekday po_mail_Weekday g_mail_Weekday :=
  fn0 (E := (E0.add 157 (typedSem pi_mail_name po_mail_name g_mail_name))) (envOk_add e0_ok (typed_ok ok_mail_name)) (fn := Tryz.f82) Tryz.func82 (by kernel_rfl) (by kernel_rfl) [.tmp 2] (by kernel_rfl) rfl rfl rfl [] fun d => by kernel_rfl

@[reducible] def pi_mail_Month : PSh := ⟨[], [.mk false [vI]]⟩
@[reducible] def po_mail_Month : PSh := ⟨[], [.mk false [vS]]⟩
def f_mail_Month_m (T : Unit) (d : Unit × ((Int × Unit) × Unit)) : Option (Unit × ((ByteArray × Unit) × Unit)) :=
  (g_mail_name ((), (((⟨#[74, 97, 110, 70, 101, 98, 77, 97, 114, 65, 112, 114, 77, 97, 121, 74, 117, 110, 74, 117, 108, 65, 117, 103, 83, 101, 112, 79, 99, 116, 78, 111, 118, 68, 101, 99]⟩ : ByteArray), ()), d.2))).bind fun x1 =>
  some ((), x1.2)
def g_mail_Month (d : Unit × ((Int × Unit) × Unit)) : Option (Unit × ((ByteArray × Unit) × Unit)) := f_mail_Month_m () d
theorem ok_mail_Month : FnOk Tryz.prog ET0 83 pi_mail_Month po_mail_Month g_mail_Month :=
  fn0 (E := (E0.add 157 (typedSem pi_mail_name po_mail_name g_mail_name))) (envOk_add e0_ok (typed_ok ok_mail_name)) (fn := Tryz.f83) Tryz.func83 (by kernel_rfl) (by kernel_rfl) [.tmp 2] (by kernel_rfl) rfl rfl rfl [] fun d => by kernel_rfl

@[reducible] def pi_mail_writer_put_io : PSh := ⟨[.var 142 [.osl 1, vE], .row 5 (.int .u8)], [.mk false [.ref 0 0], .mk false [vS], .mk false [vI], .mk false [vI]]⟩
@[reducible] def po_mail_writer_put_io : PSh := ⟨[.var 142 [.osl 1, vE], .row 5 (.int .u8)], [.mk false [.ref 0 0]]⟩
def f_mail_writer_put_io_m (T : Unit) (d : (((Option Int) × Unit) × ((List Int) × Unit)) × (Unit × ((ByteArray × Unit) × ((Int × Unit) × ((Int × Unit) × Unit))))) : Option ((((Option Int) × Unit) × ((List Int) × Unit)) × (Unit × Unit)) :=
  (g_figures_Put ((), d.2.2.2)).bind fun x1 =>
  let x2 : Bool := (!x1.2.2.1.1.isNone)
  bif x2 then (
  bif decide (((d.1.2.1.length + (bytesOf d.2.2.1.1).length) * 1 : Nat) ≤ 140737488355328) && decide (d.1.2.1.length + (bytesOf d.2.2.1.1).length ≤ 9223372036854775807) then (
  let x3 : (List Int) := (d.1.2.1 ++ (bytesOf d.2.2.1.1))
  bif decide (((x3.length + (bytesOf x1.2.1.1).length) * 1 : Nat) ≤ 140737488355328) && decide (x3.length + (bytesOf x1.2.1.1).length ≤ 9223372036854775807) then (
  let x4 : (List Int) := (x3 ++ (bytesOf x1.2.1.1))
  some ((x1.2.2.1, (x4, ())), ((), ())))
  else none)
  else none)
  else (
  bif decide (((d.1.2.1.length + (bytesOf d.2.2.1.1).length) * 1 : Nat) ≤ 140737488355328) && decide (d.1.2.1.length + (bytesOf d.2.2.1.1).length ≤ 9223372036854775807) then (
  let x5 : (List Int) := (d.1.2.1 ++ (bytesOf d.2.2.1.1))
  bif decide (((x5.length + (bytesOf x1.2.1.1).length) * 1 : Nat) ≤ 140737488355328) && decide (x5.length + (bytesOf x1.2.1.1).length ≤ 9223372036854775807) then (
  let x6 : (List Int) := (x5 ++ (bytesOf x1.2.1.1))
  some ((d.1.1, (x6, ())), ((), ())))
  else none)
  else none)
def c_mail_writer_put_io : List Nat := []
def L_mail_writer_put_io (_ : Nat) : Pts po_mail_writer_put_io.den := []
def R_mail_writer_put_io (_ : Nat) : PtsR po_mail_writer_put_io.den := []
def E_mail_writer_put_io : Env := ((E0.add 86 (typedSem pi_figures_Put po_figures_Put g_figures_Put)).kp [0])
theorem q_mail_writer_put_io_m (k : Nat) (d : pi_mail_writer_put_io.den) : evCode E_mail_writer_put_io (tb (L_mail_writer_put_io k) (R_mail_writer_put_io k)) c_mail_writer_put_io (bodyOf Tryz.f81) 0 (finKio E_mail_writer_put_io po_mail_writer_put_io [] [(0, none)]) (startSt pi_mail_writer_put_io 33 d) = f_mail_writer_put_io_m () d := by kernel_rfl
def g_mail_writer_put_io (d : (((Option Int) × Unit) × ((List Int) × Unit)) × (Unit × ((ByteArray × Unit) × ((Int × Unit) × ((Int × Unit) × Unit))))) : Option ((((Option Int) × Unit) × ((List Int) × Unit)) × (Unit × Unit)) := f_mail_writer_put_io_m () d
theorem ok_mail_writer_put_io : FnIo Tryz.prog ET0 81 pi_mail_writer_put_io po_mail_writer_put_io 0 [(0, 0, none)] g_mail_writer_put_io :=
  fn_of_bodyIo (E := E_mail_writer_put_io) (envOk_kp (envOk_add e0_ok (typed_ok ok_figures_Put))) (fn := Tryz.f81) Tryz.func81 (by kernel_rfl) (by kernel_rfl) [] [(0, none)] [(0, 0, none)] (by kernel_rfl) (by kernel_rfl) (by kernel_rfl) (by kernel_rfl) (by decide) (by decide) c_mail_writer_put_io L_mail_writer_put_io R_mail_writer_put_io
    (by intro x hx; cases hx) (by intro k x hx; cases hx) (by intro x hx; cases hx) (by intro k x hx; cases hx) (fun d out h => ⟨0, (q_mail_writer_put_io_m 0 d).trans h⟩)

@[reducible] def pi_mail_Put : PSh := ⟨[], [.mk true [vI, vI, vI, vI, vI, vI, vI, vI]]⟩
@[reducible] def po_mail_Put : PSh := ⟨[], [.mk false [vS], .mk false [vE]]⟩
def f_mail_Put_m (T : Unit) (d : Unit × ((Int × (Int × (Int × (Int × (Int × (Int × (Int × (Int × Unit)))))))) × Unit)) : Option (Unit × ((ByteArray × Unit) × (((Option Int) × Unit) × Unit))) :=
  (g_label_Check ((), d.2)).bind fun x1 =>
  let x2 : Bool := (!x1.2.1.1.isNone)
  bif x2 then (
  some ((), (((⟨#[]⟩ : ByteArray), ()), x1.2)))
  else (
  let x3 : Bool := (decide (d.2.1.1 < (1900 : Int)))
  bif x3 then (
  let x4 : (Option Int) := (some (13 : Int))
  some ((), (((⟨#[]⟩ : ByteArray), ()), ((x4, ()), ()))))
  else (
  let x5 : Bool := (d.2.1.2.2.2.2.2.2.1 != (0 : Int))
  bif x5 then (
  let x6 : (Option Int) := (some (1 : Int))
  some ((), (((⟨#[]⟩ : ByteArray), ()), ((x6, ()), ()))))
  else (
  (g_mail_weekday ((), d.2)).bind fun x7 =>
  let x8 : Bool := (!x7.2.2.1.1.isNone)
  bif x8 then (
  some ((), (((⟨#[]⟩ : ByteArray), ()), x7.2.2)))
  else (
  (g_mail_Weekday ((), (x7.2.1, ()))).bind fun x9 =>
  bif fitsS x9.2.1.1 (⟨#[44, 32]⟩ : ByteArray) then (
  let x10 : ByteArray := (x9.2.1.1 ++ (⟨#[44, 32]⟩ : ByteArray))
  (g_mail_writer_put_io ((((none : Option Int), ()), (([] : List Int), ())), ((), ((x10, ()), ((d.2.1.2.2.1, ()), (((2 : Int), ()), ())))))).bind fun x11 =>
  (g_mail_Month ((), ((d.2.1.2.1, ()), ()))).bind fun x12 =>
  bif fitsS (⟨#[32]⟩ : ByteArray) x12.2.1.1 then (
  let x13 : ByteArray := ((⟨#[32]⟩ : ByteArray) ++ x12.2.1.1)
  bif fitsS x13 (⟨#[32]⟩ : ByteArray) then (
  let x14 : ByteArray := (x13 ++ (⟨#[32]⟩ : ByteArray))
  (g_mail_writer_put_io (x11.1, ((), ((x14, ()), ((d.2.1.1, ()), (((4 : Int), ()), ())))))).bind fun x15 =>
  (g_mail_writer_put_io (x15.1, ((), (((⟨#[32]⟩ : ByteArray), ()), ((d.2.1.2.2.2.1, ()), (((2 : Int), ()), ())))))).bind fun x16 =>
  (g_mail_writer_put_io (x16.1, ((), (((⟨#[58]⟩ : ByteArray), ()), ((d.2.1.2.2.2.2.1, ()), (((2 : Int), ()), ())))))).bind fun x17 =>
  (g_mail_writer_put_io (x17.1, ((), (((⟨#[58]⟩ : ByteArray), ()), ((d.2.1.2.2.2.2.2.1, ()), (((2 : Int), ()), ())))))).bind fun x18 =>
  let x19 : Bool := (decide (d.2.1.2.2.2.2.2.2.2.1 < (0 : Int)))
  bif x19 then (
  let x20 : Int := (ineg .i64 d.2.1.2.2.2.2.2.2.2.1)
  let x21 : Int := (iquo .i64 x20 (60 : Int))
  (g_mail_writer_put_io (x18.1, ((), (((⟨#[32, 45]⟩ : ByteArray), ()), ((x21, ()), (((2 : Int), ()), ())))))).bind fun x22 =>
  let x23 : Int := (Int.tmod x20 (60 : Int))
  (g_mail_writer_put_io (x22.1, ((), (((⟨#[]⟩ : ByteArray), ()), ((x23, ()), (((2 : Int), ()), ())))))).bind fun x24 =>
  let x25 : ByteArray := (strOf x24.1.2.1)
  some ((), ((x25, ()), (x24.1.1, ()))))
  else (
  let x26 : Int := (iquo .i64 d.2.1.2.2.2.2.2.2.2.1 (60 : Int))
  (g_mail_writer_put_io (x18.1, ((), (((⟨#[32, 43]⟩ : ByteArray), ()), ((x26, ()), (((2 : Int), ()), ())))))).bind fun x27 =>
  let x28 : Int := (Int.tmod d.2.1.2.2.2.2.2.2.2.1 (60 : Int))
  (g_mail_writer_put_io (x27.1, ((), (((⟨#[]⟩ : ByteArray), ()), ((x28, ()), (((2 : Int), ()), ())))))).bind fun x29 =>
  let x30 : ByteArray := (strOf x29.1.2.1)
  some ((), ((x30, ()), (x29.1.1, ())))))
  else none)
  else none)
  else none))))
def g_mail_Put (d : Unit × ((Int × (Int × (Int × (Int × (Int × (Int × (Int × (Int × Unit)))))))) × Unit)) : Option (Unit × ((ByteArray × Unit) × (((Option Int) × Unit) × Unit))) := f_mail_Put_m () d
theorem ok_mail_Put : FnOk Tryz.prog ET0 22 pi_mail_Put po_mail_Put g_mail_Put :=
  fn0 (E := (((((E0.add 51 (typedSem pi_label_Check po_label_Check g_label_Check)).add 52 (typedSem pi_mail_weekday po_mail_weekday g_mail_weekday)).add 81 (ioSem pi_mail_writer_put_io po_mail_writer_put_io 0 [(0, 0, none)] g_mail_writer_put_io)).add 82 (typedSem pi_mail_Weekday po_mail_Weekday g_mail_Weekday)).add 83 (typedSem pi_mail_Month po_mail_Month g_mail_Month))) (envOk_add (envOk_add (envOk_add (envOk_add (envOk_add e0_ok (typed_ok ok_label_Check)) (typed_ok ok_mail_weekday)) (io_ok ok_mail_writer_put_io)) (typed_ok ok_mail_Weekday)) (typed_ok ok_mail_Month)) (fn := Tryz.f22) Tryz.func22 (by kernel_rfl) (by kernel_rfl) [.tmp 2, .tmp 3] (by kernel_rfl) rfl rfl rfl [] fun d => by kernel_rfl

@[reducible] def pi_label_Clock : PSh := ⟨[], [.mk false [vI]]⟩
@[reducible] def po_label_Clock : PSh := ⟨[], [.mk false [vI], .mk false [vI], .mk false [vI], .mk false [vE]]⟩
def f_label_Clock_m (T : Unit) (d : Unit × ((Int × Unit) × Unit)) : Option (Unit × ((Int × Unit) × ((Int × Unit) × ((Int × Unit) × (((Option Int) × Unit) × Unit))))) :=
  (g_label_in ((), (d.2.1, (((86401 : Int), ()), ())))).bind fun x1 =>
  let x2 : Bool := (!x1.2.1.1)
  bif x2 then (
  let x3 : (Option Int) := (some (1 : Int))
  some ((), (((0 : Int), ()), (((0 : Int), ()), (((0 : Int), ()), ((x3, ()), ()))))))
  else (
  (g_label_clock ((), d.2)).bind fun x4 =>
  let x5 : Int := (iquo .i64 x4.2.1.1 (60 : Int))
  let x6 : Int := (Int.tmod x4.2.1.1 (60 : Int))
  some ((), ((x5, ()), ((x6, ()), (x4.2.2.1, (((none : Option Int), ()), ()))))))
def g_label_Clock (d : Unit × ((Int × Unit) × Unit)) : Option (Unit × ((Int × Unit) × ((Int × Unit) × ((Int × Unit) × (((Option Int) × Unit) × Unit))))) := f_label_Clock_m () d
theorem ok_label_Clock : FnOk Tryz.prog ET0 89 pi_label_Clock po_label_Clock g_label_Clock :=
  fn0 (E := ((E0.add 163 (typedSem pi_label_in po_label_in g_label_in)).add 164 (typedSem pi_label_clock po_label_clock g_label_clock))) (envOk_add (envOk_add e0_ok (typed_ok ok_label_in)) (typed_ok ok_label_clock)) (fn := Tryz.f89) Tryz.func89 (by kernel_rfl) (by kernel_rfl) [.tmp 2, .tmp 3, .tmp 4, .tmp 5] (by kernel_rfl) rfl rfl rfl [] fun d => by kernel_rfl

@[reducible] def pi_nist_mark : PSh := ⟨[], [.mk false [vB]]⟩
@[reducible] def po_nist_mark : PSh := ⟨[], [.mk false [vS]]⟩
def f_nist_mark_m (T : Unit) (d : Unit × ((Bool × Unit) × Unit)) : Option (Unit × ((ByteArray × Unit) × Unit)) :=
  bif d.2.1.1 then (
  some ((), (((⟨#[35]⟩ : ByteArray), ()), ())))
  else (
  some ((), (((⟨#[42]⟩ : ByteArray), ()), ())))
def g_nist_mark (d : Unit × ((Bool × Unit) × Unit)) : Option (Unit × ((ByteArray × Unit) × Unit)) := f_nist_mark_m () d
theorem ok_nist_mark : FnOk Tryz.prog ET0 94 pi_nist_mark po_nist_mark g_nist_mark :=
  fn0 (E := E0) e0_ok (fn := Tryz.f94) Tryz.func94 (by kernel_rfl) (by kernel_rfl) [.tmp 2] (by kernel_rfl) rfl rfl rfl [] fun d => by kernel_rfl

@[reducible] def pi_nist_writer_text_io : PSh := ⟨[.var 153 [.osl 1, vE], .row 5 (.int .u8)], [.mk false [.ref 0 0], .mk false [vS], .mk false [vE]]⟩
@[reducible] def po_nist_writer_text_io : PSh := ⟨[.var 153 [.osl 1, vE], .row 5 (.int .u8)], [.mk false [.ref 0 0]]⟩
def f_nist_writer_text_io_m (T : Unit) (d : (((Option Int) × Unit) × ((List Int) × Unit)) × (Unit × ((ByteArray × Unit) × (((Option Int) × Unit) × Unit)))) : Option ((((Option Int) × Unit) × ((List Int) × Unit)) × (Unit × Unit)) :=
  let x1 : Bool := (!d.2.2.2.1.1.isNone)
  bif x1 then (
  bif decide (((d.1.2.1.length + (bytesOf d.2.2.1.1).length) * 1 : Nat) ≤ 140737488355328) && decide (d.1.2.1.length + (bytesOf d.2.2.1.1).length ≤ 9223372036854775807) then (
  let x2 : (List Int) := (d.1.2.1 ++ (bytesOf d.2.2.1.1))
  some ((d.2.2.2.1, (x2, ())), ((), ())))
  else none)
  else (
  bif decide (((d.1.2.1.length + (bytesOf d.2.2.1.1).length) * 1 : Nat) ≤ 140737488355328) && decide (d.1.2.1.length + (bytesOf d.2.2.1.1).length ≤ 9223372036854775807) then (
  let x3 : (List Int) := (d.1.2.1 ++ (bytesOf d.2.2.1.1))
  some ((d.1.1, (x3, ())), ((), ())))
  else none)
def c_nist_writer_text_io : List Nat := []
def L_nist_writer_text_io (_ : Nat) : Pts po_nist_writer_text_io.den := []
def R_nist_writer_text_io (_ : Nat) : PtsR po_nist_writer_text_io.den := []
def E_nist_writer_text_io : Env := (E0.kp [0])
theorem q_nist_writer_text_io_m (k : Nat) (d : pi_nist_writer_text_io.den) : evCode E_nist_writer_text_io (tb (L_nist_writer_text_io k) (R_nist_writer_text_io k)) c_nist_writer_text_io (bodyOf Tryz.f90) 0 (finKio E_nist_writer_text_io po_nist_writer_text_io [] [(0, none)]) (startSt pi_nist_writer_text_io 21 d) = f_nist_writer_text_io_m () d := by kernel_rfl
def g_nist_writer_text_io (d : (((Option Int) × Unit) × ((List Int) × Unit)) × (Unit × ((ByteArray × Unit) × (((Option Int) × Unit) × Unit)))) : Option ((((Option Int) × Unit) × ((List Int) × Unit)) × (Unit × Unit)) := f_nist_writer_text_io_m () d
theorem ok_nist_writer_text_io : FnIo Tryz.prog ET0 90 pi_nist_writer_text_io po_nist_writer_text_io 0 [(0, 0, none)] g_nist_writer_text_io :=
  fn_of_bodyIo (E := E_nist_writer_text_io) (envOk_kp e0_ok) (fn := Tryz.f90) Tryz.func90 (by kernel_rfl) (by kernel_rfl) [] [(0, none)] [(0, 0, none)] (by kernel_rfl) (by kernel_rfl) (by kernel_rfl) (by kernel_rfl) (by decide) (by decide) c_nist_writer_text_io L_nist_writer_text_io R_nist_writer_text_io
    (by intro x hx; cases hx) (by intro k x hx; cases hx) (by intro x hx; cases hx) (by intro k x hx; cases hx) (fun d out h => ⟨0, (q_nist_writer_text_io_m 0 d).trans h⟩)

@[reducible] def pi_nist_writer_put_io : PSh := ⟨[.var 153 [.osl 1, vE], .row 5 (.int .u8)], [.mk false [.ref 0 0], .mk false [vS], .mk false [vI], .mk false [vI]]⟩
@[reducible] def po_nist_writer_put_io : PSh := ⟨[.var 153 [.osl 1, vE], .row 5 (.int .u8)], [.mk false [.ref 0 0]]⟩
def f_nist_writer_put_io_m (T : Unit) (d : (((Option Int) × Unit) × ((List Int) × Unit)) × (Unit × ((ByteArray × Unit) × ((Int × Unit) × ((Int × Unit) × Unit))))) : Option ((((Option Int) × Unit) × ((List Int) × Unit)) × (Unit × Unit)) :=
  (g_nist_writer_text_io (d.1, ((), (d.2.2.1, (((none : Option Int), ()), ()))))).bind fun x1 =>
  (g_figures_Put ((), d.2.2.2)).bind fun x2 =>
  (g_nist_writer_text_io (x1.1, ((), x2.2))).bind fun x3 =>
  some (x3.1, ((), ()))
def c_nist_writer_put_io : List Nat := []
def L_nist_writer_put_io (_ : Nat) : Pts po_nist_writer_put_io.den := []
def R_nist_writer_put_io (_ : Nat) : PtsR po_nist_writer_put_io.den := []
def E_nist_writer_put_io : Env := (((E0.add 86 (typedSem pi_figures_Put po_figures_Put g_figures_Put)).add 90 (ioSem pi_nist_writer_text_io po_nist_writer_text_io 0 [(0, 0, none)] g_nist_writer_text_io)).kp [0])
theorem q_nist_writer_put_io_m (k : Nat) (d : pi_nist_writer_put_io.den) : evCode E_nist_writer_put_io (tb (L_nist_writer_put_io k) (R_nist_writer_put_io k)) c_nist_writer_put_io (bodyOf Tryz.f91) 0 (finKio E_nist_writer_put_io po_nist_writer_put_io [] [(0, none)]) (startSt pi_nist_writer_put_io 18 d) = f_nist_writer_put_io_m () d := by kernel_rfl
def g_nist_writer_put_io (d : (((Option Int) × Unit) × ((List Int) × Unit)) × (Unit × ((ByteArray × Unit) × ((Int × Unit) × ((Int × Unit) × Unit))))) : Option ((((Option Int) × Unit) × ((List Int) × Unit)) × (Unit × Unit)) := f_nist_writer_put_io_m () d
theorem ok_nist_writer_put_io : FnIo Tryz.prog ET0 91 pi_nist_writer_put_io po_nist_writer_put_io 0 [(0, 0, none)] g_nist_writer_put_io :=
  fn_of_bodyIo (E := E_nist_writer_put_io) (envOk_kp (envOk_add (envOk_add e0_ok (typed_ok ok_figures_Put)) (io_ok ok_nist_writer_text_io))) (fn := Tryz.f91) Tryz.func91 (by kernel_rfl) (by kernel_rfl) [] [(0, none)] [(0, 0, none)] (by kernel_rfl) (by kernel_rfl) (by kernel_rfl) (by kernel_rfl) (by decide) (by decide) c_nist_writer_put_io L_nist_writer_put_io R_nist_writer_put_io
    (by intro x hx; cases hx) (by intro k x hx; cases hx) (by intro x hx; cases hx) (by intro k x hx; cases hx) (fun d out h => ⟨0, (q_nist_writer_put_io_m 0 d).trans h⟩)

@[reducible] def pi_nist_writer_advance_io : PSh := ⟨[.var 153 [.osl 1, vE], .row 5 (.int .u8)], [.mk false [.ref 0 0], .mk false [vI]]⟩
@[reducible] def po_nist_writer_advance_io : PSh := ⟨[.var 153 [.osl 1, vE], .row 5 (.int .u8)], [.mk false [.ref 0 0]]⟩
def f_nist_writer_advance_io_m (T : Unit) (d : (((Option Int) × Unit) × ((List Int) × Unit)) × (Unit × ((Int × Unit) × Unit))) : Option ((((Option Int) × Unit) × ((List Int) × Unit)) × (Unit × Unit)) :=
  let x1 : Int := (iquo .i64 d.2.2.1.1 (10 : Int))
  (g_figures_Put ((), ((x1, ()), (((1 : Int), ()), ())))).bind fun x2 =>
  let x3 : Int := (x2.2.1.1.size : Int)
  let x4 : Int := (isub .i64 (3 : Int) x3)
  let x5 : Int := (if (0 : Int) > x4 then (0 : Int) else x4)
  (g_strings_Repeat ((), (((⟨#[32]⟩ : ByteArray), ()), ((x5, ()), ())))).bind fun x6 =>
  bif fitsS x6.2.1.1 x2.2.1.1 then (
  let x7 : ByteArray := (x6.2.1.1 ++ x2.2.1.1)
  (g_nist_writer_text_io (d.1, ((), ((x7, ()), x2.2.2)))).bind fun x8 =>
  let x9 : Int := (Int.tmod d.2.2.1.1 (10 : Int))
  (g_nist_writer_put_io (x8.1, ((), (((⟨#[46]⟩ : ByteArray), ()), ((x9, ()), (((1 : Int), ()), ())))))).bind fun x10 =>
  some (x10.1, ((), ())))
  else none
def c_nist_writer_advance_io : List Nat := []
def L_nist_writer_advance_io (_ : Nat) : Pts po_nist_writer_advance_io.den := []
def R_nist_writer_advance_io (_ : Nat) : PtsR po_nist_writer_advance_io.den := []
def E_nist_writer_advance_io : Env := (((((E0.add 86 (typedSem pi_figures_Put po_figures_Put g_figures_Put)).add 90 (ioSem pi_nist_writer_text_io po_nist_writer_text_io 0 [(0, 0, none)] g_nist_writer_text_io)).add 91 (ioSem pi_nist_writer_put_io po_nist_writer_put_io 0 [(0, 0, none)] g_nist_writer_put_io)).add 165 (typedSem pi_strings_Repeat po_strings_Repeat g_strings_Repeat)).kp [0])
theorem q_nist_writer_advance_io_m (k : Nat) (d : pi_nist_writer_advance_io.den) : evCode E_nist_writer_advance_io (tb (L_nist_writer_advance_io k) (R_nist_writer_advance_io k)) c_nist_writer_advance_io (bodyOf Tryz.f93) 0 (finKio E_nist_writer_advance_io po_nist_writer_advance_io [] [(0, none)]) (startSt pi_nist_writer_advance_io 26 d) = f_nist_writer_advance_io_m () d := by kernel_rfl
def g_nist_writer_advance_io (d : (((Option Int) × Unit) × ((List Int) × Unit)) × (Unit × ((Int × Unit) × Unit))) : Option ((((Option Int) × Unit) × ((List Int) × Unit)) × (Unit × Unit)) := f_nist_writer_advance_io_m () d
theorem ok_nist_writer_advance_io : FnIo Tryz.prog ET0 93 pi_nist_writer_advance_io po_nist_writer_advance_io 0 [(0, 0, none)] g_nist_writer_advance_io :=
  fn_of_bodyIo (E := E_nist_writer_advance_io) (envOk_kp (envOk_add (envOk_add (envOk_add (envOk_add e0_ok (typed_ok ok_figures_Put)) (io_ok ok_nist_writer_text_io)) (io_ok ok_nist_writer_put_io)) (typed_ok ok_strings_Repeat))) (fn := Tryz.f93) Tryz.func93 (by kernel_rfl) (by kernel_rfl) [] [(0, none)] [(0, 0, none)] (by kernel_rfl) (by kernel_rfl) (by kernel_rfl) (by kernel_rfl) (by decide) (by decide) c_nist_writer_advance_io L_nist_writer_advance_io R_nist_writer_advance_io
    (by intro x hx; cases hx) (by intro k x hx; cases hx) (by intro x hx; cases hx) (by intro k x hx; cases hx) (fun d out h => ⟨0, (q_nist_writer_advance_io_m 0 d).trans h⟩)

@[reducible] def pi_nist_Put : PSh := ⟨[], [.mk true [vI, vI, vI, vI, vI, vI, vB]]⟩
@[reducible] def po_nist_Put : PSh := ⟨[], [.mk false [vS], .mk false [vE]]⟩
def f_nist_Put_m (T : Unit) (d : Unit × ((Int × (Int × (Int × (Int × (Int × (Int × (Bool × Unit))))))) × Unit)) : Option (Unit × ((ByteArray × Unit) × (((Option Int) × Unit) × Unit))) :=
  (g_nist_Check ((), d.2)).bind fun x1 =>
  let x2 : Bool := (!x1.2.1.1.isNone)
  bif x2 then (
  some ((), (((⟨#[]⟩ : ByteArray), ()), x1.2)))
  else (
  (g_day_Date ((), ((d.2.1.1, ()), ()))).bind fun x3 =>
  let x4 : Bool := (!x3.2.2.2.2.1.1.isNone)
  bif x4 then (
  some ((), (((⟨#[]⟩ : ByteArray), ()), x3.2.2.2.2)))
  else (
  (g_label_Clock ((), ((d.2.1.2.1, ()), ()))).bind fun x5 =>
  let x6 : Bool := (!x5.2.2.2.2.1.1.isNone)
  bif x6 then (
  some ((), (((⟨#[]⟩ : ByteArray), ()), x5.2.2.2.2)))
  else (
  (g_nist_writer_text_io ((((none : Option Int), ()), (([] : List Int), ())), ((), (((⟨#[10]⟩ : ByteArray), ()), (((none : Option Int), ()), ()))))).bind fun x7 =>
  (g_mjd_Five ((), ((d.2.1.1, ()), ()))).bind fun x8 =>
  (g_nist_writer_text_io (x7.1, ((), x8.2))).bind fun x9 =>
  (g_nist_modulo ((), (x3.2.1, (((100 : Int), ()), ())))).bind fun x10 =>
  (g_nist_writer_put_io (x9.1, ((), (((⟨#[32]⟩ : ByteArray), ()), (x10.2.1, (((2 : Int), ()), ())))))).bind fun x11 =>
  (g_nist_writer_put_io (x11.1, ((), (((⟨#[45]⟩ : ByteArray), ()), (x3.2.2.1, (((2 : Int), ()), ())))))).bind fun x12 =>
  (g_nist_writer_put_io (x12.1, ((), (((⟨#[45]⟩ : ByteArray), ()), (x3.2.2.2.1, (((2 : Int), ()), ())))))).bind fun x13 =>
  (g_nist_writer_put_io (x13.1, ((), (((⟨#[32]⟩ : ByteArray), ()), (x5.2.1, (((2 : Int), ()), ())))))).bind fun x14 =>
  (g_nist_writer_put_io (x14.1, ((), (((⟨#[58]⟩ : ByteArray), ()), (x5.2.2.1, (((2 : Int), ()), ())))))).bind fun x15 =>
  (g_nist_writer_put_io (x15.1, ((), (((⟨#[58]⟩ : ByteArray), ()), (x5.2.2.2.1, (((2 : Int), ()), ())))))).bind fun x16 =>
  (g_nist_writer_put_io (x16.1, ((), (((⟨#[32]⟩ : ByteArray), ()), ((d.2.1.2.2.1, ()), (((2 : Int), ()), ())))))).bind fun x17 =>
  (g_nist_writer_put_io (x17.1, ((), (((⟨#[32]⟩ : ByteArray), ()), ((d.2.1.2.2.2.1, ()), (((1 : Int), ()), ())))))).bind fun x18 =>
  (g_nist_writer_put_io (x18.1, ((), (((⟨#[32]⟩ : ByteArray), ()), ((d.2.1.2.2.2.2.1, ()), (((1 : Int), ()), ())))))).bind fun x19 =>
  (g_nist_writer_text_io (x19.1, ((), (((⟨#[32]⟩ : ByteArray), ()), (((none : Option Int), ()), ()))))).bind fun x20 =>
  (g_nist_writer_advance_io (x20.1, ((), ((d.2.1.2.2.2.2.2.1, ()), ())))).bind fun x21 =>
  (g_nist_mark ((), (d.2.1.2.2.2.2.2.2, ()))).bind fun x22 =>
  bif fitsS (⟨#[32, 85, 84, 67, 40, 78, 73, 83, 84, 41, 32]⟩ : ByteArray) x22.2.1.1 then (
  let x23 : ByteArray := ((⟨#[32, 85, 84, 67, 40, 78, 73, 83, 84, 41, 32]⟩ : ByteArray) ++ x22.2.1.1)
  bif fitsS x23 (⟨#[10]⟩ : ByteArray) then (
  let x24 : ByteArray := (x23 ++ (⟨#[10]⟩ : ByteArray))
  (g_nist_writer_text_io (x21.1, ((), ((x24, ()), (((none : Option Int), ()), ()))))).bind fun x25 =>
  let x26 : ByteArray := (strOf x25.1.2.1)
  some ((), ((x26, ()), (x25.1.1, ()))))
  else none)
  else none)))
def g_nist_Put (d : Unit × ((Int × (Int × (Int × (Int × (Int × (Int × (Bool × Unit))))))) × Unit)) : Option (Unit × ((ByteArray × Unit) × (((Option Int) × Unit) × Unit))) := f_nist_Put_m () d
theorem ok_nist_Put : FnOk Tryz.prog ET0 26 pi_nist_Put po_nist_Put g_nist_Put :=
  fn0 (E := (((((((((E0.add 24 (typedSem pi_mjd_Five po_mjd_Five g_mjd_Five)).add 25 (typedSem pi_nist_Check po_nist_Check g_nist_Check)).add 88 (typedSem pi_day_Date po_day_Date g_day_Date)).add 89 (typedSem pi_label_Clock po_label_Clock g_label_Clock)).add 90 (ioSem pi_nist_writer_text_io po_nist_writer_text_io 0 [(0, 0, none)] g_nist_writer_text_io)).add 91 (ioSem pi_nist_writer_put_io po_nist_writer_put_io 0 [(0, 0, none)] g_nist_writer_put_io)).add 92 (typedSem pi_nist_modulo po_nist_modulo g_nist_modulo)).add 93 (ioSem pi_nist_writer_advance_io po_nist_writer_advance_io 0 [(0, 0, none)] g_nist_writer_advance_io)).add 94 (typedSem pi_nist_mark po_nist_mark g_nist_mark))) (envOk_add (envOk_add (envOk_add (envOk_add (envOk_add (envOk_add (envOk_add (envOk_add (envOk_add e0_ok (typed_ok ok_mjd_Five)) (typed_ok ok_nist_Check)) (typed_ok ok_day_Date)) (typed_ok ok_label_Clock)) (io_ok ok_nist_writer_text_io)) (io_ok ok_nist_writer_put_io)) (typed_ok ok_nist_modulo)) (io_ok ok_nist_writer_advance_io)) (typed_ok ok_nist_mark)) (fn := Tryz.f26) Tryz.func26 (by kernel_rfl) (by kernel_rfl) [.tmp 2, .tmp 3] (by kernel_rfl) rfl rfl rfl [] fun d => by kernel_rfl

@[reducible] def pi_nist_ParseBy : PSh := ⟨[], [.mk false [.v (.nptr (.pair (.sl (.pair (.int .i64) (.int .i64))) (.pair (.int .i64) (.int .i64))))], .mk false [vS]]⟩
@[reducible] def po_nist_ParseBy : PSh := ⟨[], [.mk true [vI, vI, vI, vI, vI, vI, vB], .mk false [vE]]⟩
def f_nist_ParseBy_m (T : Unit) (d : Unit × (((Option ((List (Int × Int)) × (Int × Int))) × Unit) × ((ByteArray × Unit) × Unit))) : Option (Unit × ((Int × (Int × (Int × (Int × (Int × (Int × (Bool × Unit))))))) × (((Option Int) × Unit) × Unit))) :=
  (g_nist_Parse ((), d.2.2)).bind fun x1 =>
  let x2 : Bool := (!x1.2.2.1.1.isNone)
  bif x2 then (
  some ((), (((0 : Int), ((0 : Int), ((0 : Int), ((0 : Int), ((0 : Int), ((0 : Int), (false, ()))))))), x1.2.2)))
  else (
  (g_leap_Table_Has ((), (d.2.1, ((x1.2.1.1, ()), ((x1.2.1.2.1, ()), ()))))).bind fun x3 =>
  let x4 : Bool := (!x3.2.1.1)
  bif x4 then (
  let x5 : (Option Int) := (some (12 : Int))
  some ((), (((0 : Int), ((0 : Int), ((0 : Int), ((0 : Int), ((0 : Int), ((0 : Int), (false, ()))))))), ((x5, ()), ()))))
  else (
  some ((), (x1.2.1, (((none : Option Int), ()), ())))))
def g_nist_ParseBy (d : Unit × (((Option ((List (Int × Int)) × (Int × Int))) × Unit) × ((ByteArray × Unit) × Unit))) : Option (Unit × ((Int × (Int × (Int × (Int × (Int × (Int × (Bool × Unit))))))) × (((Option Int) × Unit) × Unit))) := f_nist_ParseBy_m () d
theorem ok_nist_ParseBy : FnOk Tryz.prog ET0 27 pi_nist_ParseBy po_nist_ParseBy g_nist_ParseBy :=
  fn0 (E := ((E0.add 68 (typedSem pi_nist_Parse po_nist_Parse g_nist_Parse)).add 77 (typedSem pi_leap_Table_Has po_leap_Table_Has g_leap_Table_Has))) (envOk_add (envOk_add e0_ok (typed_ok ok_nist_Parse)) (typed_ok ok_leap_Table_Has)) (fn := Tryz.f27) Tryz.func27 (by kernel_rfl) (by kernel_rfl) [.cell 4 59, .tmp 5] (by kernel_rfl) rfl rfl rfl [] fun d => by kernel_rfl

@[reducible] def pi_label_At : PSh := ⟨[], [.mk true [vI, vI, vI, vI, vI, vI, vI, vI], .mk false [vI]]⟩
@[reducible] def po_label_At : PSh := ⟨[], [.mk true [vI, vI, vI, vI, vI, vI, vI, vI], .mk false [vE]]⟩
def f_label_At_m (T : Unit) (d : Unit × ((Int × (Int × (Int × (Int × (Int × (Int × (Int × (Int × Unit)))))))) × ((Int × Unit) × Unit))) : Option (Unit × ((Int × (Int × (Int × (Int × (Int × (Int × (Int × (Int × Unit)))))))) × (((Option Int) × Unit) × Unit))) :=
  (g_label_Split ((), (d.2.1, ()))).bind fun x1 =>
  let x2 : Bool := (!x1.2.2.2.1.1.isNone)
  bif x2 then (
  some ((), (((0 : Int), ((0 : Int), ((0 : Int), ((0 : Int), ((0 : Int), ((0 : Int), ((0 : Int), ((0 : Int), ())))))))), x1.2.2.2)))
  else (
  (g_label_Of ((), (x1.2.1, (x1.2.2.1, ((d.2.1.2.2.2.2.2.2.1, ()), d.2.2))))).bind fun x3 =>
  some ((), x3.2))
def g_label_At (d : Unit × ((Int × (Int × (Int × (Int × (Int × (Int × (Int × (Int × Unit)))))))) × ((Int × Unit) × Unit))) : Option (Unit × ((Int × (Int × (Int × (Int × (Int × (Int × (Int × (Int × Unit)))))))) × (((Option Int) × Unit) × Unit))) := f_label_At_m () d
theorem ok_label_At : FnOk Tryz.prog ET0 96 pi_label_At po_label_At g_label_At :=
  fn0 (E := ((E0.add 23 (typedSem pi_label_Split po_label_Split g_label_Split)).add 95 (typedSem pi_label_Of po_label_Of g_label_Of))) (envOk_add (envOk_add e0_ok (typed_ok ok_label_Split)) (typed_ok ok_label_Of)) (fn := Tryz.f96) Tryz.func96 (by kernel_rfl) (by kernel_rfl) [.cell 4 28, .tmp 5] (by kernel_rfl) rfl rfl rfl [] fun d => by kernel_rfl

@[reducible] def pi_label_UTC : PSh := ⟨[], [.mk true [vI, vI, vI, vI, vI, vI, vI, vI]]⟩
@[reducible] def po_label_UTC : PSh := ⟨[], [.mk true [vI, vI, vI, vI, vI, vI, vI, vI], .mk false [vE]]⟩
def f_label_UTC_m (T : Unit) (d : Unit × ((Int × (Int × (Int × (Int × (Int × (Int × (Int × (Int × Unit)))))))) × Unit)) : Option (Unit × ((Int × (Int × (Int × (Int × (Int × (Int × (Int × (Int × Unit)))))))) × (((Option Int) × Unit) × Unit))) :=
  (g_label_At ((), (d.2.1, (((0 : Int), ()), ())))).bind fun x1 =>
  some ((), x1.2)
def g_label_UTC (d : Unit × ((Int × (Int × (Int × (Int × (Int × (Int × (Int × (Int × Unit)))))))) × Unit)) : Option (Unit × ((Int × (Int × (Int × (Int × (Int × (Int × (Int × (Int × Unit)))))))) × (((Option Int) × Unit) × Unit))) := f_label_UTC_m () d
theorem ok_label_UTC : FnOk Tryz.prog ET0 29 pi_label_UTC po_label_UTC g_label_UTC :=
  fn0 (E := (E0.add 96 (typedSem pi_label_At po_label_At g_label_At))) (envOk_add e0_ok (typed_ok ok_label_At)) (fn := Tryz.f29) Tryz.func29 (by kernel_rfl) (by kernel_rfl) [.cell 2 28, .tmp 3] (by kernel_rfl) rfl rfl rfl [] fun d => by kernel_rfl

@[reducible] def pi_top_WholeLabels : PSh := ⟨[], [.mk true [.v (.sl (.pair (.int .i64) (.int .i64))), vI, vI], .mk true [vI, vI, vI, vI, vI, vI, vI, vI]]⟩
@[reducible] def po_top_WholeLabels : PSh := ⟨[], [.mk false [vB]]⟩
@[reducible] def TT_top_WholeLabels : Type := (((((Int × (Int × (Int × (Int × (Int × (Int × (Int × (Int × Unit)))))))) × ((Int × (Int × (Int × (Int × (Int × (Int × (Int × (Int × Unit)))))))) × Unit)) × (Unit × (((Option ((List (Int × Int)) × (Int × Int))) × Unit) × (Unit × Unit)))) → Option (Unit × ((Bool × Unit) × Unit))) × (((((Int × (Int × (Int × (Int × (Int × (Int × (Int × (Int × Unit)))))))) × Unit) × (((Option ((List (Int × Int)) × (Int × Int))) × Unit) × (Unit × ((ByteArray × Unit) × (((Option Int) × Unit) × ((Bool × Unit) × Unit)))))) → Option (Unit × ((Bool × Unit) × Unit))) × (((((Int × (Int × (Int × (Int × (Int × (Int × (Int × (Int × Unit)))))))) × Unit) × (((Option ((List (Int × Int)) × (Int × Int))) × Unit) × (((Option Int) × Unit) × (Unit × ((Int × Unit) × ((Int × Unit) × Unit)))))) → Option (Unit × ((Bool × Unit) × Unit))) × Unit)))
@[reducible] def sh_top_WholeLabels_18 : PSh := ⟨[.var 28 [vI, vI, vI, vI, vI, vI, vI, vI], .var 28 [vI, vI, vI, vI, vI, vI, vI, vI]], [.any, .any, .any, .mk false [.ref 0 0], .any, .mk false [.v (.nptr (.pair (.sl (.pair (.int .i64) (.int .i64))) (.pair (.int .i64) (.int .i64))))], .any, .any, .any, .any, .any, .mk false [.ref 1 0], .any, .any, .any, .any, .any, .any, .any, .any, .any, .any, .any, .any, .any, .any, .any, .any, .any, .any, .any, .any, .any, .any, .any, .any, .any, .any, .any, .any, .any, .any, .any, .any, .any, .any, .any, .any, .any, .any, .any, .any, .any, .any, .any, .any, .any, .any, .any, .any, .any, .any, .any, .any, .any, .any, .any, .any, .any, .any, .any, .any, .any, .any, .any, .any, .any, .any, .any, .any, .any, .any, .any, .any, .any, .any, .any, .any, .any, .any, .any, .any, .any, .any, .any, .any, .any, .any, .any, .any, .any, .any, .any, .any, .any, .any, .any, .any, .any, .any, .any, .any, .any, .any, .any, .any, .any, .any, .any, .any, .any, .any, .any, .any, .any, .any, .any, .any, .any, .any, .any, .any, .any, .any, .any, .any, .any, .any, .any, .any, .any, .any, .any, .any, .any, .any, .any, .any, .any, .any, .any, .any, .any, .any, .any, .any, .any, .any, .any, .any, .any, .any, .any, .any, .any, .any, .any, .any, .any, .any, .any, .any, .any, .any, .any, .any, .any, .any, .any, .any, .any]⟩
@[reducible] def sh_top_WholeLabels_21 : PSh := ⟨[.var 28 [vI, vI, vI, vI, vI, vI, vI, vI]], [.any, .any, .any, .any, .any, .mk false [.v (.nptr (.pair (.sl (.pair (.int .i64) (.int .i64))) (.pair (.int .i64) (.int .i64))))], .any, .any, .any, .any, .any, .mk false [.ref 0 0], .mk false [vS], .mk false [vE], .any, .any, .any, .any, .any, .any, .any, .any, .any, .any, .any, .any, .any, .any, .any, .any, .any, .any, .any, .any, .any, .any, .any, .any, .any, .any, .any, .any, .any, .any, .any, .any, .any, .any, .any, .any, .any, .any, .any, .any, .any, .any, .any, .any, .any, .any, .any, .any, .any, .any, .any, .any, .any, .any, .any, .any, .any, .any, .any, .any, .any, .any, .any, .any, .any, .any, .any, .any, .any, .any, .any, .any, .any, .any, .any, .any, .any, .any, .any, .any, .any, .any, .any, .mk false [vB], .any, .any, .any, .any, .any, .any, .any, .any, .any, .any, .any, .any, .any, .any, .any, .any, .any, .any, .any, .any, .any, .any, .any, .any, .any, .any, .any, .any, .any, .any, .any, .any, .any, .any, .any, .any, .any, .any, .any, .any, .any, .any, .any, .any, .any, .any, .any, .any, .any, .any, .any, .any, .any, .any, .any, .any, .any, .any, .any, .any, .any, .any, .any, .any, .any, .any, .any, .any, .any, .any, .any, .any, .any, .any, .any, .any, .any, .any, .any, .any, .any, .any, .any]⟩
@[reducible] def sh_top_WholeLabels_25 : PSh := ⟨[.var 28 [vI, vI, vI, vI, vI, vI, vI, vI]], [.any, .any, .any, .any, .any, .mk false [.v (.nptr (.pair (.sl (.pair (.int .i64) (.int .i64))) (.pair (.int .i64) (.int .i64))))], .mk false [vE], .any, .any, .any, .any, .mk false [.ref 0 0], .any, .any, .any, .any, .mk false [vI], .mk false [vI], .any, .any, .any, .any, .any, .any, .any, .any, .any, .any, .any, .any, .any, .any, .any, .any, .any, .any, .any, .any, .any, .any, .any, .any, .any, .any, .any, .any, .any, .any, .any, .any, .any, .any, .any, .any, .any, .any, .any, .any, .any, .any, .any, .any, .any, .any, .any, .any, .any, .any, .any, .any, .any, .any, .any, .any, .any, .any, .any, .any, .any, .any, .any, .any, .any, .any, .any, .any, .any, .any, .any, .any, .any, .any, .any, .any, .any, .any, .any, .any, .any, .any, .any, .any, .any, .any, .any, .any, .any, .any, .any, .any, .any, .any, .any, .any, .any, .any, .any, .any, .any, .any, .any, .any, .any, .any, .any, .any, .any, .any, .any, .any, .any, .any, .any, .any, .any, .any, .any, .any, .any, .any, .any, .any, .any, .any, .any, .any, .any, .any, .any, .any, .any, .any, .any, .any, .any, .any, .any, .any, .any, .any, .any, .any, .any, .any, .any, .any, .any, .any, .any, .any, .any, .any, .any, .any, .any, .any, .any, .any, .any, .any, .any]⟩
def f_top_WholeLabels_p18 (T : TT_top_WholeLabels) (d : ((Int × (Int × (Int × (Int × (Int × (Int × (Int × (Int × Unit)))))))) × ((Int × (Int × (Int × (Int × (Int × (Int × (Int × (Int × Unit)))))))) × Unit)) × (Unit × (((Option ((List (Int × Int)) × (Int × Int))) × Unit) × (Unit × Unit)))) : Option (Unit × ((Bool × Unit) × Unit)) :=
  (g_mail_Put ((), d.1.2)).bind fun x22 =>
  let x23 : Bool := (decide (d.1.1.1 ≥ (1900 : Int)))
  bif x23 then (
  (T.2.1 (d.1.2, (d.2.2.1, ((), (x22.2.1, (x22.2.2.1, ((true, ()), ()))))))))
  else (
  (T.2.1 (d.1.2, (d.2.2.1, ((), (x22.2.1, (x22.2.2.1, ((x22.2.2.1.1.isNone, ()), ()))))))))
def f_top_WholeLabels_p21 (T : TT_top_WholeLabels) (d : ((Int × (Int × (Int × (Int × (Int × (Int × (Int × (Int × Unit)))))))) × Unit) × (((Option ((List (Int × Int)) × (Int × Int))) × Unit) × (Unit × ((ByteArray × Unit) × (((Option Int) × Unit) × ((Bool × Unit) × Unit)))))) : Option (Unit × ((Bool × Unit) × Unit)) :=
  bif d.2.2.2.2.2.1.1 then (
  (g_mail_ParseBy ((), (d.2.1, (d.2.2.2.1, ())))).bind fun x24 =>
  let x25 : Bool := (!d.2.2.2.2.1.1.isNone)
  bif x25 then (
  some ((), ((false, ()), ())))
  else (
  let x26 : Bool := (!x24.2.2.1.1.isNone)
  bif x26 then (
  some ((), ((false, ()), ())))
  else (
  let x27 : Bool := (!((x24.2.1.1 == d.1.1.1) && ((x24.2.1.2.1 == d.1.1.2.1) && ((x24.2.1.2.2.1 == d.1.1.2.2.1) && ((x24.2.1.2.2.2.1 == d.1.1.2.2.2.1) && ((x24.2.1.2.2.2.2.1 == d.1.1.2.2.2.2.1) && ((x24.2.1.2.2.2.2.2.1 == d.1.1.2.2.2.2.2.1) && ((x24.2.1.2.2.2.2.2.2.1 == d.1.1.2.2.2.2.2.2.1) && ((x24.2.1.2.2.2.2.2.2.2.1 == d.1.1.2.2.2.2.2.2.2.1) && true)))))))))
  bif x27 then (
  some ((), ((false, ()), ())))
  else (
  (g_label_Split ((), d.1)).bind fun x28 =>
  (T.2.2.1 (d.1, (d.2.1, (x28.2.2.2.1, ((), (x28.2.1, (x28.2.2.1, ())))))))))))
  else (
  (g_label_Split ((), d.1)).bind fun x29 =>
  (T.2.2.1 (d.1, (d.2.1, (x29.2.2.2.1, ((), (x29.2.1, (x29.2.2.1, ()))))))))
def f_top_WholeLabels_p25 (T : TT_top_WholeLabels) (d : ((Int × (Int × (Int × (Int × (Int × (Int × (Int × (Int × Unit)))))))) × Unit) × (((Option ((List (Int × Int)) × (Int × Int))) × Unit) × (((Option Int) × Unit) × (Unit × ((Int × Unit) × ((Int × Unit) × Unit)))))) : Option (Unit × ((Bool × Unit) × Unit)) :=
  let x30 : Bool := (!d.2.2.1.1.isNone)
  bif x30 then (
  some ((), ((false, ()), ())))
  else (
  (g_mjd_Five ((), (d.2.2.2.2.1, ()))).bind fun x31 =>
  let x32 : Bool := (!x31.2.2.1.1.isNone)
  bif x32 then (
  (g_nist_Check ((), ((d.2.2.2.2.1.1, (d.2.2.2.2.2.1.1, ((0 : Int), ((0 : Int), ((0 : Int), ((500 : Int), (false, ()))))))), ()))).bind fun x33 =>
  let x34 : Bool := (!x33.2.1.1.isNone)
  some ((), ((x34, ()), ())))
  else (
  (g_nist_Put ((), ((d.2.2.2.2.1.1, (d.2.2.2.2.2.1.1, ((0 : Int), ((0 : Int), ((0 : Int), ((500 : Int), (false, ()))))))), ()))).bind fun x35 =>
  (g_nist_ParseBy ((), (d.2.1, (x35.2.1, ())))).bind fun x36 =>
  (g_nist_Label ((), (x36.2.1, ()))).bind fun x37 =>
  (g_label_UTC ((), d.1)).bind fun x38 =>
  bif x35.2.2.1.1.isNone then (
  bif x36.2.2.1.1.isNone then (
  bif x37.2.2.1.1.isNone then (
  bif x38.2.2.1.1.isNone then (
  let x39 : Bool := ((x36.2.1.1 == d.2.2.2.2.1.1) && ((x36.2.1.2.1 == d.2.2.2.2.2.1.1) && ((x36.2.1.2.2.1 == (0 : Int)) && ((x36.2.1.2.2.2.1 == (0 : Int)) && ((x36.2.1.2.2.2.2.1 == (0 : Int)) && ((x36.2.1.2.2.2.2.2.1 == (500 : Int)) && ((x36.2.1.2.2.2.2.2.2.1 == false) && true)))))))
  bif x39 then (
  let x40 : Bool := ((x37.2.1.1 == x38.2.1.1) && ((x37.2.1.2.1 == x38.2.1.2.1) && ((x37.2.1.2.2.1 == x38.2.1.2.2.1) && ((x37.2.1.2.2.2.1 == x38.2.1.2.2.2.1) && ((x37.2.1.2.2.2.2.1 == x38.2.1.2.2.2.2.1) && ((x37.2.1.2.2.2.2.2.1 == x38.2.1.2.2.2.2.2.1) && ((x37.2.1.2.2.2.2.2.2.1 == x38.2.1.2.2.2.2.2.2.1) && ((x37.2.1.2.2.2.2.2.2.2.1 == x38.2.1.2.2.2.2.2.2.2.1) && true))))))))
  some ((), ((x40, ()), ())))
  else (
  some ((), ((false, ()), ()))))
  else (
  some ((), ((false, ()), ()))))
  else (
  some ((), ((false, ()), ()))))
  else (
  some ((), ((false, ()), ()))))
  else (
  some ((), ((false, ()), ())))))
def f_top_WholeLabels_t : Nat → TT_top_WholeLabels
  | 0 => (fun _ => none, (fun _ => none, (fun _ => none, ())))
  | k + 1 => (f_top_WholeLabels_p18 (f_top_WholeLabels_t k), (f_top_WholeLabels_p21 (f_top_WholeLabels_t k), (f_top_WholeLabels_p25 (f_top_WholeLabels_t k), ())))
theorem t_top_WholeLabels (k : Nat) : f_top_WholeLabels_t (k + 1) = (f_top_WholeLabels_p18 (f_top_WholeLabels_t k), (f_top_WholeLabels_p21 (f_top_WholeLabels_t k), (f_top_WholeLabels_p25 (f_top_WholeLabels_t k), ()))) := rfl
def f_top_WholeLabels_m (T : TT_top_WholeLabels) (d : Unit × (((List (Int × Int)) × (Int × (Int × Unit))) × ((Int × (Int × (Int × (Int × (Int × (Int × (Int × (Int × Unit)))))))) × Unit))) : Option (Unit × ((Bool × Unit) × Unit)) :=
  (g_top_labelsStand ((), ())).bind fun x1 =>
  let x2 : Bool := (!x1.2.1.1)
  bif x2 then (
  some ((), ((false, ()), ())))
  else (
  (g_law10_Long ((), (d.2.1, ()))).bind fun x3 =>
  bif x3.2.1.1 then (
  some ((), ((true, ()), ())))
  else (
  (g_leap_New ((), ((d.2.1.1, ()), ((d.2.1.2.1, ()), (d.2.1.2.2, ()))))).bind fun x4 =>
  let x5 : Bool := (!x4.2.2.1.1.isNone)
  bif x5 then (
  let x6 : Bool := (!x4.2.1.1.isNone)
  let x7 : Bool := (x4.2.2.1.1.isNone == x6)
  some ((), ((x7, ()), ())))
  else (
  (g_scale_Listed ((), (x4.2.1, d.2.2))).bind fun x8 =>
  let x9 : Bool := (!x8.2.1.1.isNone)
  bif x9 then (
  let x10 : Bool := (!x4.2.1.1.isNone)
  let x11 : Bool := (x4.2.2.1.1.isNone == x10)
  some ((), ((x11, ()), ())))
  else (
  (g_iso_Put ((), (d.2.2.1, (((9 : Int), ()), ())))).bind fun x12 =>
  let x13 : Bool := (decide (d.2.2.1.1 ≥ (0 : Int)))
  bif x13 then (
  (g_iso_ParseBy ((), (x4.2.1, (x12.2.1, ())))).bind fun x14 =>
  let x15 : Bool := (!x12.2.2.1.1.isNone)
  bif x15 then (
  some ((), ((false, ()), ())))
  else (
  let x16 : Bool := (!x14.2.2.1.1.isNone)
  bif x16 then (
  some ((), ((false, ()), ())))
  else (
  let x17 : Bool := (!((x14.2.1.1 == d.2.2.1.1) && ((x14.2.1.2.1 == d.2.2.1.2.1) && ((x14.2.1.2.2.1 == d.2.2.1.2.2.1) && ((x14.2.1.2.2.2.1 == d.2.2.1.2.2.2.1) && ((x14.2.1.2.2.2.2.1 == d.2.2.1.2.2.2.2.1) && ((x14.2.1.2.2.2.2.2.1 == d.2.2.1.2.2.2.2.2.1) && ((x14.2.1.2.2.2.2.2.2.1 == d.2.2.1.2.2.2.2.2.2.1) && ((x14.2.1.2.2.2.2.2.2.2.1 == d.2.2.1.2.2.2.2.2.2.2.1) && true)))))))))
  bif x17 then (
  some ((), ((false, ()), ())))
  else (
  (T.1 ((d.2.2.1, ((d.2.2.1.1, (d.2.2.1.2.1, (d.2.2.1.2.2.1, (d.2.2.1.2.2.2.1, (d.2.2.1.2.2.2.2.1, (d.2.2.1.2.2.2.2.2.1, ((0 : Int), d.2.2.1.2.2.2.2.2.2.2))))))), ())), ((), (x4.2.1, ((), ())))))))))
  else (
  bif x12.2.2.1.1.isNone then (
  (g_iso_ParseBy ((), (x4.2.1, (x12.2.1, ())))).bind fun x18 =>
  let x19 : Bool := (!x12.2.2.1.1.isNone)
  bif x19 then (
  some ((), ((false, ()), ())))
  else (
  let x20 : Bool := (!x18.2.2.1.1.isNone)
  bif x20 then (
  some ((), ((false, ()), ())))
  else (
  let x21 : Bool := (!((x18.2.1.1 == d.2.2.1.1) && ((x18.2.1.2.1 == d.2.2.1.2.1) && ((x18.2.1.2.2.1 == d.2.2.1.2.2.1) && ((x18.2.1.2.2.2.1 == d.2.2.1.2.2.2.1) && ((x18.2.1.2.2.2.2.1 == d.2.2.1.2.2.2.2.1) && ((x18.2.1.2.2.2.2.2.1 == d.2.2.1.2.2.2.2.2.1) && ((x18.2.1.2.2.2.2.2.2.1 == d.2.2.1.2.2.2.2.2.2.1) && ((x18.2.1.2.2.2.2.2.2.2.1 == d.2.2.1.2.2.2.2.2.2.2.1) && true)))))))))
  bif x21 then (
  some ((), ((false, ()), ())))
  else (
  (T.1 ((d.2.2.1, ((d.2.2.1.1, (d.2.2.1.2.1, (d.2.2.1.2.2.1, (d.2.2.1.2.2.2.1, (d.2.2.1.2.2.2.2.1, (d.2.2.1.2.2.2.2.2.1, ((0 : Int), d.2.2.1.2.2.2.2.2.2.2))))))), ())), ((), (x4.2.1, ((), ())))))))))
  else (
  (T.1 ((d.2.2.1, ((d.2.2.1.1, (d.2.2.1.2.1, (d.2.2.1.2.2.1, (d.2.2.1.2.2.2.1, (d.2.2.1.2.2.2.2.1, (d.2.2.1.2.2.2.2.2.1, ((0 : Int), d.2.2.1.2.2.2.2.2.2.2))))))), ())), ((), (x4.2.1, ((), ())))))))))))
def c_top_WholeLabels : List Nat := [18, 21, 25]
def L_top_WholeLabels (k : Nat) : Pts po_top_WholeLabels.den := [(18, ⟨sh_top_WholeLabels_18, (f_top_WholeLabels_t k).1⟩), (21, ⟨sh_top_WholeLabels_21, (f_top_WholeLabels_t k).2.1⟩), (25, ⟨sh_top_WholeLabels_25, (f_top_WholeLabels_t k).2.2.1⟩)]
def R_top_WholeLabels (_ : Nat) : PtsR po_top_WholeLabels.den := []
def E_top_WholeLabels : Env := (((((((((((((((E0.add 7 (typedSem pi_law10_Long po_law10_Long g_law10_Long)).add 14 (typedSem pi_mail_ParseBy po_mail_ParseBy g_mail_ParseBy)).add 17 (typedSem pi_top_labelsStand po_top_labelsStand g_top_labelsStand)).add 18 (typedSem pi_leap_New po_leap_New g_leap_New)).add 19 (typedSem pi_scale_Listed po_scale_Listed g_scale_Listed)).add 20 (typedSem pi_iso_Put po_iso_Put g_iso_Put)).add 21 (typedSem pi_iso_ParseBy po_iso_ParseBy g_iso_ParseBy)).add 22 (typedSem pi_mail_Put po_mail_Put g_mail_Put)).add 23 (typedSem pi_label_Split po_label_Split g_label_Split)).add 24 (typedSem pi_mjd_Five po_mjd_Five g_mjd_Five)).add 25 (typedSem pi_nist_Check po_nist_Check g_nist_Check)).add 26 (typedSem pi_nist_Put po_nist_Put g_nist_Put)).add 27 (typedSem pi_nist_ParseBy po_nist_ParseBy g_nist_ParseBy)).add 28 (typedSem pi_nist_Label po_nist_Label g_nist_Label)).add 29 (typedSem pi_label_UTC po_label_UTC g_label_UTC))
theorem q_top_WholeLabels_18 (k : Nat) (d : sh_top_WholeLabels_18.den) : evAt E_top_WholeLabels (tb (L_top_WholeLabels k) (R_top_WholeLabels k)) c_top_WholeLabels 18 (bodyOf Tryz.f4) 0 (finK E_top_WholeLabels po_top_WholeLabels [.tmp 4]) (ptSt sh_top_WholeLabels_18 d) = f_top_WholeLabels_p18 (f_top_WholeLabels_t k) d := by kernel_rfl
theorem q_top_WholeLabels_21 (k : Nat) (d : sh_top_WholeLabels_21.den) : evAt E_top_WholeLabels (tb (L_top_WholeLabels k) (R_top_WholeLabels k)) c_top_WholeLabels 21 (bodyOf Tryz.f4) 0 (finK E_top_WholeLabels po_top_WholeLabels [.tmp 4]) (ptSt sh_top_WholeLabels_21 d) = f_top_WholeLabels_p21 (f_top_WholeLabels_t k) d := by kernel_rfl
theorem q_top_WholeLabels_25 (k : Nat) (d : sh_top_WholeLabels_25.den) : evAt E_top_WholeLabels (tb (L_top_WholeLabels k) (R_top_WholeLabels k)) c_top_WholeLabels 25 (bodyOf Tryz.f4) 0 (finK E_top_WholeLabels po_top_WholeLabels [.tmp 4]) (ptSt sh_top_WholeLabels_25 d) = f_top_WholeLabels_p25 (f_top_WholeLabels_t k) d := by kernel_rfl
theorem q_top_WholeLabels_m (k : Nat) (d : pi_top_WholeLabels.den) : evCode E_top_WholeLabels (tb (L_top_WholeLabels k) (R_top_WholeLabels k)) c_top_WholeLabels (bodyOf Tryz.f4) 0 (finK E_top_WholeLabels po_top_WholeLabels [.tmp 4]) (startSt pi_top_WholeLabels 181 d) = f_top_WholeLabels_m (f_top_WholeLabels_t k) d := by kernel_rfl
def g_top_WholeLabels (d : Unit × (((List (Int × Int)) × (Int × (Int × Unit))) × ((Int × (Int × (Int × (Int × (Int × (Int × (Int × (Int × Unit)))))))) × Unit))) : Option (Unit × ((Bool × Unit) × Unit)) := lim fun k => f_top_WholeLabels_m (f_top_WholeLabels_t k) d
theorem ok_top_WholeLabels : FnOk Tryz.prog ET0 4 pi_top_WholeLabels po_top_WholeLabels g_top_WholeLabels :=
  fn_of_body (E := E_top_WholeLabels) (envOk_add (envOk_add (envOk_add (envOk_add (envOk_add (envOk_add (envOk_add (envOk_add (envOk_add (envOk_add (envOk_add (envOk_add (envOk_add (envOk_add (envOk_add e0_ok (typed_ok ok_law10_Long)) (typed_ok ok_mail_ParseBy)) (typed_ok ok_top_labelsStand)) (typed_ok ok_leap_New)) (typed_ok ok_scale_Listed)) (typed_ok ok_iso_Put)) (typed_ok ok_iso_ParseBy)) (typed_ok ok_mail_Put)) (typed_ok ok_label_Split)) (typed_ok ok_mjd_Five)) (typed_ok ok_nist_Check)) (typed_ok ok_nist_Put)) (typed_ok ok_nist_ParseBy)) (typed_ok ok_nist_Label)) (typed_ok ok_label_UTC)) (fn := Tryz.f4) Tryz.func4 (by kernel_rfl) (by kernel_rfl) [.tmp 4] (by kernel_rfl) (by kernel_rfl) (by decide) rfl c_top_WholeLabels L_top_WholeLabels R_top_WholeLabels
    (by intro x hx d; simp only [L_top_WholeLabels, List.mem_cons, List.not_mem_nil, or_false] at hx; rcases hx with rfl | rfl | rfl; rfl; rfl; rfl)
    (by intro k x hx d out h; simp only [L_top_WholeLabels, List.mem_cons, List.not_mem_nil, or_false] at hx; rcases hx with rfl | rfl | rfl; exact (q_top_WholeLabels_18 k d).trans h; exact (q_top_WholeLabels_21 k d).trans h; exact (q_top_WholeLabels_25 k d).trans h)
    (by intro x hx; cases hx)
    (by intro k x hx; cases hx)
    (by intro d out h; obtain ⟨k, hk⟩ := lim_some h; exact ⟨k, (q_top_WholeLabels_m k d).trans hk⟩)
end
end Go.Proofs.YtddnfappkfiidaaGreat.Ev
