/- Printed by wip/tools/evgen.py. -/
import Derived.Test.YticfncahnhbhbaaGreatEvGa
import Derived.Test.YticfncahnhbhbaaGreatEvE
import Derived.Test.YticfncahnhbhbaaGreatProg
import Derived.KernelRfl
set_option maxRecDepth 100000
set_option maxHeartbeats 2000000
set_option linter.unusedVariables false
namespace Go.Proofs.YticfncahnhbhbaaGreat.Ev
open Go
noncomputable section

/- (*horologe/leap.Table).Row -/
@[reducible] def pi_leap_Table_Row : PSh := ⟨[], [.mk false [.v (.nptr (.pair (.sl (.pair (.int .i64) (.int .i64))) (.pair (.int .i64) (.int .i64))))], .mk false [.v (.int .i64)]]⟩
@[reducible] def po_leap_Table_Row : PSh := ⟨[], [.mk true [.v (.int .i64), .v (.int .i64)], .mk false [.v .bool]]⟩
def f_leap_Table_Row_m (T : Unit) (d : Unit × (((Option ((List (Int × Int)) × (Int × Int))) × Unit) × ((Int × Unit) × Unit))) : Option (Unit × ((Int × (Int × Unit)) × ((Bool × Unit) × Unit))) :=
  let x1 : Bool := (decide (d.2.2.1.1 < (0 : Int)))
  bif x1 then (
  some ((), (((0 : Int), ((0 : Int), ())), ((false, ()), ()))))
  else (
  (g_leap_Table_Len ((), ((d.2.1.1, ()), ()))).bind fun x2 =>
  let x3 : Bool := (decide (d.2.2.1.1 ≥ x2.2.1.1))
  bif x3 then (
  some ((), (((0 : Int), ((0 : Int), ())), ((false, ()), ()))))
  else (
  d.2.1.1.bind fun x4 =>
  bif decide ((0 : Int) ≤ d.2.2.1.1) && decide (d.2.2.1.1 < (x4.1.length : Int)) then (
  some ((), (((gd_i64_i64 x4.1 d.2.2.1.1).1, ((gd_i64_i64 x4.1 d.2.2.1.1).2, ())), ((true, ()), ()))))
  else none))
def c_leap_Table_Row : List Nat := []
def L_leap_Table_Row (_ : Nat) : Pts po_leap_Table_Row.den := []
def E_leap_Table_Row : Env := (E0.add 171 (typedSem pi_leap_Table_Len po_leap_Table_Len g_leap_Table_Len))
theorem q_leap_Table_Row_m (k : Nat) (d : Unit × (((Option ((List (Int × Int)) × (Int × Int))) × Unit) × ((Int × Unit) × Unit))) : evCode E_leap_Table_Row (tab (L_leap_Table_Row k)) c_leap_Table_Row (bodyOf Tryz.f155) 0 (finK E_leap_Table_Row po_leap_Table_Row [.cell 4 138, .tmp 5]) (startSt pi_leap_Table_Row 22 d) = f_leap_Table_Row_m () d := by kernel_rfl
def g_leap_Table_Row (d : Unit × (((Option ((List (Int × Int)) × (Int × Int))) × Unit) × ((Int × Unit) × Unit))) : Option (Unit × ((Int × (Int × Unit)) × ((Bool × Unit) × Unit))) := f_leap_Table_Row_m () d
theorem ok_leap_Table_Row : FnOk Tryz.prog ET0 155 pi_leap_Table_Row po_leap_Table_Row g_leap_Table_Row :=
  fn_of_body (E := E_leap_Table_Row) (envOk_add e0_ok (typed_ok ok_leap_Table_Len)) (fn := Tryz.f155) Tryz.func155 (by kernel_rfl) (by kernel_rfl) [.cell 4 138, .tmp 5] (by kernel_rfl) (by kernel_rfl) (by decide) rfl c_leap_Table_Row L_leap_Table_Row
    (by intro x hx; cases hx) (by intro k x hx; cases hx) (fun d out h => ⟨0, (q_leap_Table_Row_m 0 d).trans h⟩)

/- (*horologe/leap.Table).behind$1 -/
@[reducible] def pi_leap_Table_behind_1 : PSh := ⟨[], [.mk true [.v (.int .i64), .v (.int .i64)], .mk false [.v (.int .i64)]]⟩
@[reducible] def po_leap_Table_behind_1 : PSh := ⟨[], [.mk false [.v (.int .i64)]]⟩
def f_leap_Table_behind_1_m (T : Unit) (d : Unit × ((Int × (Int × Unit)) × ((Int × Unit) × Unit))) : Option (Unit × ((Int × Unit) × Unit)) :=
  let x1 : Bool := (decide (d.2.1.1 < d.2.2.1.1))
  bif x1 then (
  some ((), (((-1 : Int), ()), ())))
  else (
  let x2 : Bool := (decide (d.2.1.1 > d.2.2.1.1))
  bif x2 then (
  some ((), (((1 : Int), ()), ())))
  else (
  some ((), (((0 : Int), ()), ()))))
def c_leap_Table_behind_1 : List Nat := []
def L_leap_Table_behind_1 (_ : Nat) : Pts po_leap_Table_behind_1.den := []
def E_leap_Table_behind_1 : Env := E0
theorem q_leap_Table_behind_1_m (k : Nat) (d : Unit × ((Int × (Int × Unit)) × ((Int × Unit) × Unit))) : evCode E_leap_Table_behind_1 (tab (L_leap_Table_behind_1 k)) c_leap_Table_behind_1 (bodyOf Tryz.f174) 0 (finK E_leap_Table_behind_1 po_leap_Table_behind_1 [.tmp 4]) (startSt pi_leap_Table_behind_1 15 d) = f_leap_Table_behind_1_m () d := by kernel_rfl
def g_leap_Table_behind_1 (d : Unit × ((Int × (Int × Unit)) × ((Int × Unit) × Unit))) : Option (Unit × ((Int × Unit) × Unit)) := f_leap_Table_behind_1_m () d
theorem ok_leap_Table_behind_1 : FnOk Tryz.prog ET0 174 pi_leap_Table_behind_1 po_leap_Table_behind_1 g_leap_Table_behind_1 :=
  fn_of_body (E := E_leap_Table_behind_1) e0_ok (fn := Tryz.f174) Tryz.func174 (by kernel_rfl) (by kernel_rfl) [.tmp 4] (by kernel_rfl) (by kernel_rfl) (by decide) rfl c_leap_Table_behind_1 L_leap_Table_behind_1
    (by intro x hx; cases hx) (by intro k x hx; cases hx) (fun d out h => ⟨0, (q_leap_Table_behind_1_m 0 d).trans h⟩)

/- slices.BinarySearchFunc[[]horologe/leap.Row,horologe/leap.Row,int64] -/
@[reducible] def pi_slices_BinarySearchFunc_leap_Row_leap_Row_i64_leap_Table_behind_1 : PSh := ⟨[], [.mk false [.v (.sl (.pair (.int .i64) (.int .i64)))], .mk false [.v (.int .i64)], .mk false [.fn 174 []]]⟩
@[reducible] def po_slices_BinarySearchFunc_leap_Row_leap_Row_i64_leap_Table_behind_1 : PSh := ⟨[], [.mk false [.v (.int .i64)], .mk false [.v .bool]]⟩
@[reducible] def TT_slices_BinarySearchFunc_leap_Row_leap_Row_i64_leap_Table_behind_1 : Type := (((Unit × (((List (Int × Int)) × Unit) × ((Int × Unit) × (Unit × ((Int × Unit) × ((Int × Unit) × ((Int × Unit) × Unit))))))) → Option (Unit × ((Int × Unit) × ((Bool × Unit) × Unit)))) × Unit)
@[reducible] def sh_slices_BinarySearchFunc_leap_Row_leap_Row_i64_leap_Table_behind_1_4 : PSh := ⟨[], [.mk false [.v (.sl (.pair (.int .i64) (.int .i64)))], .mk false [.v (.int .i64)], .mk false [.fn 174 []], .any, .any, .any, .any, .any, .mk false [.v (.int .i64)], .mk false [.v (.int .i64)], .mk false [.v (.int .i64)], .any, .any, .any, .any, .any, .any, .any, .any, .any, .any, .any, .any, .any, .any, .any, .any, .any, .any, .any, .any, .any, .any, .any, .any, .any, .any, .any, .any, .any, .any, .any, .any, .any, .any, .any, .any, .any, .any]⟩
def f_slices_BinarySearchFunc_leap_Row_leap_Row_i64_leap_Table_behind_1_p4 (T : TT_slices_BinarySearchFunc_leap_Row_leap_Row_i64_leap_Table_behind_1) (d : Unit × (((List (Int × Int)) × Unit) × ((Int × Unit) × (Unit × ((Int × Unit) × ((Int × Unit) × ((Int × Unit) × Unit))))))) : Option (Unit × ((Int × Unit) × ((Bool × Unit) × Unit))) :=
  let x2 : Bool := (decide (d.2.2.2.2.2.1.1 < d.2.2.2.2.2.2.1.1))
  bif x2 then (
  let x3 : Int := (iadd .i64 d.2.2.2.2.2.1.1 d.2.2.2.2.2.2.1.1)
  let x4 : Int := (iconv .u64 x3)
  let x5 : Int := (ishr .u64 x4 (1 : Int))
  let x6 : Int := (iconv .i64 x5)
  bif decide ((0 : Int) ≤ x6) && decide (x6 < (d.2.1.1.length : Int)) then (
  (g_leap_Table_behind_1 ((), (((gd_i64_i64 d.2.1.1 x6).1, ((gd_i64_i64 d.2.1.1 x6).2, ())), ((d.2.2.1.1, ()), ())))).bind fun x7 =>
  let x8 : Bool := (decide (x7.2.1.1 < (0 : Int)))
  bif x8 then (
  let x9 : Int := (iadd .i64 x6 (1 : Int))
  (T.1 ((), ((d.2.1.1, ()), ((d.2.2.1.1, ()), ((), ((d.2.2.2.2.1.1, ()), ((x9, ()), ((d.2.2.2.2.2.2.1.1, ()), ())))))))))
  else (
  (T.1 ((), ((d.2.1.1, ()), ((d.2.2.1.1, ()), ((), ((d.2.2.2.2.1.1, ()), ((d.2.2.2.2.2.1.1, ()), ((x6, ()), ()))))))))))
  else none)
  else (
  let x10 : Bool := (decide (d.2.2.2.2.2.1.1 < d.2.2.2.2.1.1))
  bif x10 then (
  bif decide ((0 : Int) ≤ d.2.2.2.2.2.1.1) && decide (d.2.2.2.2.2.1.1 < (d.2.1.1.length : Int)) then (
  (g_leap_Table_behind_1 ((), (((gd_i64_i64 d.2.1.1 d.2.2.2.2.2.1.1).1, ((gd_i64_i64 d.2.1.1 d.2.2.2.2.2.1.1).2, ())), ((d.2.2.1.1, ()), ())))).bind fun x11 =>
  let x12 : Bool := (x11.2.1.1 == (0 : Int))
  some ((), ((d.2.2.2.2.2.1.1, ()), ((x12, ()), ()))))
  else none)
  else (
  some ((), ((d.2.2.2.2.2.1.1, ()), ((false, ()), ())))))
def f_slices_BinarySearchFunc_leap_Row_leap_Row_i64_leap_Table_behind_1_t : Nat → TT_slices_BinarySearchFunc_leap_Row_leap_Row_i64_leap_Table_behind_1
  | 0 => (fun _ => none, ())
  | k + 1 => (f_slices_BinarySearchFunc_leap_Row_leap_Row_i64_leap_Table_behind_1_p4 (f_slices_BinarySearchFunc_leap_Row_leap_Row_i64_leap_Table_behind_1_t k), ())
theorem t_slices_BinarySearchFunc_leap_Row_leap_Row_i64_leap_Table_behind_1 (k : Nat) : f_slices_BinarySearchFunc_leap_Row_leap_Row_i64_leap_Table_behind_1_t (k + 1) = (f_slices_BinarySearchFunc_leap_Row_leap_Row_i64_leap_Table_behind_1_p4 (f_slices_BinarySearchFunc_leap_Row_leap_Row_i64_leap_Table_behind_1_t k), ()) := rfl
def f_slices_BinarySearchFunc_leap_Row_leap_Row_i64_leap_Table_behind_1_m (T : TT_slices_BinarySearchFunc_leap_Row_leap_Row_i64_leap_Table_behind_1) (d : Unit × (((List (Int × Int)) × Unit) × ((Int × Unit) × (Unit × Unit)))) : Option (Unit × ((Int × Unit) × ((Bool × Unit) × Unit))) :=
  let x1 : Int := (d.2.1.1.length : Int)
  (T.1 ((), ((d.2.1.1, ()), ((d.2.2.1.1, ()), ((), ((x1, ()), (((0 : Int), ()), ((x1, ()), ()))))))))
def c_slices_BinarySearchFunc_leap_Row_leap_Row_i64_leap_Table_behind_1 : List Nat := []
def L_slices_BinarySearchFunc_leap_Row_leap_Row_i64_leap_Table_behind_1 (k : Nat) : Pts po_slices_BinarySearchFunc_leap_Row_leap_Row_i64_leap_Table_behind_1.den := [(4, ⟨sh_slices_BinarySearchFunc_leap_Row_leap_Row_i64_leap_Table_behind_1_4, (f_slices_BinarySearchFunc_leap_Row_leap_Row_i64_leap_Table_behind_1_t k).1⟩)]
def E_slices_BinarySearchFunc_leap_Row_leap_Row_i64_leap_Table_behind_1 : Env := (E0.add 174 (typedSem pi_leap_Table_behind_1 po_leap_Table_behind_1 g_leap_Table_behind_1))
theorem q_slices_BinarySearchFunc_leap_Row_leap_Row_i64_leap_Table_behind_1_4 (k : Nat) (d : Unit × (((List (Int × Int)) × Unit) × ((Int × Unit) × (Unit × ((Int × Unit) × ((Int × Unit) × ((Int × Unit) × Unit))))))) : evAt E_slices_BinarySearchFunc_leap_Row_leap_Row_i64_leap_Table_behind_1 (tab (L_slices_BinarySearchFunc_leap_Row_leap_Row_i64_leap_Table_behind_1 k)) c_slices_BinarySearchFunc_leap_Row_leap_Row_i64_leap_Table_behind_1 4 (bodyOf Tryz.f172) 0 (finK E_slices_BinarySearchFunc_leap_Row_leap_Row_i64_leap_Table_behind_1 po_slices_BinarySearchFunc_leap_Row_leap_Row_i64_leap_Table_behind_1 [.tmp 6, .tmp 7]) (ptSt sh_slices_BinarySearchFunc_leap_Row_leap_Row_i64_leap_Table_behind_1_4 d) = f_slices_BinarySearchFunc_leap_Row_leap_Row_i64_leap_Table_behind_1_p4 (f_slices_BinarySearchFunc_leap_Row_leap_Row_i64_leap_Table_behind_1_t k) d := by kernel_rfl
theorem q_slices_BinarySearchFunc_leap_Row_leap_Row_i64_leap_Table_behind_1_m (k : Nat) (d : Unit × (((List (Int × Int)) × Unit) × ((Int × Unit) × (Unit × Unit)))) : evCode E_slices_BinarySearchFunc_leap_Row_leap_Row_i64_leap_Table_behind_1 (tab (L_slices_BinarySearchFunc_leap_Row_leap_Row_i64_leap_Table_behind_1 k)) c_slices_BinarySearchFunc_leap_Row_leap_Row_i64_leap_Table_behind_1 (bodyOf Tryz.f172) 0 (finK E_slices_BinarySearchFunc_leap_Row_leap_Row_i64_leap_Table_behind_1 po_slices_BinarySearchFunc_leap_Row_leap_Row_i64_leap_Table_behind_1 [.tmp 6, .tmp 7]) (startSt pi_slices_BinarySearchFunc_leap_Row_leap_Row_i64_leap_Table_behind_1 49 d) = f_slices_BinarySearchFunc_leap_Row_leap_Row_i64_leap_Table_behind_1_m (f_slices_BinarySearchFunc_leap_Row_leap_Row_i64_leap_Table_behind_1_t k) d := by kernel_rfl
theorem go_slices_BinarySearchFunc_leap_Row_leap_Row_i64_leap_Table_behind_1 (F : Unit × (((List (Int × Int)) × Unit) × ((Int × Unit) × (Unit × Unit))) → Option (Unit × ((Int × Unit) × ((Bool × Unit) × Unit)))) (hF : ∀ d out, F d = some out → ∃ k, f_slices_BinarySearchFunc_leap_Row_leap_Row_i64_leap_Table_behind_1_m (f_slices_BinarySearchFunc_leap_Row_leap_Row_i64_leap_Table_behind_1_t k) d = some out) : FnOk Tryz.prog ET0 172 pi_slices_BinarySearchFunc_leap_Row_leap_Row_i64_leap_Table_behind_1 po_slices_BinarySearchFunc_leap_Row_leap_Row_i64_leap_Table_behind_1 F :=
  fn_of_body (E := E_slices_BinarySearchFunc_leap_Row_leap_Row_i64_leap_Table_behind_1) (envOk_add e0_ok (typed_ok ok_leap_Table_behind_1)) (fn := Tryz.f172) Tryz.func172 (by kernel_rfl) (by kernel_rfl) [.tmp 6, .tmp 7] (by kernel_rfl) (by kernel_rfl) (by decide) rfl c_slices_BinarySearchFunc_leap_Row_leap_Row_i64_leap_Table_behind_1 L_slices_BinarySearchFunc_leap_Row_leap_Row_i64_leap_Table_behind_1
    (by intro x hx d; simp only [L_slices_BinarySearchFunc_leap_Row_leap_Row_i64_leap_Table_behind_1, List.mem_cons, List.not_mem_nil, or_false] at hx; subst hx; rfl)
    (by intro k x hx d out h; simp only [L_slices_BinarySearchFunc_leap_Row_leap_Row_i64_leap_Table_behind_1, List.mem_cons, List.not_mem_nil, or_false] at hx; subst hx; exact (q_slices_BinarySearchFunc_leap_Row_leap_Row_i64_leap_Table_behind_1_4 k d).trans h)
    (by intro d out h; obtain ⟨k, hk⟩ := hF d out h; exact ⟨k, (q_slices_BinarySearchFunc_leap_Row_leap_Row_i64_leap_Table_behind_1_m k d).trans hk⟩)
def g_slices_BinarySearchFunc_leap_Row_leap_Row_i64_leap_Table_behind_1 (d : Unit × (((List (Int × Int)) × Unit) × ((Int × Unit) × (Unit × Unit)))) : Option (Unit × ((Int × Unit) × ((Bool × Unit) × Unit))) := lim fun k => f_slices_BinarySearchFunc_leap_Row_leap_Row_i64_leap_Table_behind_1_m (f_slices_BinarySearchFunc_leap_Row_leap_Row_i64_leap_Table_behind_1_t k) d
theorem ok_slices_BinarySearchFunc_leap_Row_leap_Row_i64_leap_Table_behind_1 : FnOk Tryz.prog ET0 172 pi_slices_BinarySearchFunc_leap_Row_leap_Row_i64_leap_Table_behind_1 po_slices_BinarySearchFunc_leap_Row_leap_Row_i64_leap_Table_behind_1 g_slices_BinarySearchFunc_leap_Row_leap_Row_i64_leap_Table_behind_1 := go_slices_BinarySearchFunc_leap_Row_leap_Row_i64_leap_Table_behind_1 g_slices_BinarySearchFunc_leap_Row_leap_Row_i64_leap_Table_behind_1 fun d out h => lim_some h

/- (*horologe/leap.Table).behind -/
@[reducible] def pi_leap_Table_behind : PSh := ⟨[], [.mk false [.v (.nptr (.pair (.sl (.pair (.int .i64) (.int .i64))) (.pair (.int .i64) (.int .i64))))], .mk false [.v (.int .i64)]]⟩
@[reducible] def po_leap_Table_behind : PSh := ⟨[], [.mk false [.v (.int .i64)]]⟩
def f_leap_Table_behind_m (T : Unit) (d : Unit × (((Option ((List (Int × Int)) × (Int × Int))) × Unit) × ((Int × Unit) × Unit))) : Option (Unit × ((Int × Unit) × Unit)) :=
  (g_leap_Table_list ((), ((d.2.1.1, ()), ()))).bind fun x1 =>
  (g_slices_BinarySearchFunc_leap_Row_leap_Row_i64_leap_Table_behind_1 ((), ((x1.2.1.1, ()), ((d.2.2.1.1, ()), ((), ()))))).bind fun x2 =>
  bif x2.2.2.1.1 then (
  let x3 : Int := (iadd .i64 x2.2.1.1 (1 : Int))
  some ((), ((x3, ()), ())))
  else (
  some ((), ((x2.2.1.1, ()), ())))
def c_leap_Table_behind : List Nat := []
def L_leap_Table_behind (_ : Nat) : Pts po_leap_Table_behind.den := []
def E_leap_Table_behind : Env := ((E0.add 172 (typedSem pi_slices_BinarySearchFunc_leap_Row_leap_Row_i64_leap_Table_behind_1 po_slices_BinarySearchFunc_leap_Row_leap_Row_i64_leap_Table_behind_1 g_slices_BinarySearchFunc_leap_Row_leap_Row_i64_leap_Table_behind_1)).add 173 (typedSem pi_leap_Table_list po_leap_Table_list g_leap_Table_list))
theorem q_leap_Table_behind_m (k : Nat) (d : Unit × (((Option ((List (Int × Int)) × (Int × Int))) × Unit) × ((Int × Unit) × Unit))) : evCode E_leap_Table_behind (tab (L_leap_Table_behind k)) c_leap_Table_behind (bodyOf Tryz.f156) 0 (finK E_leap_Table_behind po_leap_Table_behind [.tmp 4]) (startSt pi_leap_Table_behind 18 d) = f_leap_Table_behind_m () d := by kernel_rfl
def g_leap_Table_behind (d : Unit × (((Option ((List (Int × Int)) × (Int × Int))) × Unit) × ((Int × Unit) × Unit))) : Option (Unit × ((Int × Unit) × Unit)) := f_leap_Table_behind_m () d
theorem ok_leap_Table_behind : FnOk Tryz.prog ET0 156 pi_leap_Table_behind po_leap_Table_behind g_leap_Table_behind :=
  fn_of_body (E := E_leap_Table_behind) (envOk_add (envOk_add e0_ok (typed_ok ok_slices_BinarySearchFunc_leap_Row_leap_Row_i64_leap_Table_behind_1)) (typed_ok ok_leap_Table_list)) (fn := Tryz.f156) Tryz.func156 (by kernel_rfl) (by kernel_rfl) [.tmp 4] (by kernel_rfl) (by kernel_rfl) (by decide) rfl c_leap_Table_behind L_leap_Table_behind
    (by intro x hx; cases hx) (by intro k x hx; cases hx) (fun d out h => ⟨0, (q_leap_Table_behind_m 0 d).trans h⟩)

/- (*horologe/leap.Table).change -/
@[reducible] def pi_leap_Table_change : PSh := ⟨[], [.mk false [.v (.nptr (.pair (.sl (.pair (.int .i64) (.int .i64))) (.pair (.int .i64) (.int .i64))))], .mk false [.v (.int .i64)]]⟩
@[reducible] def po_leap_Table_change : PSh := ⟨[], [.mk false [.v (.int .i64)]]⟩
def f_leap_Table_change_m (T : Unit) (d : Unit × (((Option ((List (Int × Int)) × (Int × Int))) × Unit) × ((Int × Unit) × Unit))) : Option (Unit × ((Int × Unit) × Unit)) :=
  let x1 : Int := (isub .i64 d.2.2.1.1 (1 : Int))
  (g_leap_Table_Row ((), ((d.2.1.1, ()), ((x1, ()), ())))).bind fun x2 =>
  let x3 : Bool := (!x2.2.2.1.1)
  bif x3 then (
  some ((), (((0 : Int), ()), ())))
  else (
  d.2.1.1.bind fun x4 =>
  bif decide ((0 : Int) ≤ d.2.2.1.1) && decide (d.2.2.1.1 < (x4.1.length : Int)) then (
  let x5 : Int := (isub .i64 (gd_i64_i64 x4.1 d.2.2.1.1).2 x2.2.1.2.1)
  some ((), ((x5, ()), ())))
  else none)
def c_leap_Table_change : List Nat := []
def L_leap_Table_change (_ : Nat) : Pts po_leap_Table_change.den := []
def E_leap_Table_change : Env := (E0.add 155 (typedSem pi_leap_Table_Row po_leap_Table_Row g_leap_Table_Row))
theorem q_leap_Table_change_m (k : Nat) (d : Unit × (((Option ((List (Int × Int)) × (Int × Int))) × Unit) × ((Int × Unit) × Unit))) : evCode E_leap_Table_change (tab (L_leap_Table_change k)) c_leap_Table_change (bodyOf Tryz.f157) 0 (finK E_leap_Table_change po_leap_Table_change [.tmp 4]) (startSt pi_leap_Table_change 27 d) = f_leap_Table_change_m () d := by kernel_rfl
def g_leap_Table_change (d : Unit × (((Option ((List (Int × Int)) × (Int × Int))) × Unit) × ((Int × Unit) × Unit))) : Option (Unit × ((Int × Unit) × Unit)) := f_leap_Table_change_m () d
theorem ok_leap_Table_change : FnOk Tryz.prog ET0 157 pi_leap_Table_change po_leap_Table_change g_leap_Table_change :=
  fn_of_body (E := E_leap_Table_change) (envOk_add e0_ok (typed_ok ok_leap_Table_Row)) (fn := Tryz.f157) Tryz.func157 (by kernel_rfl) (by kernel_rfl) [.tmp 4] (by kernel_rfl) (by kernel_rfl) (by decide) rfl c_leap_Table_change L_leap_Table_change
    (by intro x hx; cases hx) (by intro k x hx; cases hx) (fun d out h => ⟨0, (q_leap_Table_change_m 0 d).trans h⟩)

/- (*horologe/leap.Table).Leap -/
@[reducible] def pi_leap_Table_Leap : PSh := ⟨[], [.mk false [.v (.nptr (.pair (.sl (.pair (.int .i64) (.int .i64))) (.pair (.int .i64) (.int .i64))))], .mk false [.v (.int .i64)]]⟩
@[reducible] def po_leap_Table_Leap : PSh := ⟨[], [.mk false [.v (.int .i64)]]⟩
def f_leap_Table_Leap_m (T : Unit) (d : Unit × (((Option ((List (Int × Int)) × (Int × Int))) × Unit) × ((Int × Unit) × Unit))) : Option (Unit × ((Int × Unit) × Unit)) :=
  (g_leap_Table_behind ((), ((d.2.1.1, ()), ((d.2.2.1.1, ()), ())))).bind fun x1 =>
  (g_leap_Table_Row ((), ((d.2.1.1, ()), ((x1.2.1.1, ()), ())))).bind fun x2 =>
  let x3 : Bool := (!x2.2.2.1.1)
  bif x3 then (
  some ((), (((0 : Int), ()), ())))
  else (
  let x4 : Int := (isub .i64 x2.2.1.1 (1 : Int))
  let x5 : Bool := (x4 != d.2.2.1.1)
  bif x5 then (
  some ((), (((0 : Int), ()), ())))
  else (
  (g_leap_Table_behind ((), ((d.2.1.1, ()), ((d.2.2.1.1, ()), ())))).bind fun x6 =>
  (g_leap_Table_change ((), ((d.2.1.1, ()), ((x6.2.1.1, ()), ())))).bind fun x7 =>
  some ((), ((x7.2.1.1, ()), ()))))
def c_leap_Table_Leap : List Nat := []
def L_leap_Table_Leap (_ : Nat) : Pts po_leap_Table_Leap.den := []
def E_leap_Table_Leap : Env := (((E0.add 155 (typedSem pi_leap_Table_Row po_leap_Table_Row g_leap_Table_Row)).add 156 (typedSem pi_leap_Table_behind po_leap_Table_behind g_leap_Table_behind)).add 157 (typedSem pi_leap_Table_change po_leap_Table_change g_leap_Table_change))
theorem q_leap_Table_Leap_m (k : Nat) (d : Unit × (((Option ((List (Int × Int)) × (Int × Int))) × Unit) × ((Int × Unit) × Unit))) : evCode E_leap_Table_Leap (tab (L_leap_Table_Leap k)) c_leap_Table_Leap (bodyOf Tryz.f131) 0 (finK E_leap_Table_Leap po_leap_Table_Leap [.tmp 4]) (startSt pi_leap_Table_Leap 29 d) = f_leap_Table_Leap_m () d := by kernel_rfl
def g_leap_Table_Leap (d : Unit × (((Option ((List (Int × Int)) × (Int × Int))) × Unit) × ((Int × Unit) × Unit))) : Option (Unit × ((Int × Unit) × Unit)) := f_leap_Table_Leap_m () d
theorem ok_leap_Table_Leap : FnOk Tryz.prog ET0 131 pi_leap_Table_Leap po_leap_Table_Leap g_leap_Table_Leap :=
  fn_of_body (E := E_leap_Table_Leap) (envOk_add (envOk_add (envOk_add e0_ok (typed_ok ok_leap_Table_Row)) (typed_ok ok_leap_Table_behind)) (typed_ok ok_leap_Table_change)) (fn := Tryz.f131) Tryz.func131 (by kernel_rfl) (by kernel_rfl) [.tmp 4] (by kernel_rfl) (by kernel_rfl) (by decide) rfl c_leap_Table_Leap L_leap_Table_Leap
    (by intro x hx; cases hx) (by intro k x hx; cases hx) (fun d out h => ⟨0, (q_leap_Table_Leap_m 0 d).trans h⟩)

/- (*horologe/leap.Table).Length -/
@[reducible] def pi_leap_Table_Length : PSh := ⟨[], [.mk false [.v (.nptr (.pair (.sl (.pair (.int .i64) (.int .i64))) (.pair (.int .i64) (.int .i64))))], .mk false [.v (.int .i64)]]⟩
@[reducible] def po_leap_Table_Length : PSh := ⟨[], [.mk false [.v (.int .i64)]]⟩
def f_leap_Table_Length_m (T : Unit) (d : Unit × (((Option ((List (Int × Int)) × (Int × Int))) × Unit) × ((Int × Unit) × Unit))) : Option (Unit × ((Int × Unit) × Unit)) :=
  (g_leap_Table_Leap ((), ((d.2.1.1, ()), ((d.2.2.1.1, ()), ())))).bind fun x1 =>
  let x2 : Int := (iadd .i64 (86400 : Int) x1.2.1.1)
  some ((), ((x2, ()), ()))
def c_leap_Table_Length : List Nat := []
def L_leap_Table_Length (_ : Nat) : Pts po_leap_Table_Length.den := []
def E_leap_Table_Length : Env := (E0.add 131 (typedSem pi_leap_Table_Leap po_leap_Table_Leap g_leap_Table_Leap))
theorem q_leap_Table_Length_m (k : Nat) (d : Unit × (((Option ((List (Int × Int)) × (Int × Int))) × Unit) × ((Int × Unit) × Unit))) : evCode E_leap_Table_Length (tab (L_leap_Table_Length k)) c_leap_Table_Length (bodyOf Tryz.f88) 0 (finK E_leap_Table_Length po_leap_Table_Length [.tmp 4]) (startSt pi_leap_Table_Length 9 d) = f_leap_Table_Length_m () d := by kernel_rfl
def g_leap_Table_Length (d : Unit × (((Option ((List (Int × Int)) × (Int × Int))) × Unit) × ((Int × Unit) × Unit))) : Option (Unit × ((Int × Unit) × Unit)) := f_leap_Table_Length_m () d
theorem ok_leap_Table_Length : FnOk Tryz.prog ET0 88 pi_leap_Table_Length po_leap_Table_Length g_leap_Table_Length :=
  fn_of_body (E := E_leap_Table_Length) (envOk_add e0_ok (typed_ok ok_leap_Table_Leap)) (fn := Tryz.f88) Tryz.func88 (by kernel_rfl) (by kernel_rfl) [.tmp 4] (by kernel_rfl) (by kernel_rfl) (by decide) rfl c_leap_Table_Length L_leap_Table_Length
    (by intro x hx; cases hx) (by intro k x hx; cases hx) (fun d out h => ⟨0, (q_leap_Table_Length_m 0 d).trans h⟩)

/- (*horologe/leap.Table).Has -/
@[reducible] def pi_leap_Table_Has : PSh := ⟨[], [.mk false [.v (.nptr (.pair (.sl (.pair (.int .i64) (.int .i64))) (.pair (.int .i64) (.int .i64))))], .mk false [.v (.int .i64)], .mk false [.v (.int .i64)]]⟩
@[reducible] def po_leap_Table_Has : PSh := ⟨[], [.mk false [.v .bool]]⟩
def f_leap_Table_Has_m (T : Unit) (d : Unit × (((Option ((List (Int × Int)) × (Int × Int))) × Unit) × ((Int × Unit) × ((Int × Unit) × Unit)))) : Option (Unit × ((Bool × Unit) × Unit)) :=
  let x1 : Bool := (decide (d.2.2.2.1.1 ≥ (0 : Int)))
  bif x1 then (
  (g_leap_Table_Length ((), ((d.2.1.1, ()), ((d.2.2.1.1, ()), ())))).bind fun x2 =>
  let x3 : Bool := (decide (d.2.2.2.1.1 < x2.2.1.1))
  some ((), ((x3, ()), ())))
  else (
  some ((), ((false, ()), ())))
def c_leap_Table_Has : List Nat := []
def L_leap_Table_Has (_ : Nat) : Pts po_leap_Table_Has.den := []
def E_leap_Table_Has : Env := (E0.add 88 (typedSem pi_leap_Table_Length po_leap_Table_Length g_leap_Table_Length))
theorem q_leap_Table_Has_m (k : Nat) (d : Unit × (((Option ((List (Int × Int)) × (Int × Int))) × Unit) × ((Int × Unit) × ((Int × Unit) × Unit)))) : evCode E_leap_Table_Has (tab (L_leap_Table_Has k)) c_leap_Table_Has (bodyOf Tryz.f38) 0 (finK E_leap_Table_Has po_leap_Table_Has [.tmp 6]) (startSt pi_leap_Table_Has 16 d) = f_leap_Table_Has_m () d := by kernel_rfl
def g_leap_Table_Has (d : Unit × (((Option ((List (Int × Int)) × (Int × Int))) × Unit) × ((Int × Unit) × ((Int × Unit) × Unit)))) : Option (Unit × ((Bool × Unit) × Unit)) := f_leap_Table_Has_m () d
theorem ok_leap_Table_Has : FnOk Tryz.prog ET0 38 pi_leap_Table_Has po_leap_Table_Has g_leap_Table_Has :=
  fn_of_body (E := E_leap_Table_Has) (envOk_add e0_ok (typed_ok ok_leap_Table_Length)) (fn := Tryz.f38) Tryz.func38 (by kernel_rfl) (by kernel_rfl) [.tmp 6] (by kernel_rfl) (by kernel_rfl) (by decide) rfl c_leap_Table_Has L_leap_Table_Has
    (by intro x hx; cases hx) (by intro k x hx; cases hx) (fun d out h => ⟨0, (q_leap_Table_Has_m 0 d).trans h⟩)

/- horologe/nist.ParseBy -/
@[reducible] def pi_nist_ParseBy : PSh := ⟨[], [.mk false [.v (.nptr (.pair (.sl (.pair (.int .i64) (.int .i64))) (.pair (.int .i64) (.int .i64))))], .mk false [.v .str]]⟩
@[reducible] def po_nist_ParseBy : PSh := ⟨[], [.mk true [.v (.int .i64), .v (.int .i64), .v (.int .i64), .v (.int .i64), .v (.int .i64), .v (.int .i64), .v .bool], .mk false [.v .err]]⟩
def f_nist_ParseBy_m (T : Unit) (d : Unit × (((Option ((List (Int × Int)) × (Int × Int))) × Unit) × ((ByteArray × Unit) × Unit))) : Option (Unit × ((Int × (Int × (Int × (Int × (Int × (Int × (Bool × Unit))))))) × (((Option Int) × Unit) × Unit))) :=
  (g_nist_Parse ((), ((d.2.2.1.1, ()), ()))).bind fun x1 =>
  let x2 : Bool := (!x1.2.2.1.1.isNone)
  bif x2 then (
  some ((), (((0 : Int), ((0 : Int), ((0 : Int), ((0 : Int), ((0 : Int), ((0 : Int), (false, ()))))))), ((x1.2.2.1.1, ()), ()))))
  else (
  (g_leap_Table_Has ((), ((d.2.1.1, ()), ((x1.2.1.1, ()), ((x1.2.1.2.1, ()), ()))))).bind fun x3 =>
  let x4 : Bool := (!x3.2.1.1)
  bif x4 then (
  let x5 : (Option Int) := (some (12 : Int))
  some ((), (((0 : Int), ((0 : Int), ((0 : Int), ((0 : Int), ((0 : Int), ((0 : Int), (false, ()))))))), ((x5, ()), ()))))
  else (
  some ((), ((x1.2.1.1, (x1.2.1.2.1, (x1.2.1.2.2.1, (x1.2.1.2.2.2.1, (x1.2.1.2.2.2.2.1, (x1.2.1.2.2.2.2.2.1, (x1.2.1.2.2.2.2.2.2.1, ()))))))), (((none : Option Int), ()), ())))))
def c_nist_ParseBy : List Nat := []
def L_nist_ParseBy (_ : Nat) : Pts po_nist_ParseBy.den := []
def E_nist_ParseBy : Env := ((E0.add 7 (typedSem pi_nist_Parse po_nist_Parse g_nist_Parse)).add 38 (typedSem pi_leap_Table_Has po_leap_Table_Has g_leap_Table_Has))
theorem q_nist_ParseBy_m (k : Nat) (d : Unit × (((Option ((List (Int × Int)) × (Int × Int))) × Unit) × ((ByteArray × Unit) × Unit))) : evCode E_nist_ParseBy (tab (L_nist_ParseBy k)) c_nist_ParseBy (bodyOf Tryz.f13) 0 (finK E_nist_ParseBy po_nist_ParseBy [.cell 4 28, .tmp 5]) (startSt pi_nist_ParseBy 29 d) = f_nist_ParseBy_m () d := by kernel_rfl
def g_nist_ParseBy (d : Unit × (((Option ((List (Int × Int)) × (Int × Int))) × Unit) × ((ByteArray × Unit) × Unit))) : Option (Unit × ((Int × (Int × (Int × (Int × (Int × (Int × (Bool × Unit))))))) × (((Option Int) × Unit) × Unit))) := f_nist_ParseBy_m () d
theorem ok_nist_ParseBy : FnOk Tryz.prog ET0 13 pi_nist_ParseBy po_nist_ParseBy g_nist_ParseBy :=
  fn_of_body (E := E_nist_ParseBy) (envOk_add (envOk_add e0_ok (typed_ok ok_nist_Parse)) (typed_ok ok_leap_Table_Has)) (fn := Tryz.f13) Tryz.func13 (by kernel_rfl) (by kernel_rfl) [.cell 4 28, .tmp 5] (by kernel_rfl) (by kernel_rfl) (by decide) rfl c_nist_ParseBy L_nist_ParseBy
    (by intro x hx; cases hx) (by intro k x hx; cases hx) (fun d out h => ⟨0, (q_nist_ParseBy_m 0 d).trans h⟩)

/- horologe/horologeref10.Leap -/
@[reducible] def pi_ref10_Leap : PSh := ⟨[], [.mk true [.v (.sl (.pair (.int .i64) (.int .i64))), .v (.int .i64), .v (.int .i64)], .mk false [.v (.int .i64)]]⟩
@[reducible] def po_ref10_Leap : PSh := ⟨[], [.mk false [.v (.int .i64)]]⟩
@[reducible] def TT_ref10_Leap : Type := ((((((List (Int × Int)) × (Int × (Int × Unit))) × Unit) × ((Int × Unit) × (Unit × ((Int × Unit) × Unit)))) → Option (Unit × ((Int × Unit) × Unit))) × Unit)
@[reducible] def sh_ref10_Leap_3 : PSh := ⟨[.var 41 [.v (.sl (.pair (.int .i64) (.int .i64))), .v (.int .i64), .v (.int .i64)]], [.any, .mk false [.v (.int .i64)], .mk false [.ref 0 0], .any, .any, .mk false [.v (.int .i64)], .any, .any, .any, .any, .any, .any, .any, .any, .any, .any, .any, .any, .any, .any, .any, .any, .any, .any, .any, .any, .any, .any, .any, .any, .any, .any, .any, .any, .any, .any]⟩
def f_ref10_Leap_p3 (T : TT_ref10_Leap) (d : (((List (Int × Int)) × (Int × (Int × Unit))) × Unit) × ((Int × Unit) × (Unit × ((Int × Unit) × Unit)))) : Option (Unit × ((Int × Unit) × Unit)) :=
  let x1 : Int := (d.1.1.1.length : Int)
  let x2 : Bool := (decide (d.2.2.2.1.1 < x1))
  bif x2 then (
  bif decide ((0 : Int) ≤ d.2.2.2.1.1) && decide (d.2.2.2.1.1 < (d.1.1.1.length : Int)) then (
  let x3 : Int := (isub .i64 (gd_i64_i64 d.1.1.1 d.2.2.2.1.1).1 (1 : Int))
  let x4 : Bool := (x3 == d.2.1.1)
  bif x4 then (
  bif decide ((0 : Int) ≤ d.2.2.2.1.1) && decide (d.2.2.2.1.1 < (d.1.1.1.length : Int)) then (
  let x5 : Int := (isub .i64 d.2.2.2.1.1 (1 : Int))
  bif decide ((0 : Int) ≤ x5) && decide (x5 < (d.1.1.1.length : Int)) then (
  let x6 : Int := (isub .i64 (gd_i64_i64 d.1.1.1 d.2.2.2.1.1).2 (gd_i64_i64 d.1.1.1 x5).2)
  some ((), ((x6, ()), ())))
  else none)
  else none)
  else (
  let x7 : Int := (iadd .i64 d.2.2.2.1.1 (1 : Int))
  (T.1 (((d.1.1.1, (d.1.1.2.1, (d.1.1.2.2.1, ()))), ()), ((d.2.1.1, ()), ((), ((x7, ()), ())))))))
  else none)
  else (
  some ((), (((0 : Int), ()), ())))
def f_ref10_Leap_t : Nat → TT_ref10_Leap
  | 0 => (fun _ => none, ())
  | k + 1 => (f_ref10_Leap_p3 (f_ref10_Leap_t k), ())
theorem t_ref10_Leap (k : Nat) : f_ref10_Leap_t (k + 1) = (f_ref10_Leap_p3 (f_ref10_Leap_t k), ()) := rfl
def f_ref10_Leap_m (T : TT_ref10_Leap) (d : Unit × (((List (Int × Int)) × (Int × (Int × Unit))) × ((Int × Unit) × Unit))) : Option (Unit × ((Int × Unit) × Unit)) :=
  (T.1 (((d.2.1.1, (d.2.1.2.1, (d.2.1.2.2.1, ()))), ()), ((d.2.2.1.1, ()), ((), (((1 : Int), ()), ())))))
def c_ref10_Leap : List Nat := []
def L_ref10_Leap (k : Nat) : Pts po_ref10_Leap.den := [(3, ⟨sh_ref10_Leap_3, (f_ref10_Leap_t k).1⟩)]
def E_ref10_Leap : Env := E0
theorem q_ref10_Leap_3 (k : Nat) (d : (((List (Int × Int)) × (Int × (Int × Unit))) × Unit) × ((Int × Unit) × (Unit × ((Int × Unit) × Unit)))) : evAt E_ref10_Leap (tab (L_ref10_Leap k)) c_ref10_Leap 3 (bodyOf Tryz.f39) 0 (finK E_ref10_Leap po_ref10_Leap [.tmp 4]) (ptSt sh_ref10_Leap_3 d) = f_ref10_Leap_p3 (f_ref10_Leap_t k) d := by kernel_rfl
theorem q_ref10_Leap_m (k : Nat) (d : Unit × (((List (Int × Int)) × (Int × (Int × Unit))) × ((Int × Unit) × Unit))) : evCode E_ref10_Leap (tab (L_ref10_Leap k)) c_ref10_Leap (bodyOf Tryz.f39) 0 (finK E_ref10_Leap po_ref10_Leap [.tmp 4]) (startSt pi_ref10_Leap 36 d) = f_ref10_Leap_m (f_ref10_Leap_t k) d := by kernel_rfl
theorem go_ref10_Leap (F : Unit × (((List (Int × Int)) × (Int × (Int × Unit))) × ((Int × Unit) × Unit)) → Option (Unit × ((Int × Unit) × Unit))) (hF : ∀ d out, F d = some out → ∃ k, f_ref10_Leap_m (f_ref10_Leap_t k) d = some out) : FnOk Tryz.prog ET0 39 pi_ref10_Leap po_ref10_Leap F :=
  fn_of_body (E := E_ref10_Leap) e0_ok (fn := Tryz.f39) Tryz.func39 (by kernel_rfl) (by kernel_rfl) [.tmp 4] (by kernel_rfl) (by kernel_rfl) (by decide) rfl c_ref10_Leap L_ref10_Leap
    (by intro x hx d; simp only [L_ref10_Leap, List.mem_cons, List.not_mem_nil, or_false] at hx; subst hx; rfl)
    (by intro k x hx d out h; simp only [L_ref10_Leap, List.mem_cons, List.not_mem_nil, or_false] at hx; subst hx; exact (q_ref10_Leap_3 k d).trans h)
    (by intro d out h; obtain ⟨k, hk⟩ := hF d out h; exact ⟨k, (q_ref10_Leap_m k d).trans hk⟩)
def g_ref10_Leap (d : Unit × (((List (Int × Int)) × (Int × (Int × Unit))) × ((Int × Unit) × Unit))) : Option (Unit × ((Int × Unit) × Unit)) := lim fun k => f_ref10_Leap_m (f_ref10_Leap_t k) d
theorem ok_ref10_Leap : FnOk Tryz.prog ET0 39 pi_ref10_Leap po_ref10_Leap g_ref10_Leap := go_ref10_Leap g_ref10_Leap fun d out h => lim_some h

/- horologe/horologeref12.Has -/
@[reducible] def pi_ref12_Has : PSh := ⟨[], [.mk true [.v (.sl (.pair (.int .i64) (.int .i64))), .v (.int .i64), .v (.int .i64)], .mk false [.v (.int .i64)], .mk false [.v (.int .i64)]]⟩
@[reducible] def po_ref12_Has : PSh := ⟨[], [.mk false [.v .bool]]⟩
def f_ref12_Has_m (T : Unit) (d : Unit × (((List (Int × Int)) × (Int × (Int × Unit))) × ((Int × Unit) × ((Int × Unit) × Unit)))) : Option (Unit × ((Bool × Unit) × Unit)) :=
  let x1 : Bool := (decide (d.2.2.2.1.1 ≥ (0 : Int)))
  bif x1 then (
  (g_ref10_Leap ((), ((d.2.1.1, (d.2.1.2.1, (d.2.1.2.2.1, ()))), ((d.2.2.1.1, ()), ())))).bind fun x2 =>
  let x3 : Int := (iadd .i64 (86400 : Int) x2.2.1.1)
  let x4 : Bool := (decide (d.2.2.2.1.1 < x3))
  some ((), ((x4, ()), ())))
  else (
  some ((), ((false, ()), ())))
def c_ref12_Has : List Nat := []
def L_ref12_Has (_ : Nat) : Pts po_ref12_Has.den := []
def E_ref12_Has : Env := (E0.add 39 (typedSem pi_ref10_Leap po_ref10_Leap g_ref10_Leap))
theorem q_ref12_Has_m (k : Nat) (d : Unit × (((List (Int × Int)) × (Int × (Int × Unit))) × ((Int × Unit) × ((Int × Unit) × Unit)))) : evCode E_ref12_Has (tab (L_ref12_Has k)) c_ref12_Has (bodyOf Tryz.f14) 0 (finK E_ref12_Has po_ref12_Has [.tmp 6]) (startSt pi_ref12_Has 17 d) = f_ref12_Has_m () d := by kernel_rfl
def g_ref12_Has (d : Unit × (((List (Int × Int)) × (Int × (Int × Unit))) × ((Int × Unit) × ((Int × Unit) × Unit)))) : Option (Unit × ((Bool × Unit) × Unit)) := f_ref12_Has_m () d
theorem ok_ref12_Has : FnOk Tryz.prog ET0 14 pi_ref12_Has po_ref12_Has g_ref12_Has :=
  fn_of_body (E := E_ref12_Has) (envOk_add e0_ok (typed_ok ok_ref10_Leap)) (fn := Tryz.f14) Tryz.func14 (by kernel_rfl) (by kernel_rfl) [.tmp 6] (by kernel_rfl) (by kernel_rfl) (by decide) rfl c_ref12_Has L_ref12_Has
    (by intro x hx; cases hx) (by intro k x hx; cases hx) (fun d out h => ⟨0, (q_ref12_Has_m 0 d).trans h⟩)

/- horologe/horologelaw26.NistParses -/
@[reducible] def pi_law26_NistParses : PSh := ⟨[], [.mk false [.v .str], .mk true [.v (.sl (.pair (.int .i64) (.int .i64))), .v (.int .i64), .v (.int .i64)]]⟩
@[reducible] def po_law26_NistParses : PSh := ⟨[], [.mk false [.v .bool]]⟩
def f_law26_NistParses_m (T : Unit) (d : Unit × ((ByteArray × Unit) × (((List (Int × Int)) × (Int × (Int × Unit))) × Unit))) : Option (Unit × ((Bool × Unit) × Unit)) :=
  (g_law26_alive ((), ())).bind fun x1 =>
  let x2 : Bool := (!x1.2.1.1)
  bif x2 then (
  some ((), ((false, ()), ())))
  else (
  let x3 : Int := (d.2.1.1.size : Int)
  let x4 : Bool := (decide (x3 > (200 : Int)))
  bif x4 then (
  some ((), ((true, ()), ())))
  else (
  (g_law10_Long ((), ((d.2.2.1.1, (d.2.2.1.2.1, (d.2.2.1.2.2.1, ()))), ()))).bind fun x5 =>
  bif x5.2.1.1 then (
  some ((), ((true, ()), ())))
  else (
  (g_nist_Parse ((), ((d.2.1.1, ()), ()))).bind fun x6 =>
  (g_ref26_Parse ((), ((d.2.1.1, ()), ()))).bind fun x7 =>
  (g_law26_Document ((), ((x6.2.1.1, (x6.2.1.2.1, (x6.2.1.2.2.1, (x6.2.1.2.2.2.1, (x6.2.1.2.2.2.2.1, (x6.2.1.2.2.2.2.2.1, (x6.2.1.2.2.2.2.2.2.1, ()))))))), ()))).bind fun x8 =>
  let x9 : Bool := (!((x8.2.1.1 == x7.2.1.1) && ((x8.2.1.2.1 == x7.2.1.2.1) && ((x8.2.1.2.2.1 == x7.2.1.2.2.1) && ((x8.2.1.2.2.2.1 == x7.2.1.2.2.2.1) && ((x8.2.1.2.2.2.2.1 == x7.2.1.2.2.2.2.1) && ((x8.2.1.2.2.2.2.2.1 == x7.2.1.2.2.2.2.2.1) && ((x8.2.1.2.2.2.2.2.2.1 == x7.2.1.2.2.2.2.2.2.1) && true))))))))
  bif x9 then (
  some ((), ((false, ()), ())))
  else (
  (g_hnum_Num ((), ((x6.2.2.1.1, ()), ()))).bind fun x10 =>
  let x11 : Bool := (x10.2.1.1 != x7.2.2.1.1)
  bif x11 then (
  some ((), ((false, ()), ())))
  else (
  (g_law10_Made ((), ((d.2.2.1.1, (d.2.2.1.2.1, (d.2.2.1.2.2.1, ()))), ()))).bind fun x12 =>
  let x13 : Bool := (!x12.2.2.2.1.1)
  bif x13 then (
  (g_ref10_Check ((), ((x12.1.1, (x12.2.2.1.1, (x12.2.2.1.2.1, ()))), ()))).bind fun x14 =>
  let x15 : Bool := (x14.2.1.1 != (0 : Int))
  some ((), ((x15, ()), ())))
  else (
  (g_nist_ParseBy ((), ((x12.2.1.1, ()), ((d.2.1.1, ()), ())))).bind fun x16 =>
  let x17 : Bool := (x7.2.2.1.1 == (0 : Int))
  bif x17 then (
  (g_ref12_Has ((), ((x12.1.1, (x12.2.2.1.1, (x12.2.2.1.2.1, ()))), ((x7.2.1.1, ()), ((x7.2.1.2.1, ()), ()))))).bind fun x18 =>
  let x19 : Bool := (!x18.2.1.1)
  bif x19 then (
  (g_law26_Document ((), ((x16.2.1.1, (x16.2.1.2.1, (x16.2.1.2.2.1, (x16.2.1.2.2.2.1, (x16.2.1.2.2.2.2.1, (x16.2.1.2.2.2.2.2.1, (x16.2.1.2.2.2.2.2.2.1, ()))))))), ()))).bind fun x20 =>
  let x21 : Bool := ((x20.2.1.1 == (0 : Int)) && ((x20.2.1.2.1 == (0 : Int)) && ((x20.2.1.2.2.1 == (0 : Int)) && ((x20.2.1.2.2.2.1 == (0 : Int)) && ((x20.2.1.2.2.2.2.1 == (0 : Int)) && ((x20.2.1.2.2.2.2.2.1 == (0 : Int)) && ((x20.2.1.2.2.2.2.2.2.1 == false) && true)))))))
  bif x21 then (
  (g_hnum_Num ((), ((x16.2.2.1.1, ()), ()))).bind fun x22 =>
  let x23 : Bool := (x22.2.1.1 == (12 : Int))
  some ((), ((x23, ()), ())))
  else (
  some ((), ((false, ()), ()))))
  else (
  (g_law26_Document ((), ((x16.2.1.1, (x16.2.1.2.1, (x16.2.1.2.2.1, (x16.2.1.2.2.2.1, (x16.2.1.2.2.2.2.1, (x16.2.1.2.2.2.2.2.1, (x16.2.1.2.2.2.2.2.2.1, ()))))))), ()))).bind fun x24 =>
  let x25 : Bool := ((x24.2.1.1 == x7.2.1.1) && ((x24.2.1.2.1 == x7.2.1.2.1) && ((x24.2.1.2.2.1 == x7.2.1.2.2.1) && ((x24.2.1.2.2.2.1 == x7.2.1.2.2.2.1) && ((x24.2.1.2.2.2.2.1 == x7.2.1.2.2.2.2.1) && ((x24.2.1.2.2.2.2.2.1 == x7.2.1.2.2.2.2.2.1) && ((x24.2.1.2.2.2.2.2.2.1 == x7.2.1.2.2.2.2.2.2.1) && true)))))))
  bif x25 then (
  (g_hnum_Num ((), ((x16.2.2.1.1, ()), ()))).bind fun x26 =>
  let x27 : Bool := (x26.2.1.1 == x7.2.2.1.1)
  some ((), ((x27, ()), ())))
  else (
  some ((), ((false, ()), ())))))
  else (
  (g_law26_Document ((), ((x16.2.1.1, (x16.2.1.2.1, (x16.2.1.2.2.1, (x16.2.1.2.2.2.1, (x16.2.1.2.2.2.2.1, (x16.2.1.2.2.2.2.2.1, (x16.2.1.2.2.2.2.2.2.1, ()))))))), ()))).bind fun x28 =>
  let x29 : Bool := ((x28.2.1.1 == x7.2.1.1) && ((x28.2.1.2.1 == x7.2.1.2.1) && ((x28.2.1.2.2.1 == x7.2.1.2.2.1) && ((x28.2.1.2.2.2.1 == x7.2.1.2.2.2.1) && ((x28.2.1.2.2.2.2.1 == x7.2.1.2.2.2.2.1) && ((x28.2.1.2.2.2.2.2.1 == x7.2.1.2.2.2.2.2.1) && ((x28.2.1.2.2.2.2.2.2.1 == x7.2.1.2.2.2.2.2.2.1) && true)))))))
  bif x29 then (
  (g_hnum_Num ((), ((x16.2.2.1.1, ()), ()))).bind fun x30 =>
  let x31 : Bool := (x30.2.1.1 == x7.2.2.1.1)
  some ((), ((x31, ()), ())))
  else (
  some ((), ((false, ()), ()))))))))))
def c_law26_NistParses : List Nat := []
def L_law26_NistParses (_ : Nat) : Pts po_law26_NistParses.den := []
def E_law26_NistParses : Env := ((((((((((E0.add 5 (typedSem pi_law26_alive po_law26_alive g_law26_alive)).add 6 (typedSem pi_law10_Long po_law10_Long g_law10_Long)).add 7 (typedSem pi_nist_Parse po_nist_Parse g_nist_Parse)).add 8 (typedSem pi_ref26_Parse po_ref26_Parse g_ref26_Parse)).add 9 (typedSem pi_law26_Document po_law26_Document g_law26_Document)).add 10 (typedSem pi_hnum_Num po_hnum_Num g_hnum_Num)).add 11 (typedSem pi_law10_Made po_law10_Made g_law10_Made)).add 12 (typedSem pi_ref10_Check po_ref10_Check g_ref10_Check)).add 13 (typedSem pi_nist_ParseBy po_nist_ParseBy g_nist_ParseBy)).add 14 (typedSem pi_ref12_Has po_ref12_Has g_ref12_Has))
theorem q_law26_NistParses_m (k : Nat) (d : Unit × ((ByteArray × Unit) × (((List (Int × Int)) × (Int × (Int × Unit))) × Unit))) : evCode E_law26_NistParses (tab (L_law26_NistParses k)) c_law26_NistParses (bodyOf Tryz.f3) 0 (finK E_law26_NistParses po_law26_NistParses [.tmp 4]) (startSt pi_law26_NistParses 80 d) = f_law26_NistParses_m () d := by kernel_rfl
def g_law26_NistParses (d : Unit × ((ByteArray × Unit) × (((List (Int × Int)) × (Int × (Int × Unit))) × Unit))) : Option (Unit × ((Bool × Unit) × Unit)) := f_law26_NistParses_m () d
theorem ok_law26_NistParses : FnOk Tryz.prog ET0 3 pi_law26_NistParses po_law26_NistParses g_law26_NistParses :=
  fn_of_body (E := E_law26_NistParses) (envOk_add (envOk_add (envOk_add (envOk_add (envOk_add (envOk_add (envOk_add (envOk_add (envOk_add (envOk_add e0_ok (typed_ok ok_law26_alive)) (typed_ok ok_law10_Long)) (typed_ok ok_nist_Parse)) (typed_ok ok_ref26_Parse)) (typed_ok ok_law26_Document)) (typed_ok ok_hnum_Num)) (typed_ok ok_law10_Made)) (typed_ok ok_ref10_Check)) (typed_ok ok_nist_ParseBy)) (typed_ok ok_ref12_Has)) (fn := Tryz.f3) Tryz.func3 (by kernel_rfl) (by kernel_rfl) [.tmp 4] (by kernel_rfl) (by kernel_rfl) (by decide) rfl c_law26_NistParses L_law26_NistParses
    (by intro x hx; cases hx) (by intro k x hx; cases hx) (fun d out h => ⟨0, (q_law26_NistParses_m 0 d).trans h⟩)
end
end Go.Proofs.YticfncahnhbhbaaGreat.Ev
