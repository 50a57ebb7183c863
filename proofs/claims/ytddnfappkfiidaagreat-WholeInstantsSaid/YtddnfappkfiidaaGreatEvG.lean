/- Printed by wip/tools/evgen.py. -/
import Derived.Test.YtddnfappkfiidaaGreatEvGa
import Derived.Test.YtddnfappkfiidaaGreatEvE
import Derived.Test.YtddnfappkfiidaaGreatProg
import Derived.KernelRfl
set_option maxRecDepth 100000
set_option maxHeartbeats 2000000
set_option linter.unusedVariables false
namespace Go.Proofs.YtddnfappkfiidaaGreat.Ev
open Go
noncomputable section

@[reducible] def pi_leap_Table_Leap : PSh := ⟨[], [.mk false [.v (.nptr (.pair (.sl (.pair (.int .i64) (.int .i64))) (.pair (.int .i64) (.int .i64))))], .mk false [vI]]⟩
@[reducible] def po_leap_Table_Leap : PSh := ⟨[], [.mk false [vI]]⟩
def f_leap_Table_Leap_m (T : Unit) (d : Unit × (((Option ((List (Int × Int)) × (Int × Int))) × Unit) × ((Int × Unit) × Unit))) : Option (Unit × ((Int × Unit) × Unit)) :=
  (g_leap_Table_behind ((), d.2)).bind fun x1 =>
  (g_leap_Table_Row ((), (d.2.1, x1.2))).bind fun x2 =>
  let x3 : Bool := (!x2.2.2.1.1)
  bif x3 then (
  some ((), (((0 : Int), ()), ())))
  else (
  let x4 : Int := (isub .i64 x2.2.1.1 (1 : Int))
  let x5 : Bool := (x4 != d.2.2.1.1)
  bif x5 then (
  some ((), (((0 : Int), ()), ())))
  else (
  (g_leap_Table_behind ((), d.2)).bind fun x6 =>
  (g_leap_Table_change ((), (d.2.1, x6.2))).bind fun x7 =>
  some ((), x7.2)))
def g_leap_Table_Leap (d : Unit × (((Option ((List (Int × Int)) × (Int × Int))) × Unit) × ((Int × Unit) × Unit))) : Option (Unit × ((Int × Unit) × Unit)) := f_leap_Table_Leap_m () d
theorem ok_leap_Table_Leap : FnOk Tryz.prog ET0 199 pi_leap_Table_Leap po_leap_Table_Leap g_leap_Table_Leap :=
  fn0 (E := (((E0.add 167 (typedSem pi_leap_Table_Row po_leap_Table_Row g_leap_Table_Row)).add 168 (typedSem pi_leap_Table_behind po_leap_Table_behind g_leap_Table_behind)).add 225 (typedSem pi_leap_Table_change po_leap_Table_change g_leap_Table_change))) (envOk_add (envOk_add (envOk_add e0_ok (typed_ok ok_leap_Table_Row)) (typed_ok ok_leap_Table_behind)) (typed_ok ok_leap_Table_change)) (fn := Tryz.f199) Tryz.func199 (by kernel_rfl) (by kernel_rfl) [.tmp 4] (by kernel_rfl) rfl rfl rfl [] fun d => by kernel_rfl

@[reducible] def pi_leap_Table_Length : PSh := ⟨[], [.mk false [.v (.nptr (.pair (.sl (.pair (.int .i64) (.int .i64))) (.pair (.int .i64) (.int .i64))))], .mk false [vI]]⟩
@[reducible] def po_leap_Table_Length : PSh := ⟨[], [.mk false [vI]]⟩
def f_leap_Table_Length_m (T : Unit) (d : Unit × (((Option ((List (Int × Int)) × (Int × Int))) × Unit) × ((Int × Unit) × Unit))) : Option (Unit × ((Int × Unit) × Unit)) :=
  (g_leap_Table_Leap ((), d.2)).bind fun x1 =>
  let x2 : Int := (iadd .i64 (86400 : Int) x1.2.1.1)
  some ((), ((x2, ()), ()))
def g_leap_Table_Length (d : Unit × (((Option ((List (Int × Int)) × (Int × Int))) × Unit) × ((Int × Unit) × Unit))) : Option (Unit × ((Int × Unit) × Unit)) := f_leap_Table_Length_m () d
theorem ok_leap_Table_Length : FnOk Tryz.prog ET0 152 pi_leap_Table_Length po_leap_Table_Length g_leap_Table_Length :=
  fn0 (E := (E0.add 199 (typedSem pi_leap_Table_Leap po_leap_Table_Leap g_leap_Table_Leap))) (envOk_add e0_ok (typed_ok ok_leap_Table_Leap)) (fn := Tryz.f152) Tryz.func152 (by kernel_rfl) (by kernel_rfl) [.tmp 4] (by kernel_rfl) rfl rfl rfl [] fun d => by kernel_rfl

@[reducible] def pi_leap_Table_Has : PSh := ⟨[], [.mk false [.v (.nptr (.pair (.sl (.pair (.int .i64) (.int .i64))) (.pair (.int .i64) (.int .i64))))], .mk false [vI], .mk false [vI]]⟩
@[reducible] def po_leap_Table_Has : PSh := ⟨[], [.mk false [vB]]⟩
def f_leap_Table_Has_m (T : Unit) (d : Unit × (((Option ((List (Int × Int)) × (Int × Int))) × Unit) × ((Int × Unit) × ((Int × Unit) × Unit)))) : Option (Unit × ((Bool × Unit) × Unit)) :=
  let x1 : Bool := (decide (d.2.2.2.1.1 ≥ (0 : Int)))
  bif x1 then (
  (g_leap_Table_Length ((), (d.2.1, (d.2.2.1, ())))).bind fun x2 =>
  let x3 : Bool := (decide (d.2.2.2.1.1 < x2.2.1.1))
  some ((), ((x3, ()), ())))
  else (
  some ((), ((false, ()), ())))
def g_leap_Table_Has (d : Unit × (((Option ((List (Int × Int)) × (Int × Int))) × Unit) × ((Int × Unit) × ((Int × Unit) × Unit)))) : Option (Unit × ((Bool × Unit) × Unit)) := f_leap_Table_Has_m () d
theorem ok_leap_Table_Has : FnOk Tryz.prog ET0 77 pi_leap_Table_Has po_leap_Table_Has g_leap_Table_Has :=
  fn0 (E := (E0.add 152 (typedSem pi_leap_Table_Length po_leap_Table_Length g_leap_Table_Length))) (envOk_add e0_ok (typed_ok ok_leap_Table_Length)) (fn := Tryz.f77) Tryz.func77 (by kernel_rfl) (by kernel_rfl) [.tmp 6] (by kernel_rfl) rfl rfl rfl [] fun d => by kernel_rfl

@[reducible] def pi_leap_Table_Offset : PSh := ⟨[], [.mk false [.v (.nptr (.pair (.sl (.pair (.int .i64) (.int .i64))) (.pair (.int .i64) (.int .i64))))], .mk false [vI]]⟩
@[reducible] def po_leap_Table_Offset : PSh := ⟨[], [.mk false [vI], .mk false [vB]]⟩
def f_leap_Table_Offset_m (T : Unit) (d : Unit × (((Option ((List (Int × Int)) × (Int × Int))) × Unit) × ((Int × Unit) × Unit))) : Option (Unit × ((Int × Unit) × ((Bool × Unit) × Unit))) :=
  (g_leap_Table_behind ((), d.2)).bind fun x1 =>
  let x2 : Int := (isub .i64 x1.2.1.1 (1 : Int))
  (g_leap_Table_Row ((), (d.2.1, ((x2, ()), ())))).bind fun x3 =>
  some ((), (x3.2.1.2, x3.2.2))
def g_leap_Table_Offset (d : Unit × (((Option ((List (Int × Int)) × (Int × Int))) × Unit) × ((Int × Unit) × Unit))) : Option (Unit × ((Int × Unit) × ((Bool × Unit) × Unit))) := f_leap_Table_Offset_m () d
theorem ok_leap_Table_Offset : FnOk Tryz.prog ET0 97 pi_leap_Table_Offset po_leap_Table_Offset g_leap_Table_Offset :=
  fn0 (E := ((E0.add 167 (typedSem pi_leap_Table_Row po_leap_Table_Row g_leap_Table_Row)).add 168 (typedSem pi_leap_Table_behind po_leap_Table_behind g_leap_Table_behind))) (envOk_add (envOk_add e0_ok (typed_ok ok_leap_Table_Row)) (typed_ok ok_leap_Table_behind)) (fn := Tryz.f97) Tryz.func97 (by kernel_rfl) (by kernel_rfl) [.tmp 4, .tmp 5] (by kernel_rfl) rfl rfl rfl [] fun d => by kernel_rfl

@[reducible] def pi_scale_Tai : PSh := ⟨[], [.mk false [.v (.nptr (.pair (.sl (.pair (.int .i64) (.int .i64))) (.pair (.int .i64) (.int .i64))))], .mk true [vI, vI, vI, vI, vI, vI, vI, vI]]⟩
@[reducible] def po_scale_Tai : PSh := ⟨[], [.mk false [vI], .mk false [vE]]⟩
def f_scale_Tai_m (T : Unit) (d : Unit × (((Option ((List (Int × Int)) × (Int × Int))) × Unit) × ((Int × (Int × (Int × (Int × (Int × (Int × (Int × (Int × Unit)))))))) × Unit))) : Option (Unit × ((Int × Unit) × (((Option Int) × Unit) × Unit))) :=
  (g_label_Split ((), d.2.2)).bind fun x1 =>
  let x2 : Bool := (!x1.2.2.2.1.1.isNone)
  bif x2 then (
  some ((), (((0 : Int), ()), x1.2.2.2)))
  else (
  (g_leap_Table_Offset ((), (d.2.1, (x1.2.1, ())))).bind fun x3 =>
  let x4 : Bool := (!x3.2.2.1.1)
  bif x4 then (
  let x5 : (Option Int) := (some (8 : Int))
  some ((), (((0 : Int), ()), ((x5, ()), ()))))
  else (
  (g_leap_Table_Has ((), (d.2.1, (x1.2.1, (x1.2.2.1, ()))))).bind fun x6 =>
  let x7 : Bool := (!x6.2.1.1)
  bif x7 then (
  let x8 : (Option Int) := (some (12 : Int))
  some ((), (((0 : Int), ()), ((x8, ()), ()))))
  else (
  let x9 : Int := (imul .i64 x1.2.1.1 (86400 : Int))
  let x10 : Int := (iadd .i64 x1.2.2.1.1 x3.2.1.1)
  let x11 : Int := (iadd .i64 x9 x10)
  some ((), ((x11, ()), (((none : Option Int), ()), ()))))))
def g_scale_Tai (d : Unit × (((Option ((List (Int × Int)) × (Int × Int))) × Unit) × ((Int × (Int × (Int × (Int × (Int × (Int × (Int × (Int × Unit)))))))) × Unit))) : Option (Unit × ((Int × Unit) × (((Option Int) × Unit) × Unit))) := f_scale_Tai_m () d
theorem ok_scale_Tai : FnOk Tryz.prog ET0 30 pi_scale_Tai po_scale_Tai g_scale_Tai :=
  fn0 (E := (((E0.add 23 (typedSem pi_label_Split po_label_Split g_label_Split)).add 77 (typedSem pi_leap_Table_Has po_leap_Table_Has g_leap_Table_Has)).add 97 (typedSem pi_leap_Table_Offset po_leap_Table_Offset g_leap_Table_Offset))) (envOk_add (envOk_add (envOk_add e0_ok (typed_ok ok_label_Split)) (typed_ok ok_leap_Table_Has)) (typed_ok ok_leap_Table_Offset)) (fn := Tryz.f30) Tryz.func30 (by kernel_rfl) (by kernel_rfl) [.tmp 4, .tmp 5] (by kernel_rfl) rfl rfl rfl [] fun d => by kernel_rfl

@[reducible] def pi_leap_Table_Rows : PSh := ⟨[], [.mk false [.v (.nptr (.pair (.sl (.pair (.int .i64) (.int .i64))) (.pair (.int .i64) (.int .i64))))]]⟩
@[reducible] def po_leap_Table_Rows : PSh := ⟨[.row 130 (.pair (.int .i64) (.int .i64))], [.mk false [.osl 0]]⟩
def f_leap_Table_Rows_m (T : Unit) (d : Unit × (((Option ((List (Int × Int)) × (Int × Int))) × Unit) × Unit)) : Option (((List (Int × Int)) × Unit) × (Unit × Unit)) :=
  (g_leap_Table_list ((), d.2)).bind fun x1 =>
  (g_slices_Clone_leap_Row_leap_Row ((), x1.2)).bind fun x2 =>
  some (x2.1, ((), ()))
def g_leap_Table_Rows (d : Unit × (((Option ((List (Int × Int)) × (Int × Int))) × Unit) × Unit)) : Option (((List (Int × Int)) × Unit) × (Unit × Unit)) := f_leap_Table_Rows_m () d
theorem ok_leap_Table_Rows : FnOk Tryz.prog ET0 169 pi_leap_Table_Rows po_leap_Table_Rows g_leap_Table_Rows :=
  fn0 (E := ((E0.add 76 (typedSem pi_slices_Clone_leap_Row_leap_Row po_slices_Clone_leap_Row_leap_Row g_slices_Clone_leap_Row_leap_Row)).add 209 (typedSem pi_leap_Table_list po_leap_Table_list g_leap_Table_list))) (envOk_add (envOk_add e0_ok (typed_ok ok_slices_Clone_leap_Row_leap_Row)) (typed_ok ok_leap_Table_list)) (fn := Tryz.f169) Tryz.func169 (by kernel_rfl) (by kernel_rfl) [.tmp 2] (by kernel_rfl) rfl rfl rfl [] fun d => by kernel_rfl

@[reducible] def pi_scale_begins : PSh := ⟨[], [.mk true [vI, vI]]⟩
@[reducible] def po_scale_begins : PSh := ⟨[], [.mk false [vI]]⟩
def f_scale_begins_m (T : Unit) (d : Unit × ((Int × (Int × Unit)) × Unit)) : Option (Unit × ((Int × Unit) × Unit)) :=
  let x1 : Int := (imul .i64 d.2.1.1 (86400 : Int))
  let x2 : Int := (iadd .i64 x1 d.2.1.2.1)
  some ((), ((x2, ()), ()))
def g_scale_begins (d : Unit × ((Int × (Int × Unit)) × Unit)) : Option (Unit × ((Int × Unit) × Unit)) := f_scale_begins_m () d
theorem ok_scale_begins : FnOk Tryz.prog ET0 172 pi_scale_begins po_scale_begins g_scale_begins :=
  fn0 (E := E0) e0_ok (fn := Tryz.f172) Tryz.func172 (by kernel_rfl) (by kernel_rfl) [.tmp 2] (by kernel_rfl) rfl rfl rfl [] fun d => by kernel_rfl

@[reducible] def pi_scale_place_1_io : PSh := ⟨[.var 22 [.osl 1], .row 130 (.pair (.int .i64) (.int .i64)), .var 2 [vI]], [.mk false [vI], .mk false [.ref 0 0], .mk false [.ref 2 0]]⟩
@[reducible] def po_scale_place_1_io : PSh := ⟨[.var 22 [.osl 1], .row 130 (.pair (.int .i64) (.int .i64)), .var 2 [vI]], [.mk false [vB], .mk false [.ref 0 0], .mk false [.ref 2 0]]⟩
def f_scale_place_1_io_m (T : Unit) (d : (Unit × ((List (Int × Int)) × ((Int × Unit) × Unit))) × ((Int × Unit) × (Unit × (Unit × Unit)))) : Option ((Unit × ((List (Int × Int)) × ((Int × Unit) × Unit))) × ((Bool × Unit) × (Unit × (Unit × Unit)))) :=
  bif decide ((0 : Int) ≤ d.2.1.1) && decide (d.2.1.1 < (d.1.2.1.length : Int)) then (
  let x1 : (Int × Int) := (gd_i64_i64 d.1.2.1 d.2.1.1)
  (g_scale_begins ((), ((x1.1, (x1.2, ())), ()))).bind fun x2 =>
  let x3 : Bool := (decide (x2.2.1.1 > d.1.2.2.1.1))
  some (((), d.1.2), ((x3, ()), ((), ((), ())))))
  else none
def c_scale_place_1_io : List Nat := []
def L_scale_place_1_io (_ : Nat) : Pts po_scale_place_1_io.den := []
def R_scale_place_1_io (_ : Nat) : PtsR po_scale_place_1_io.den := []
def E_scale_place_1_io : Env := ((E0.add 172 (typedSem pi_scale_begins po_scale_begins g_scale_begins)).kp [1, 2])
theorem q_scale_place_1_io_m (k : Nat) (d : pi_scale_place_1_io.den) : evCode E_scale_place_1_io (tb (L_scale_place_1_io k) (R_scale_place_1_io k)) c_scale_place_1_io (bodyOf Tryz.f171) 0 (finKio E_scale_place_1_io po_scale_place_1_io [.tmp 4] [(1, none), (2, none)]) (startSt pi_scale_place_1_io 12 d) = f_scale_place_1_io_m () d := by kernel_rfl
def g_scale_place_1_io (d : (Unit × ((List (Int × Int)) × ((Int × Unit) × Unit))) × ((Int × Unit) × (Unit × (Unit × Unit)))) : Option ((Unit × ((List (Int × Int)) × ((Int × Unit) × Unit))) × ((Bool × Unit) × (Unit × (Unit × Unit)))) := f_scale_place_1_io_m () d
theorem ok_scale_place_1_io : FnIo Tryz.prog ET0 171 pi_scale_place_1_io po_scale_place_1_io 1 [(0, 1, none), (2, 2, none)] g_scale_place_1_io :=
  fn_of_bodyIo (E := E_scale_place_1_io) (envOk_kp (envOk_add e0_ok (typed_ok ok_scale_begins))) (fn := Tryz.f171) Tryz.func171 (by kernel_rfl) (by kernel_rfl) [.tmp 4] [(1, none), (2, none)] [(0, 1, none), (2, 2, none)] (by kernel_rfl) (by kernel_rfl) (by kernel_rfl) (by kernel_rfl) (by decide) (by decide) c_scale_place_1_io L_scale_place_1_io R_scale_place_1_io
    (by intro x hx; cases hx) (by intro k x hx; cases hx) (by intro x hx; cases hx) (by intro k x hx; cases hx) (fun d out h => ⟨0, (q_scale_place_1_io_m 0 d).trans h⟩)

@[reducible] def pi_sort_Search_scale_place_1 : PSh := ⟨[.var 22 [.osl 1], .row 130 (.pair (.int .i64) (.int .i64)), .var 2 [vI]], [.mk false [vI], .mk false [.fn 171 [0, 2]]]⟩
@[reducible] def po_sort_Search_scale_place_1 : PSh := ⟨[.var 22 [.osl 1], .row 130 (.pair (.int .i64) (.int .i64)), .var 2 [vI]], [.mk false [vI], .mk false [.ref 0 0], .mk false [.ref 2 0]]⟩
@[reducible] def TT_sort_Search_scale_place_1 : Type := ((((Unit × ((List (Int × Int)) × ((Int × Unit) × Unit))) × (Unit × ((Int × Unit) × ((Int × Unit) × Unit)))) → Option ((Unit × ((List (Int × Int)) × ((Int × Unit) × Unit))) × ((Int × Unit) × (Unit × (Unit × Unit))))) × Unit)
@[reducible] def sh_sort_Search_scale_place_1_3 : PSh := ⟨[.var 22 [.osl 1], .row 130 (.pair (.int .i64) (.int .i64)), .var 2 [vI]], [.any, .mk false [.fn 171 [0, 2]], .any, .any, .any, .mk false [vI], .mk false [vI], .any, .any, .any, .any, .any, .any, .any, .any, .any, .any, .any, .any, .any, .any, .any, .any, .any, .any, .any]⟩
def f_sort_Search_scale_place_1_p3 (T : TT_sort_Search_scale_place_1) (d : (Unit × ((List (Int × Int)) × ((Int × Unit) × Unit))) × (Unit × ((Int × Unit) × ((Int × Unit) × Unit)))) : Option ((Unit × ((List (Int × Int)) × ((Int × Unit) × Unit))) × ((Int × Unit) × (Unit × (Unit × Unit)))) :=
  let x1 : Bool := (decide (d.2.2.1.1 < d.2.2.2.1.1))
  bif x1 then (
  let x2 : Int := (iadd .i64 d.2.2.1.1 d.2.2.2.1.1)
  let x3 : Int := (iconv .u64 x2)
  let x4 : Int := (ishr .u64 x3 (1 : Int))
  let x5 : Int := (iconv .i64 x4)
  (g_scale_place_1_io (((), d.1.2), ((x5, ()), ((), ((), ()))))).bind fun x6 =>
  let x7 : Bool := (!x6.2.1.1)
  bif x7 then (
  let x8 : Int := (iadd .i64 x5 (1 : Int))
  (T.1 (((), x6.1.2), ((), ((x8, ()), d.2.2.2)))))
  else (
  (T.1 (((), x6.1.2), ((), (d.2.2.1, ((x5, ()), ())))))))
  else (
  some (((), d.1.2), (d.2.2.1, ((), ((), ())))))
def f_sort_Search_scale_place_1_t : Nat → TT_sort_Search_scale_place_1
  | 0 => (fun _ => none, ())
  | k + 1 => (f_sort_Search_scale_place_1_p3 (f_sort_Search_scale_place_1_t k), ())
theorem t_sort_Search_scale_place_1 (k : Nat) : f_sort_Search_scale_place_1_t (k + 1) = (f_sort_Search_scale_place_1_p3 (f_sort_Search_scale_place_1_t k), ()) := rfl
def f_sort_Search_scale_place_1_m (T : TT_sort_Search_scale_place_1) (d : (Unit × ((List (Int × Int)) × ((Int × Unit) × Unit))) × ((Int × Unit) × (Unit × Unit))) : Option ((Unit × ((List (Int × Int)) × ((Int × Unit) × Unit))) × ((Int × Unit) × (Unit × (Unit × Unit)))) :=
  (T.1 (((), d.1.2), ((), (((0 : Int), ()), (d.2.1, ())))))
def c_sort_Search_scale_place_1 : List Nat := []
def L_sort_Search_scale_place_1 (k : Nat) : Pts po_sort_Search_scale_place_1.den := [(3, ⟨sh_sort_Search_scale_place_1_3, (f_sort_Search_scale_place_1_t k).1⟩)]
def R_sort_Search_scale_place_1 (_ : Nat) : PtsR po_sort_Search_scale_place_1.den := []
def E_sort_Search_scale_place_1 : Env := ((E0.add 171 (ioSem pi_scale_place_1_io po_scale_place_1_io 1 [(0, 1, none), (2, 2, none)] g_scale_place_1_io)).kp [1])
theorem q_sort_Search_scale_place_1_3 (k : Nat) (d : sh_sort_Search_scale_place_1_3.den) : evAt E_sort_Search_scale_place_1 (tb (L_sort_Search_scale_place_1 k) (R_sort_Search_scale_place_1 k)) c_sort_Search_scale_place_1 3 (bodyOf Tryz.f170) 0 (finKio E_sort_Search_scale_place_1 po_sort_Search_scale_place_1 [.tmp 4] [(1, some 0), (1, some 1)]) (ptSt sh_sort_Search_scale_place_1_3 d) = f_sort_Search_scale_place_1_p3 (f_sort_Search_scale_place_1_t k) d := by kernel_rfl
theorem q_sort_Search_scale_place_1_m (k : Nat) (d : pi_sort_Search_scale_place_1.den) : evCode E_sort_Search_scale_place_1 (tb (L_sort_Search_scale_place_1 k) (R_sort_Search_scale_place_1 k)) c_sort_Search_scale_place_1 (bodyOf Tryz.f170) 0 (finKio E_sort_Search_scale_place_1 po_sort_Search_scale_place_1 [.tmp 4] [(1, some 0), (1, some 1)]) (startSt pi_sort_Search_scale_place_1 26 d) = f_sort_Search_scale_place_1_m (f_sort_Search_scale_place_1_t k) d := by kernel_rfl
def g_sort_Search_scale_place_1 (d : (Unit × ((List (Int × Int)) × ((Int × Unit) × Unit))) × ((Int × Unit) × (Unit × Unit))) : Option ((Unit × ((List (Int × Int)) × ((Int × Unit) × Unit))) × ((Int × Unit) × (Unit × (Unit × Unit)))) := lim fun k => f_sort_Search_scale_place_1_m (f_sort_Search_scale_place_1_t k) d
theorem ok_sort_Search_scale_place_1 : FnIo Tryz.prog ET0 170 pi_sort_Search_scale_place_1 po_sort_Search_scale_place_1 1 [(0, 1, some 0), (2, 1, some 1)] g_sort_Search_scale_place_1 :=
  fn_of_bodyIo (E := E_sort_Search_scale_place_1) (envOk_kp (envOk_add e0_ok (io_ok ok_scale_place_1_io))) (fn := Tryz.f170) Tryz.func170 (by kernel_rfl) (by kernel_rfl) [.tmp 4] [(1, some 0), (1, some 1)] [(0, 1, some 0), (2, 1, some 1)] (by kernel_rfl) (by kernel_rfl) (by kernel_rfl) (by kernel_rfl) (by decide) (by decide) c_sort_Search_scale_place_1 L_sort_Search_scale_place_1 R_sort_Search_scale_place_1
    (by intro x hx d; simp only [L_sort_Search_scale_place_1, List.mem_cons, List.not_mem_nil, or_false] at hx; subst hx; rfl)
    (by intro k x hx d out h; simp only [L_sort_Search_scale_place_1, List.mem_cons, List.not_mem_nil, or_false] at hx; subst hx; exact (q_sort_Search_scale_place_1_3 k d).trans h)
    (by intro x hx; cases hx)
    (by intro k x hx; cases hx)
    (by intro d out h; obtain ⟨k, hk⟩ := lim_some h; exact ⟨k, (q_sort_Search_scale_place_1_m k d).trans hk⟩)

@[reducible] def pi_scale_place : PSh := ⟨[], [.mk false [.v (.nptr (.pair (.sl (.pair (.int .i64) (.int .i64))) (.pair (.int .i64) (.int .i64))))], .mk false [vI]]⟩
@[reducible] def po_scale_place : PSh := ⟨[], [.mk false [vI], .mk false [vI], .mk false [vE]]⟩
def f_scale_place_m (T : Unit) (d : Unit × (((Option ((List (Int × Int)) × (Int × Int))) × Unit) × ((Int × Unit) × Unit))) : Option (Unit × ((Int × Unit) × ((Int × Unit) × (((Option Int) × Unit) × Unit)))) :=
  (g_leap_Table_Rows ((), (d.2.1, ()))).bind fun x1 =>
  let x2 : Int := (x1.1.1.length : Int)
  (g_sort_Search_scale_place_1 (((), (x1.1.1, d.2.2)), ((x2, ()), ((), ())))).bind fun x3 =>
  let x4 : Bool := (x3.2.1.1 == (0 : Int))
  bif x4 then (
  let x5 : (Option Int) := (some (8 : Int))
  some ((), (((0 : Int), ()), (((0 : Int), ()), ((x5, ()), ())))))
  else (
  let x6 : Int := (isub .i64 x3.2.1.1 (1 : Int))
  bif decide ((0 : Int) ≤ x6) && decide (x6 < (x3.1.2.1.length : Int)) then (
  let x7 : (Int × Int) := (gd_i64_i64 x3.1.2.1 x6)
  (g_day_Last ((), ())).bind fun x8 =>
  let x9 : Int := (iadd .i64 x8.2.1.1 (1 : Int))
  (g_scale_begins ((), ((x9, (x7.2, ())), ()))).bind fun x10 =>
  let x11 : Bool := (decide (x3.1.2.2.1.1 ≥ x10.2.1.1))
  bif x11 then (
  let x12 : (Option Int) := (some (13 : Int))
  some ((), (((0 : Int), ()), (((0 : Int), ()), ((x12, ()), ())))))
  else (
  let x13 : Int := (isub .i64 x3.1.2.2.1.1 x7.2)
  (g_num_Split ((), ((x13, ()), (((86400 : Int), ()), ())))).bind fun x14 =>
  let x15 : Bool := (!x14.2.2.2.1.1.isNone)
  bif x15 then (
  some ((), (((0 : Int), ()), (((0 : Int), ()), x14.2.2.2))))
  else (
  let x16 : Int := (x3.1.2.1.length : Int)
  let x17 : Bool := (decide (x3.2.1.1 < x16))
  bif x17 then (
  bif decide ((0 : Int) ≤ x3.2.1.1) && decide (x3.2.1.1 < (x3.1.2.1.length : Int)) then (
  let x18 : (Int × Int) := (gd_i64_i64 x3.1.2.1 x3.2.1.1)
  let x19 : Bool := (x14.2.1.1 == x18.1)
  bif x19 then (
  let x20 : Int := (isub .i64 x14.2.1.1 (1 : Int))
  let x21 : Int := (iadd .i64 (86400 : Int) x14.2.2.1.1)
  some ((), ((x20, ()), ((x21, ()), (((none : Option Int), ()), ())))))
  else (
  some ((), (x14.2.1, (x14.2.2.1, (((none : Option Int), ()), ()))))))
  else none)
  else (
  some ((), (x14.2.1, (x14.2.2.1, (((none : Option Int), ()), ()))))))))
  else none)
def g_scale_place (d : Unit × (((Option ((List (Int × Int)) × (Int × Int))) × Unit) × ((Int × Unit) × Unit))) : Option (Unit × ((Int × Unit) × ((Int × Unit) × (((Option Int) × Unit) × Unit)))) := f_scale_place_m () d
theorem ok_scale_place : FnOk Tryz.prog ET0 98 pi_scale_place po_scale_place g_scale_place :=
  fn0 (E := (((((E0.add 100 (typedSem pi_num_Split po_num_Split g_num_Split)).add 161 (typedSem pi_day_Last po_day_Last g_day_Last)).add 169 (typedSem pi_leap_Table_Rows po_leap_Table_Rows g_leap_Table_Rows)).add 170 (ioSem pi_sort_Search_scale_place_1 po_sort_Search_scale_place_1 1 [(0, 1, some 0), (2, 1, some 1)] g_sort_Search_scale_place_1)).add 172 (typedSem pi_scale_begins po_scale_begins g_scale_begins))) (envOk_add (envOk_add (envOk_add (envOk_add (envOk_add e0_ok (typed_ok ok_num_Split)) (typed_ok ok_day_Last)) (typed_ok ok_leap_Table_Rows)) (io_ok ok_sort_Search_scale_place_1)) (typed_ok ok_scale_begins)) (fn := Tryz.f98) Tryz.func98 (by kernel_rfl) (by kernel_rfl) [.tmp 4, .tmp 5, .tmp 6] (by kernel_rfl) rfl rfl rfl [] fun d => by kernel_rfl

@[reducible] def pi_scale_Label : PSh := ⟨[], [.mk false [.v (.nptr (.pair (.sl (.pair (.int .i64) (.int .i64))) (.pair (.int .i64) (.int .i64))))], .mk false [vI], .mk false [vI], .mk false [vI]]⟩
@[reducible] def po_scale_Label : PSh := ⟨[], [.mk true [vI, vI, vI, vI, vI, vI, vI, vI], .mk false [vE]]⟩
def f_scale_Label_m (T : Unit) (d : Unit × (((Option ((List (Int × Int)) × (Int × Int))) × Unit) × ((Int × Unit) × ((Int × Unit) × ((Int × Unit) × Unit))))) : Option (Unit × ((Int × (Int × (Int × (Int × (Int × (Int × (Int × (Int × Unit)))))))) × (((Option Int) × Unit) × Unit))) :=
  (g_scale_place ((), (d.2.1, (d.2.2.1, ())))).bind fun x1 =>
  let x2 : Bool := (!x1.2.2.2.1.1.isNone)
  bif x2 then (
  some ((), (((0 : Int), ((0 : Int), ((0 : Int), ((0 : Int), ((0 : Int), ((0 : Int), ((0 : Int), ((0 : Int), ())))))))), x1.2.2.2)))
  else (
  (g_label_Of ((), (x1.2.1, (x1.2.2.1, d.2.2.2)))).bind fun x3 =>
  some ((), x3.2))
def g_scale_Label (d : Unit × (((Option ((List (Int × Int)) × (Int × Int))) × Unit) × ((Int × Unit) × ((Int × Unit) × ((Int × Unit) × Unit))))) : Option (Unit × ((Int × (Int × (Int × (Int × (Int × (Int × (Int × (Int × Unit)))))))) × (((Option Int) × Unit) × Unit))) := f_scale_Label_m () d
theorem ok_scale_Label : FnOk Tryz.prog ET0 31 pi_scale_Label po_scale_Label g_scale_Label :=
  fn0 (E := ((E0.add 95 (typedSem pi_label_Of po_label_Of g_label_Of)).add 98 (typedSem pi_scale_place po_scale_place g_scale_place))) (envOk_add (envOk_add e0_ok (typed_ok ok_label_Of)) (typed_ok ok_scale_place)) (fn := Tryz.f31) Tryz.func31 (by kernel_rfl) (by kernel_rfl) [.cell 8 28, .tmp 9] (by kernel_rfl) rfl rfl rfl [] fun d => by kernel_rfl

@[reducible] def pi_num_Sub : PSh := ⟨[], [.mk false [vI], .mk false [vI]]⟩
@[reducible] def po_num_Sub : PSh := ⟨[], [.mk false [vI], .mk false [vE]]⟩
def f_num_Sub_m (T : Unit) (d : Unit × ((Int × Unit) × ((Int × Unit) × Unit))) : Option (Unit × ((Int × Unit) × (((Option Int) × Unit) × Unit))) :=
  let x1 : Int := (isub .i64 d.2.1.1 d.2.2.1.1)
  let x2 : Bool := (decide (d.2.2.1.1 > (0 : Int)))
  bif x2 then (
  let x3 : Bool := (decide (x1 > d.2.1.1))
  bif x3 then (
  let x4 : (Option Int) := (some (5 : Int))
  some ((), (((0 : Int), ()), ((x4, ()), ()))))
  else (
  let x5 : Bool := (decide (d.2.2.1.1 < (0 : Int)))
  bif x5 then (
  let x6 : Bool := (decide (x1 < d.2.1.1))
  bif x6 then (
  let x7 : (Option Int) := (some (5 : Int))
  some ((), (((0 : Int), ()), ((x7, ()), ()))))
  else (
  some ((), ((x1, ()), (((none : Option Int), ()), ())))))
  else (
  some ((), ((x1, ()), (((none : Option Int), ()), ()))))))
  else (
  let x8 : Bool := (decide (d.2.2.1.1 < (0 : Int)))
  bif x8 then (
  let x9 : Bool := (decide (x1 < d.2.1.1))
  bif x9 then (
  let x10 : (Option Int) := (some (5 : Int))
  some ((), (((0 : Int), ()), ((x10, ()), ()))))
  else (
  some ((), ((x1, ()), (((none : Option Int), ()), ())))))
  else (
  some ((), ((x1, ()), (((none : Option Int), ()), ())))))
def g_num_Sub (d : Unit × ((Int × Unit) × ((Int × Unit) × Unit))) : Option (Unit × ((Int × Unit) × (((Option Int) × Unit) × Unit))) := f_num_Sub_m () d
theorem ok_num_Sub : FnOk Tryz.prog ET0 99 pi_num_Sub po_num_Sub g_num_Sub :=
  fn0 (E := E0) e0_ok (fn := Tryz.f99) Tryz.func99 (by kernel_rfl) (by kernel_rfl) [.tmp 4, .tmp 5] (by kernel_rfl) rfl rfl rfl [] fun d => by kernel_rfl

@[reducible] def pi_gps_Of : PSh := ⟨[], [.mk false [vI]]⟩
@[reducible] def po_gps_Of : PSh := ⟨[], [.mk false [vI], .mk false [vI], .mk false [vE]]⟩
def f_gps_Of_m (T : Unit) (d : Unit × ((Int × Unit) × Unit)) : Option (Unit × ((Int × Unit) × ((Int × Unit) × (((Option Int) × Unit) × Unit)))) :=
  (g_num_Sub ((), (d.2.1, (((315964819 : Int), ()), ())))).bind fun x1 =>
  let x2 : Bool := (!x1.2.2.1.1.isNone)
  bif x2 then (
  some ((), (((0 : Int), ()), (((0 : Int), ()), x1.2.2))))
  else (
  (g_num_Split ((), (x1.2.1, (((604800 : Int), ()), ())))).bind fun x3 =>
  some ((), x3.2))
def g_gps_Of (d : Unit × ((Int × Unit) × Unit)) : Option (Unit × ((Int × Unit) × ((Int × Unit) × (((Option Int) × Unit) × Unit)))) := f_gps_Of_m () d
theorem ok_gps_Of : FnOk Tryz.prog ET0 32 pi_gps_Of po_gps_Of g_gps_Of :=
  fn0 (E := ((E0.add 99 (typedSem pi_num_Sub po_num_Sub g_num_Sub)).add 100 (typedSem pi_num_Split po_num_Split g_num_Split))) (envOk_add (envOk_add e0_ok (typed_ok ok_num_Sub)) (typed_ok ok_num_Split)) (fn := Tryz.f32) Tryz.func32 (by kernel_rfl) (by kernel_rfl) [.tmp 2, .tmp 3, .tmp 4] (by kernel_rfl) rfl rfl rfl [] fun d => by kernel_rfl

@[reducible] def pi_num_Add : PSh := ⟨[], [.mk false [vI], .mk false [vI]]⟩
@[reducible] def po_num_Add : PSh := ⟨[], [.mk false [vI], .mk false [vE]]⟩
def f_num_Add_m (T : Unit) (d : Unit × ((Int × Unit) × ((Int × Unit) × Unit))) : Option (Unit × ((Int × Unit) × (((Option Int) × Unit) × Unit))) :=
  let x1 : Int := (iadd .i64 d.2.1.1 d.2.2.1.1)
  let x2 : Bool := (decide (d.2.2.1.1 > (0 : Int)))
  bif x2 then (
  let x3 : Bool := (decide (x1 < d.2.1.1))
  bif x3 then (
  let x4 : (Option Int) := (some (5 : Int))
  some ((), (((0 : Int), ()), ((x4, ()), ()))))
  else (
  let x5 : Bool := (decide (d.2.2.1.1 < (0 : Int)))
  bif x5 then (
  let x6 : Bool := (decide (x1 > d.2.1.1))
  bif x6 then (
  let x7 : (Option Int) := (some (5 : Int))
  some ((), (((0 : Int), ()), ((x7, ()), ()))))
  else (
  some ((), ((x1, ()), (((none : Option Int), ()), ())))))
  else (
  some ((), ((x1, ()), (((none : Option Int), ()), ()))))))
  else (
  let x8 : Bool := (decide (d.2.2.1.1 < (0 : Int)))
  bif x8 then (
  let x9 : Bool := (decide (x1 > d.2.1.1))
  bif x9 then (
  let x10 : (Option Int) := (some (5 : Int))
  some ((), (((0 : Int), ()), ((x10, ()), ()))))
  else (
  some ((), ((x1, ()), (((none : Option Int), ()), ())))))
  else (
  some ((), ((x1, ()), (((none : Option Int), ()), ())))))
def g_num_Add (d : Unit × ((Int × Unit) × ((Int × Unit) × Unit))) : Option (Unit × ((Int × Unit) × (((Option Int) × Unit) × Unit))) := f_num_Add_m () d
theorem ok_num_Add : FnOk Tryz.prog ET0 104 pi_num_Add po_num_Add g_num_Add :=
  fn0 (E := E0) e0_ok (fn := Tryz.f104) Tryz.func104 (by kernel_rfl) (by kernel_rfl) [.tmp 4, .tmp 5] (by kernel_rfl) rfl rfl rfl [] fun d => by kernel_rfl

@[reducible] def pi_era_right : PSh := ⟨[], [.mk false [vI]]⟩
@[reducible] def po_era_right : PSh := ⟨[], [.mk false [vB]]⟩
def f_era_right_m (T : Unit) (d : Unit × ((Int × Unit) × Unit)) : Option (Unit × ((Bool × Unit) × Unit)) :=
  let x1 : Bool := (decide (d.2.1.1 ≥ (1 : Int)))
  bif x1 then (
  let x2 : Bool := (decide (d.2.1.1 ≤ (62 : Int)))
  some ((), ((x2, ()), ())))
  else (
  some ((), ((false, ()), ())))
def g_era_right (d : Unit × ((Int × Unit) × Unit)) : Option (Unit × ((Bool × Unit) × Unit)) := f_era_right_m () d
theorem ok_era_right : FnOk Tryz.prog ET0 211 pi_era_right po_era_right g_era_right :=
  fn0 (E := E0) e0_ok (fn := Tryz.f211) Tryz.func211 (by kernel_rfl) (by kernel_rfl) [.tmp 2] (by kernel_rfl) rfl rfl rfl [] fun d => by kernel_rfl

@[reducible] def pi_era_mask : PSh := ⟨[], [.mk false [vI]]⟩
@[reducible] def po_era_mask : PSh := ⟨[], [.mk false [.v (.int .u64)]]⟩
def f_era_mask_m (T : Unit) (d : Unit × ((Int × Unit) × Unit)) : Option (Unit × ((Int × Unit) × Unit)) :=
  bif decide (d.2.1.1 < 0) then (
  none)
  else (
  let x1 : Int := (ishl .u64 (1 : Int) d.2.1.1)
  let x2 : Int := (isub .u64 x1 (1 : Int))
  some ((), ((x2, ()), ())))
def g_era_mask (d : Unit × ((Int × Unit) × Unit)) : Option (Unit × ((Int × Unit) × Unit)) := f_era_mask_m () d
theorem ok_era_mask : FnOk Tryz.prog ET0 212 pi_era_mask po_era_mask g_era_mask :=
  fn0 (E := E0) e0_ok (fn := Tryz.f212) Tryz.func212 (by kernel_rfl) (by kernel_rfl) [.tmp 2] (by kernel_rfl) rfl rfl rfl [] fun d => by kernel_rfl

@[reducible] def pi_era_Bits : PSh := ⟨[], [.mk false [.v (.int .u64)], .mk false [vI], .mk false [vI]]⟩
@[reducible] def po_era_Bits : PSh := ⟨[], [.mk false [vI], .mk false [vE]]⟩
def f_era_Bits_m (T : Unit) (d : Unit × ((Int × Unit) × ((Int × Unit) × ((Int × Unit) × Unit)))) : Option (Unit × ((Int × Unit) × (((Option Int) × Unit) × Unit))) :=
  (g_era_right ((), (d.2.2.1, ()))).bind fun x1 =>
  let x2 : Bool := (!x1.2.1.1)
  bif x2 then (
  let x3 : (Option Int) := (some (1 : Int))
  some ((), (((0 : Int), ()), ((x3, ()), ()))))
  else (
  (g_era_mask ((), (d.2.2.1, ()))).bind fun x4 =>
  let x5 : Bool := (decide (d.2.1.1 > x4.2.1.1))
  bif x5 then (
  let x6 : (Option Int) := (some (1 : Int))
  some ((), (((0 : Int), ()), ((x6, ()), ()))))
  else (
  let x7 : Int := (iconv .u64 d.2.2.2.1.1)
  let x8 : Int := (isub .u64 d.2.1.1 x7)
  (g_era_mask ((), (d.2.2.1, ()))).bind fun x9 =>
  let x10 : Int := (iand .u64 x8 x9.2.1.1)
  let x11 : Int := (iconv .i64 x10)
  let x12 : Int := (isub .i64 d.2.2.1.1 (1 : Int))
  bif decide (x12 < 0) then (
  none)
  else (
  let x13 : Int := (ishl .i64 (1 : Int) x12)
  let x14 : Bool := (decide (x11 ≥ x13))
  bif x14 then (
  bif decide (d.2.2.1.1 < 0) then (
  none)
  else (
  let x15 : Int := (ishl .i64 (1 : Int) d.2.2.1.1)
  let x16 : Int := (isub .i64 x11 x15)
  (g_num_Add ((), (d.2.2.2.1, ((x16, ()), ())))).bind fun x17 =>
  some ((), x17.2)))
  else (
  (g_num_Add ((), (d.2.2.2.1, ((x11, ()), ())))).bind fun x18 =>
  some ((), x18.2)))))
def g_era_Bits (d : Unit × ((Int × Unit) × ((Int × Unit) × ((Int × Unit) × Unit)))) : Option (Unit × ((Int × Unit) × (((Option Int) × Unit) × Unit))) := f_era_Bits_m () d
theorem ok_era_Bits : FnOk Tryz.prog ET0 175 pi_era_Bits po_era_Bits g_era_Bits :=
  fn0 (E := (((E0.add 104 (typedSem pi_num_Add po_num_Add g_num_Add)).add 211 (typedSem pi_era_right po_era_right g_era_right)).add 212 (typedSem pi_era_mask po_era_mask g_era_mask))) (envOk_add (envOk_add (envOk_add e0_ok (typed_ok ok_num_Add)) (typed_ok ok_era_right)) (typed_ok ok_era_mask)) (fn := Tryz.f175) Tryz.func175 (by kernel_rfl) (by kernel_rfl) [.tmp 6, .tmp 7] (by kernel_rfl) rfl rfl rfl [] fun d => by kernel_rfl

@[reducible] def pi_gps_Long : PSh := ⟨[], [.mk false [vI], .mk false [vI]]⟩
@[reducible] def po_gps_Long : PSh := ⟨[], [.mk false [vI], .mk false [vE]]⟩
def f_gps_Long_m (T : Unit) (d : Unit × ((Int × Unit) × ((Int × Unit) × Unit))) : Option (Unit × ((Int × Unit) × (((Option Int) × Unit) × Unit))) :=
  let x1 : Bool := (decide (d.2.1.1 < (0 : Int)))
  bif x1 then (
  let x2 : (Option Int) := (some (1 : Int))
  some ((), (((0 : Int), ()), ((x2, ()), ()))))
  else (
  let x3 : Int := (iconv .u64 d.2.1.1)
  (g_era_Bits ((), ((x3, ()), (((10 : Int), ()), d.2.2)))).bind fun x4 =>
  some ((), x4.2))
def g_gps_Long (d : Unit × ((Int × Unit) × ((Int × Unit) × Unit))) : Option (Unit × ((Int × Unit) × (((Option Int) × Unit) × Unit))) := f_gps_Long_m () d
theorem ok_gps_Long : FnOk Tryz.prog ET0 101 pi_gps_Long po_gps_Long g_gps_Long :=
  fn0 (E := (E0.add 175 (typedSem pi_era_Bits po_era_Bits g_era_Bits))) (envOk_add e0_ok (typed_ok ok_era_Bits)) (fn := Tryz.f101) Tryz.func101 (by kernel_rfl) (by kernel_rfl) [.tmp 4, .tmp 5] (by kernel_rfl) rfl rfl rfl [] fun d => by kernel_rfl

@[reducible] def pi_math_bits_Mul64 : PSh := ⟨[], [.mk false [.v (.int .u64)], .mk false [.v (.int .u64)]]⟩
@[reducible] def po_math_bits_Mul64 : PSh := ⟨[], [.mk false [.v (.int .u64)], .mk false [.v (.int .u64)]]⟩
def f_math_bits_Mul64_m (T : Unit) (d : Unit × ((Int × Unit) × ((Int × Unit) × Unit))) : Option (Unit × ((Int × Unit) × ((Int × Unit) × Unit))) :=
  let x1 : Int := (iand .u64 d.2.1.1 (4294967295 : Int))
  let x2 : Int := (ishr .u64 d.2.1.1 (32 : Int))
  let x3 : Int := (iand .u64 d.2.2.1.1 (4294967295 : Int))
  let x4 : Int := (ishr .u64 d.2.2.1.1 (32 : Int))
  let x5 : Int := (imul .u64 x1 x3)
  let x6 : Int := (imul .u64 x2 x3)
  let x7 : Int := (ishr .u64 x5 (32 : Int))
  let x8 : Int := (iadd .u64 x6 x7)
  let x9 : Int := (iand .u64 x8 (4294967295 : Int))
  let x10 : Int := (ishr .u64 x8 (32 : Int))
  let x11 : Int := (imul .u64 x1 x4)
  let x12 : Int := (iadd .u64 x9 x11)
  let x13 : Int := (imul .u64 x2 x4)
  let x14 : Int := (iadd .u64 x13 x10)
  let x15 : Int := (ishr .u64 x12 (32 : Int))
  let x16 : Int := (iadd .u64 x14 x15)
  let x17 : Int := (imul .u64 d.2.1.1 d.2.2.1.1)
  some ((), ((x16, ()), ((x17, ()), ())))
def g_math_bits_Mul64 (d : Unit × ((Int × Unit) × ((Int × Unit) × Unit))) : Option (Unit × ((Int × Unit) × ((Int × Unit) × Unit))) := f_math_bits_Mul64_m () d
theorem ok_math_bits_Mul64 : FnOk Tryz.prog ET0 213 pi_math_bits_Mul64 po_math_bits_Mul64 g_math_bits_Mul64 :=
  fn0 (E := E0) e0_ok (fn := Tryz.f213) Tryz.func213 (by kernel_rfl) (by kernel_rfl) [.tmp 4, .tmp 5] (by kernel_rfl) rfl rfl rfl [] fun d => by kernel_rfl

@[reducible] def pi_num_size : PSh := ⟨[], [.mk false [vI]]⟩
@[reducible] def po_num_size : PSh := ⟨[], [.mk false [.v (.int .u64)]]⟩
def f_num_size_m (T : Unit) (d : Unit × ((Int × Unit) × Unit)) : Option (Unit × ((Int × Unit) × Unit)) :=
  let x1 : Bool := (decide (d.2.1.1 < (0 : Int)))
  bif x1 then (
  let x2 : Int := (iconv .u64 d.2.1.1)
  let x3 : Int := (ineg .u64 x2)
  some ((), ((x3, ()), ())))
  else (
  let x4 : Int := (iconv .u64 d.2.1.1)
  some ((), ((x4, ()), ())))
def g_num_size (d : Unit × ((Int × Unit) × Unit)) : Option (Unit × ((Int × Unit) × Unit)) := f_num_size_m () d
theorem ok_num_size : FnOk Tryz.prog ET0 214 pi_num_size po_num_size g_num_size :=
  fn0 (E := E0) e0_ok (fn := Tryz.f214) Tryz.func214 (by kernel_rfl) (by kernel_rfl) [.tmp 2] (by kernel_rfl) rfl rfl rfl [] fun d => by kernel_rfl

@[reducible] def pi_num_signed : PSh := ⟨[], [.mk false [.v (.int .u64)], .mk false [vB]]⟩
@[reducible] def po_num_signed : PSh := ⟨[], [.mk false [vI], .mk false [vE]]⟩
def f_num_signed_m (T : Unit) (d : Unit × ((Int × Unit) × ((Bool × Unit) × Unit))) : Option (Unit × ((Int × Unit) × (((Option Int) × Unit) × Unit))) :=
  bif d.2.2.1.1 then (
  let x1 : Bool := (decide (d.2.1.1 ≤ (9223372036854775808 : Int)))
  bif x1 then (
  let x2 : Int := (ineg .u64 d.2.1.1)
  let x3 : Int := (iconv .i64 x2)
  some ((), ((x3, ()), (((none : Option Int), ()), ()))))
  else (
  let x4 : Bool := (!d.2.2.1.1)
  bif x4 then (
  let x5 : Bool := (decide (d.2.1.1 ≤ (9223372036854775807 : Int)))
  bif x5 then (
  let x6 : Int := (iconv .i64 d.2.1.1)
  some ((), ((x6, ()), (((none : Option Int), ()), ()))))
  else (
  let x7 : (Option Int) := (some (5 : Int))
  some ((), (((0 : Int), ()), ((x7, ()), ())))))
  else (
  let x8 : (Option Int) := (some (5 : Int))
  some ((), (((0 : Int), ()), ((x8, ()), ()))))))
  else (
  let x9 : Bool := (!d.2.2.1.1)
  bif x9 then (
  let x10 : Bool := (decide (d.2.1.1 ≤ (9223372036854775807 : Int)))
  bif x10 then (
  let x11 : Int := (iconv .i64 d.2.1.1)
  some ((), ((x11, ()), (((none : Option Int), ()), ()))))
  else (
  let x12 : (Option Int) := (some (5 : Int))
  some ((), (((0 : Int), ()), ((x12, ()), ())))))
  else (
  let x13 : (Option Int) := (some (5 : Int))
  some ((), (((0 : Int), ()), ((x13, ()), ())))))
def g_num_signed (d : Unit × ((Int × Unit) × ((Bool × Unit) × Unit))) : Option (Unit × ((Int × Unit) × (((Option Int) × Unit) × Unit))) := f_num_signed_m () d
theorem ok_num_signed : FnOk Tryz.prog ET0 215 pi_num_signed po_num_signed g_num_signed :=
  fn0 (E := E0) e0_ok (fn := Tryz.f215) Tryz.func215 (by kernel_rfl) (by kernel_rfl) [.tmp 4, .tmp 5] (by kernel_rfl) rfl rfl rfl [] fun d => by kernel_rfl

@[reducible] def pi_num_Mul : PSh := ⟨[], [.mk false [vI], .mk false [vI]]⟩
@[reducible] def po_num_Mul : PSh := ⟨[], [.mk false [vI], .mk false [vE]]⟩
def f_num_Mul_m (T : Unit) (d : Unit × ((Int × Unit) × ((Int × Unit) × Unit))) : Option (Unit × ((Int × Unit) × (((Option Int) × Unit) × Unit))) :=
  (g_num_size ((), (d.2.1, ()))).bind fun x1 =>
  (g_num_size ((), d.2.2)).bind fun x2 =>
  (g_math_bits_Mul64 ((), (x1.2.1, x2.2))).bind fun x3 =>
  let x4 : Bool := (x3.2.1.1 != (0 : Int))
  bif x4 then (
  let x5 : (Option Int) := (some (5 : Int))
  some ((), (((0 : Int), ()), ((x5, ()), ()))))
  else (
  let x6 : Bool := (decide (d.2.1.1 < (0 : Int)))
  let x7 : Bool := (decide (d.2.2.1.1 < (0 : Int)))
  let x8 : Bool := (!(x6 == x7))
  (g_num_signed ((), (x3.2.2.1, ((x8, ()), ())))).bind fun x9 =>
  some ((), x9.2))
def g_num_Mul (d : Unit × ((Int × Unit) × ((Int × Unit) × Unit))) : Option (Unit × ((Int × Unit) × (((Option Int) × Unit) × Unit))) := f_num_Mul_m () d
theorem ok_num_Mul : FnOk Tryz.prog ET0 176 pi_num_Mul po_num_Mul g_num_Mul :=
  fn0 (E := (((E0.add 213 (typedSem pi_math_bits_Mul64 po_math_bits_Mul64 g_math_bits_Mul64)).add 214 (typedSem pi_num_size po_num_size g_num_size)).add 215 (typedSem pi_num_signed po_num_signed g_num_signed))) (envOk_add (envOk_add (envOk_add e0_ok (typed_ok ok_math_bits_Mul64)) (typed_ok ok_num_size)) (typed_ok ok_num_signed)) (fn := Tryz.f176) Tryz.func176 (by kernel_rfl) (by kernel_rfl) [.tmp 4, .tmp 5] (by kernel_rfl) rfl rfl rfl [] fun d => by kernel_rfl

@[reducible] def pi_num_Sum : PSh := ⟨[], [.mk false [.v (.sl (.int .i64))]]⟩
@[reducible] def po_num_Sum : PSh := ⟨[], [.mk false [vI], .mk false [vE]]⟩
@[reducible] def TT_num_Sum : Type := (((Unit × ((Int × Unit) × (((List Int) × Unit) × ((Int × Unit) × ((Int × Unit) × Unit))))) → Option (Unit × ((Int × Unit) × (((Option Int) × Unit) × Unit)))) × Unit)
@[reducible] def sh_num_Sum_4 : PSh := ⟨[], [.any, .any, .any, .any, .mk false [vI], .any, .any, .any, .any, .mk false [.v (.sl (.int .i64))], .mk false [vI], .mk false [vI], .any, .any, .any, .any, .any, .any, .any, .any, .any, .any, .any, .any, .any, .any, .any]⟩
def f_num_Sum_p4 (T : TT_num_Sum) (d : Unit × ((Int × Unit) × (((List Int) × Unit) × ((Int × Unit) × ((Int × Unit) × Unit))))) : Option (Unit × ((Int × Unit) × (((Option Int) × Unit) × Unit))) :=
  let x2 : Bool := (decide (d.2.2.2.2.1.1 < d.2.2.2.1.1))
  bif x2 then (
  bif decide ((0 : Int) ≤ d.2.2.2.2.1.1) && decide (d.2.2.2.2.1.1 < (d.2.2.1.1.length : Int)) then (
  (g_num_Add ((), (d.2.1, (((gd (.int .i64) d.2.2.1.1 d.2.2.2.2.1.1), ()), ())))).bind fun x3 =>
  let x4 : Bool := (!x3.2.2.1.1.isNone)
  bif x4 then (
  some ((), (((0 : Int), ()), x3.2.2)))
  else (
  let x5 : Int := (iadd .i64 d.2.2.2.2.1.1 (1 : Int))
  (T.1 ((), (x3.2.1, (d.2.2.1, (d.2.2.2.1, ((x5, ()), ()))))))))
  else none)
  else (
  some ((), (d.2.1, (((none : Option Int), ()), ()))))
def f_num_Sum_t : Nat → TT_num_Sum
  | 0 => (fun _ => none, ())
  | k + 1 => (f_num_Sum_p4 (f_num_Sum_t k), ())
theorem t_num_Sum (k : Nat) : f_num_Sum_t (k + 1) = (f_num_Sum_p4 (f_num_Sum_t k), ()) := rfl
def f_num_Sum_m (T : TT_num_Sum) (d : Unit × (((List Int) × Unit) × Unit)) : Option (Unit × ((Int × Unit) × (((Option Int) × Unit) × Unit))) :=
  let x1 : Int := (d.2.1.1.length : Int)
  (T.1 ((), (((0 : Int), ()), (d.2.1, ((x1, ()), (((0 : Int), ()), ()))))))
def c_num_Sum : List Nat := []
def L_num_Sum (k : Nat) : Pts po_num_Sum.den := [(4, ⟨sh_num_Sum_4, (f_num_Sum_t k).1⟩)]
def R_num_Sum (_ : Nat) : PtsR po_num_Sum.den := []
def E_num_Sum : Env := (E0.add 104 (typedSem pi_num_Add po_num_Add g_num_Add))
theorem q_num_Sum_4 (k : Nat) (d : sh_num_Sum_4.den) : evAt E_num_Sum (tb (L_num_Sum k) (R_num_Sum k)) c_num_Sum 4 (bodyOf Tryz.f177) 0 (finK E_num_Sum po_num_Sum [.tmp 2, .tmp 3]) (ptSt sh_num_Sum_4 d) = f_num_Sum_p4 (f_num_Sum_t k) d := by kernel_rfl
theorem q_num_Sum_m (k : Nat) (d : pi_num_Sum.den) : evCode E_num_Sum (tb (L_num_Sum k) (R_num_Sum k)) c_num_Sum (bodyOf Tryz.f177) 0 (finK E_num_Sum po_num_Sum [.tmp 2, .tmp 3]) (startSt pi_num_Sum 27 d) = f_num_Sum_m (f_num_Sum_t k) d := by kernel_rfl
def g_num_Sum (d : Unit × (((List Int) × Unit) × Unit)) : Option (Unit × ((Int × Unit) × (((Option Int) × Unit) × Unit))) := lim fun k => f_num_Sum_m (f_num_Sum_t k) d
theorem ok_num_Sum : FnOk Tryz.prog ET0 177 pi_num_Sum po_num_Sum g_num_Sum :=
  fn_of_body (E := E_num_Sum) (envOk_add e0_ok (typed_ok ok_num_Add)) (fn := Tryz.f177) Tryz.func177 (by kernel_rfl) (by kernel_rfl) [.tmp 2, .tmp 3] (by kernel_rfl) (by kernel_rfl) (by decide) rfl c_num_Sum L_num_Sum R_num_Sum
    (by intro x hx d; simp only [L_num_Sum, List.mem_cons, List.not_mem_nil, or_false] at hx; subst hx; rfl)
    (by intro k x hx d out h; simp only [L_num_Sum, List.mem_cons, List.not_mem_nil, or_false] at hx; subst hx; exact (q_num_Sum_4 k d).trans h)
    (by intro x hx; cases hx)
    (by intro k x hx; cases hx)
    (by intro d out h; obtain ⟨k, hk⟩ := lim_some h; exact ⟨k, (q_num_Sum_m k d).trans hk⟩)

@[reducible] def pi_gps_Tai : PSh := ⟨[], [.mk false [vI], .mk false [vI]]⟩
@[reducible] def po_gps_Tai : PSh := ⟨[], [.mk false [vI], .mk false [vE]]⟩
def f_gps_Tai_m (T : Unit) (d : Unit × ((Int × Unit) × ((Int × Unit) × Unit))) : Option (Unit × ((Int × Unit) × (((Option Int) × Unit) × Unit))) :=
  let x1 : Bool := (decide (d.2.2.1.1 < (0 : Int)))
  bif x1 then (
  let x2 : (Option Int) := (some (1 : Int))
  some ((), (((0 : Int), ()), ((x2, ()), ()))))
  else (
  let x3 : Bool := (decide (d.2.2.1.1 ≥ (604800 : Int)))
  bif x3 then (
  let x4 : (Option Int) := (some (1 : Int))
  some ((), (((0 : Int), ()), ((x4, ()), ()))))
  else (
  (g_num_Mul ((), (d.2.1, (((604800 : Int), ()), ())))).bind fun x5 =>
  let x6 : Bool := (!x5.2.2.1.1.isNone)
  bif x6 then (
  some ((), (((0 : Int), ()), x5.2.2)))
  else (
  let x7 : (List Int) := ([x5.2.1.1, d.2.2.1.1, (315964819 : Int)] : List Int)
  (g_num_Sum ((), ((x7, ()), ()))).bind fun x8 =>
  some ((), x8.2))))
def g_gps_Tai (d : Unit × ((Int × Unit) × ((Int × Unit) × Unit))) : Option (Unit × ((Int × Unit) × (((Option Int) × Unit) × Unit))) := f_gps_Tai_m () d
theorem ok_gps_Tai : FnOk Tryz.prog ET0 102 pi_gps_Tai po_gps_Tai g_gps_Tai :=
  fn0 (E := ((E0.add 176 (typedSem pi_num_Mul po_num_Mul g_num_Mul)).add 177 (typedSem pi_num_Sum po_num_Sum g_num_Sum))) (envOk_add (envOk_add e0_ok (typed_ok ok_num_Mul)) (typed_ok ok_num_Sum)) (fn := Tryz.f102) Tryz.func102 (by kernel_rfl) (by kernel_rfl) [.tmp 4, .tmp 5] (by kernel_rfl) rfl rfl rfl [] fun d => by kernel_rfl

@[reducible] def pi_gps_Near : PSh := ⟨[], [.mk false [vI], .mk false [vI], .mk false [vI]]⟩
@[reducible] def po_gps_Near : PSh := ⟨[], [.mk false [vI], .mk false [vE]]⟩
def f_gps_Near_m (T : Unit) (d : Unit × ((Int × Unit) × ((Int × Unit) × ((Int × Unit) × Unit)))) : Option (Unit × ((Int × Unit) × (((Option Int) × Unit) × Unit))) :=
  (g_gps_Of ((), d.2.2.2)).bind fun x1 =>
  let x2 : Bool := (!x1.2.2.2.1.1.isNone)
  bif x2 then (
  some ((), (((0 : Int), ()), x1.2.2.2)))
  else (
  (g_gps_Long ((), (d.2.1, (x1.2.1, ())))).bind fun x3 =>
  let x4 : Bool := (!x3.2.2.1.1.isNone)
  bif x4 then (
  some ((), (((0 : Int), ()), x3.2.2)))
  else (
  (g_gps_Tai ((), (x3.2.1, (d.2.2.1, ())))).bind fun x5 =>
  some ((), x5.2)))
def g_gps_Near (d : Unit × ((Int × Unit) × ((Int × Unit) × ((Int × Unit) × Unit)))) : Option (Unit × ((Int × Unit) × (((Option Int) × Unit) × Unit))) := f_gps_Near_m () d
theorem ok_gps_Near : FnOk Tryz.prog ET0 33 pi_gps_Near po_gps_Near g_gps_Near :=
  fn0 (E := (((E0.add 32 (typedSem pi_gps_Of po_gps_Of g_gps_Of)).add 101 (typedSem pi_gps_Long po_gps_Long g_gps_Long)).add 102 (typedSem pi_gps_Tai po_gps_Tai g_gps_Tai))) (envOk_add (envOk_add (envOk_add e0_ok (typed_ok ok_gps_Of)) (typed_ok ok_gps_Long)) (typed_ok ok_gps_Tai)) (fn := Tryz.f33) Tryz.func33 (by kernel_rfl) (by kernel_rfl) [.tmp 6, .tmp 7] (by kernel_rfl) rfl rfl rfl [] fun d => by kernel_rfl

@[reducible] def pi_gps_Short : PSh := ⟨[], [.mk false [vI]]⟩
@[reducible] def po_gps_Short : PSh := ⟨[], [.mk false [vI]]⟩
def f_gps_Short_m (T : Unit) (d : Unit × ((Int × Unit) × Unit)) : Option (Unit × ((Int × Unit) × Unit)) :=
  let x1 : Int := (iconv .u64 d.2.1.1)
  let x2 : Int := (Int.tmod x1 (1024 : Int))
  let x3 : Int := (iconv .i64 x2)
  some ((), ((x3, ()), ()))
def g_gps_Short (d : Unit × ((Int × Unit) × Unit)) : Option (Unit × ((Int × Unit) × Unit)) := f_gps_Short_m () d
theorem ok_gps_Short : FnOk Tryz.prog ET0 34 pi_gps_Short po_gps_Short g_gps_Short :=
  fn0 (E := E0) e0_ok (fn := Tryz.f34) Tryz.func34 (by kernel_rfl) (by kernel_rfl) [.tmp 2] (by kernel_rfl) rfl rfl rfl [] fun d => by kernel_rfl

@[reducible] def pi_scale_PosixOf : PSh := ⟨[], [.mk false [.v (.nptr (.pair (.sl (.pair (.int .i64) (.int .i64))) (.pair (.int .i64) (.int .i64))))], .mk false [vI]]⟩
@[reducible] def po_scale_PosixOf : PSh := ⟨[], [.mk false [vI], .mk false [vB], .mk false [vE]]⟩
def f_scale_PosixOf_m (T : Unit) (d : Unit × (((Option ((List (Int × Int)) × (Int × Int))) × Unit) × ((Int × Unit) × Unit))) : Option (Unit × ((Int × Unit) × ((Bool × Unit) × (((Option Int) × Unit) × Unit)))) :=
  (g_scale_place ((), d.2)).bind fun x1 =>
  let x2 : Bool := (!x1.2.2.2.1.1.isNone)
  bif x2 then (
  some ((), (((0 : Int), ()), ((false, ()), x1.2.2.2))))
  else (
  let x3 : Int := (imul .i64 x1.2.1.1 (86400 : Int))
  let x4 : Int := (iadd .i64 x3 x1.2.2.1.1)
  let x5 : Bool := (x1.2.2.1.1 == (86400 : Int))
  some ((), ((x4, ()), ((x5, ()), (((none : Option Int), ()), ())))))
def g_scale_PosixOf (d : Unit × (((Option ((List (Int × Int)) × (Int × Int))) × Unit) × ((Int × Unit) × Unit))) : Option (Unit × ((Int × Unit) × ((Bool × Unit) × (((Option Int) × Unit) × Unit)))) := f_scale_PosixOf_m () d
theorem ok_scale_PosixOf : FnOk Tryz.prog ET0 35 pi_scale_PosixOf po_scale_PosixOf g_scale_PosixOf :=
  fn0 (E := (E0.add 98 (typedSem pi_scale_place po_scale_place g_scale_place))) (envOk_add e0_ok (typed_ok ok_scale_place)) (fn := Tryz.f35) Tryz.func35 (by kernel_rfl) (by kernel_rfl) [.tmp 4, .tmp 5, .tmp 6] (by kernel_rfl) rfl rfl rfl [] fun d => by kernel_rfl

@[reducible] def pi_scale_Posix : PSh := ⟨[], [.mk true [vI, vI, vI, vI, vI, vI, vI, vI]]⟩
@[reducible] def po_scale_Posix : PSh := ⟨[], [.mk false [vI], .mk false [vE]]⟩
def f_scale_Posix_m (T : Unit) (d : Unit × ((Int × (Int × (Int × (Int × (Int × (Int × (Int × (Int × Unit)))))))) × Unit)) : Option (Unit × ((Int × Unit) × (((Option Int) × Unit) × Unit))) :=
  (g_label_Split ((), d.2)).bind fun x1 =>
  let x2 : Bool := (!x1.2.2.2.1.1.isNone)
  bif x2 then (
  some ((), (((0 : Int), ()), x1.2.2.2)))
  else (
  let x3 : Int := (imul .i64 x1.2.1.1 (86400 : Int))
  let x4 : Int := (iadd .i64 x3 x1.2.2.1.1)
  some ((), ((x4, ()), (((none : Option Int), ()), ()))))
def g_scale_Posix (d : Unit × ((Int × (Int × (Int × (Int × (Int × (Int × (Int × (Int × Unit)))))))) × Unit)) : Option (Unit × ((Int × Unit) × (((Option Int) × Unit) × Unit))) := f_scale_Posix_m () d
theorem ok_scale_Posix : FnOk Tryz.prog ET0 36 pi_scale_Posix po_scale_Posix g_scale_Posix :=
  fn0 (E := (E0.add 23 (typedSem pi_label_Split po_label_Split g_label_Split))) (envOk_add e0_ok (typed_ok ok_label_Split)) (fn := Tryz.f36) Tryz.func36 (by kernel_rfl) (by kernel_rfl) [.tmp 2, .tmp 3] (by kernel_rfl) rfl rfl rfl [] fun d => by kernel_rfl

@[reducible] def pi_scale_FromPosix : PSh := ⟨[], [.mk false [vI], .mk false [vI], .mk false [vI]]⟩
@[reducible] def po_scale_FromPosix : PSh := ⟨[], [.mk true [vI, vI, vI, vI, vI, vI, vI, vI], .mk false [vE]]⟩
def f_scale_FromPosix_m (T : Unit) (d : Unit × ((Int × Unit) × ((Int × Unit) × ((Int × Unit) × Unit)))) : Option (Unit × ((Int × (Int × (Int × (Int × (Int × (Int × (Int × (Int × Unit)))))))) × (((Option Int) × Unit) × Unit))) :=
  (g_num_Split ((), (d.2.1, (((86400 : Int), ()), ())))).bind fun x1 =>
  let x2 : Bool := (!x1.2.2.2.1.1.isNone)
  bif x2 then (
  some ((), (((0 : Int), ((0 : Int), ((0 : Int), ((0 : Int), ((0 : Int), ((0 : Int), ((0 : Int), ((0 : Int), ())))))))), x1.2.2.2)))
  else (
  (g_label_Of ((), (x1.2.1, (x1.2.2.1, d.2.2)))).bind fun x3 =>
  some ((), x3.2))
def g_scale_FromPosix (d : Unit × ((Int × Unit) × ((Int × Unit) × ((Int × Unit) × Unit)))) : Option (Unit × ((Int × (Int × (Int × (Int × (Int × (Int × (Int × (Int × Unit)))))))) × (((Option Int) × Unit) × Unit))) := f_scale_FromPosix_m () d
theorem ok_scale_FromPosix : FnOk Tryz.prog ET0 103 pi_scale_FromPosix po_scale_FromPosix g_scale_FromPosix :=
  fn0 (E := ((E0.add 95 (typedSem pi_label_Of po_label_Of g_label_Of)).add 100 (typedSem pi_num_Split po_num_Split g_num_Split))) (envOk_add (envOk_add e0_ok (typed_ok ok_label_Of)) (typed_ok ok_num_Split)) (fn := Tryz.f103) Tryz.func103 (by kernel_rfl) (by kernel_rfl) [.cell 6 28, .tmp 7] (by kernel_rfl) rfl rfl rfl [] fun d => by kernel_rfl

@[reducible] def pi_scale_TaiOf : PSh := ⟨[], [.mk false [.v (.nptr (.pair (.sl (.pair (.int .i64) (.int .i64))) (.pair (.int .i64) (.int .i64))))], .mk false [vI]]⟩
@[reducible] def po_scale_TaiOf : PSh := ⟨[], [.mk false [vI], .mk false [vE]]⟩
def f_scale_TaiOf_m (T : Unit) (d : Unit × (((Option ((List (Int × Int)) × (Int × Int))) × Unit) × ((Int × Unit) × Unit))) : Option (Unit × ((Int × Unit) × (((Option Int) × Unit) × Unit))) :=
  (g_scale_FromPosix ((), (d.2.2.1, (((0 : Int), ()), (((0 : Int), ()), ()))))).bind fun x1 =>
  let x2 : Bool := (!x1.2.2.1.1.isNone)
  bif x2 then (
  some ((), (((0 : Int), ()), x1.2.2)))
  else (
  (g_scale_Tai ((), (d.2.1, (x1.2.1, ())))).bind fun x3 =>
  some ((), x3.2))
def g_scale_TaiOf (d : Unit × (((Option ((List (Int × Int)) × (Int × Int))) × Unit) × ((Int × Unit) × Unit))) : Option (Unit × ((Int × Unit) × (((Option Int) × Unit) × Unit))) := f_scale_TaiOf_m () d
theorem ok_scale_TaiOf : FnOk Tryz.prog ET0 37 pi_scale_TaiOf po_scale_TaiOf g_scale_TaiOf :=
  fn0 (E := ((E0.add 30 (typedSem pi_scale_Tai po_scale_Tai g_scale_Tai)).add 103 (typedSem pi_scale_FromPosix po_scale_FromPosix g_scale_FromPosix))) (envOk_add (envOk_add e0_ok (typed_ok ok_scale_Tai)) (typed_ok ok_scale_FromPosix)) (fn := Tryz.f37) Tryz.func37 (by kernel_rfl) (by kernel_rfl) [.tmp 4, .tmp 5] (by kernel_rfl) rfl rfl rfl [] fun d => by kernel_rfl

@[reducible] def pi_stamp_FromPosix : PSh := ⟨[], [.mk false [vI]]⟩
@[reducible] def po_stamp_FromPosix : PSh := ⟨[], [.mk false [vI], .mk false [vE]]⟩
def f_stamp_FromPosix_m (T : Unit) (d : Unit × ((Int × Unit) × Unit)) : Option (Unit × ((Int × Unit) × (((Option Int) × Unit) × Unit))) :=
  (g_num_Add ((), (d.2.1, (((2208988800 : Int), ()), ())))).bind fun x1 =>
  some ((), x1.2)
def g_stamp_FromPosix (d : Unit × ((Int × Unit) × Unit)) : Option (Unit × ((Int × Unit) × (((Option Int) × Unit) × Unit))) := f_stamp_FromPosix_m () d
theorem ok_stamp_FromPosix : FnOk Tryz.prog ET0 38 pi_stamp_FromPosix po_stamp_FromPosix g_stamp_FromPosix :=
  fn0 (E := (E0.add 104 (typedSem pi_num_Add po_num_Add g_num_Add))) (envOk_add e0_ok (typed_ok ok_num_Add)) (fn := Tryz.f38) Tryz.func38 (by kernel_rfl) (by kernel_rfl) [.tmp 2, .tmp 3] (by kernel_rfl) rfl rfl rfl [] fun d => by kernel_rfl

@[reducible] def pi_stamp_right : PSh := ⟨[], [.mk false [vI]]⟩
@[reducible] def po_stamp_right : PSh := ⟨[], [.mk false [vB]]⟩
def f_stamp_right_m (T : Unit) (d : Unit × ((Int × Unit) × Unit)) : Option (Unit × ((Bool × Unit) × Unit)) :=
  let x1 : Bool := (decide (d.2.1.1 ≥ (0 : Int)))
  bif x1 then (
  let x2 : Bool := (decide (d.2.1.1 < (1000000000 : Int)))
  some ((), ((x2, ()), ())))
  else (
  some ((), ((false, ()), ())))
def g_stamp_right (d : Unit × ((Int × Unit) × Unit)) : Option (Unit × ((Bool × Unit) × Unit)) := f_stamp_right_m () d
theorem ok_stamp_right : FnOk Tryz.prog ET0 178 pi_stamp_right po_stamp_right g_stamp_right :=
  fn0 (E := E0) e0_ok (fn := Tryz.f178) Tryz.func178 (by kernel_rfl) (by kernel_rfl) [.tmp 2] (by kernel_rfl) rfl rfl rfl [] fun d => by kernel_rfl

@[reducible] def pi_stamp_Fraction : PSh := ⟨[], [.mk false [vI]]⟩
@[reducible] def po_stamp_Fraction : PSh := ⟨[], [.mk false [.v (.int .u32)], .mk false [vE]]⟩
def f_stamp_Fraction_m (T : Unit) (d : Unit × ((Int × Unit) × Unit)) : Option (Unit × ((Int × Unit) × (((Option Int) × Unit) × Unit))) :=
  (g_stamp_right ((), d.2)).bind fun x1 =>
  let x2 : Bool := (!x1.2.1.1)
  bif x2 then (
  let x3 : (Option Int) := (some (1 : Int))
  some ((), (((0 : Int), ()), ((x3, ()), ()))))
  else (
  let x4 : Int := (iconv .u64 d.2.1.1)
  let x5 : Int := (ishl .u64 x4 (32 : Int))
  let x6 : Int := (iadd .u64 x5 (1000000000 : Int))
  let x7 : Int := (isub .u64 x6 (1 : Int))
  let x8 : Int := (iquo .u64 x7 (1000000000 : Int))
  let x9 : Int := (iconv .u32 x8)
  some ((), ((x9, ()), (((none : Option Int), ()), ()))))
def g_stamp_Fraction (d : Unit × ((Int × Unit) × Unit)) : Option (Unit × ((Int × Unit) × (((Option Int) × Unit) × Unit))) := f_stamp_Fraction_m () d
theorem ok_stamp_Fraction : FnOk Tryz.prog ET0 105 pi_stamp_Fraction po_stamp_Fraction g_stamp_Fraction :=
  fn0 (E := (E0.add 178 (typedSem pi_stamp_right po_stamp_right g_stamp_right))) (envOk_add e0_ok (typed_ok ok_stamp_right)) (fn := Tryz.f105) Tryz.func105 (by kernel_rfl) (by kernel_rfl) [.tmp 2, .tmp 3] (by kernel_rfl) rfl rfl rfl [] fun d => by kernel_rfl

@[reducible] def pi_era_Fold_u32 : PSh := ⟨[], [.mk false [vI]]⟩
@[reducible] def po_era_Fold_u32 : PSh := ⟨[], [.mk false [.v (.int .u32)]]⟩
def f_era_Fold_u32_m (T : Unit) (d : Unit × ((Int × Unit) × Unit)) : Option (Unit × ((Int × Unit) × Unit)) :=
  let x1 : Int := (iconv .u32 d.2.1.1)
  some ((), ((x1, ()), ()))
def g_era_Fold_u32 (d : Unit × ((Int × Unit) × Unit)) : Option (Unit × ((Int × Unit) × Unit)) := f_era_Fold_u32_m () d
theorem ok_era_Fold_u32 : FnOk Tryz.prog ET0 106 pi_era_Fold_u32 po_era_Fold_u32 g_era_Fold_u32 :=
  fn0 (E := E0) e0_ok (fn := Tryz.f106) Tryz.func106 (by kernel_rfl) (by kernel_rfl) [.tmp 2] (by kernel_rfl) rfl rfl rfl [] fun d => by kernel_rfl

@[reducible] def pi_stamp_Of : PSh := ⟨[], [.mk false [vI], .mk false [vI]]⟩
@[reducible] def po_stamp_Of : PSh := ⟨[], [.mk true [.v (.int .u32), .v (.int .u32)], .mk false [vE]]⟩
def f_stamp_Of_m (T : Unit) (d : Unit × ((Int × Unit) × ((Int × Unit) × Unit))) : Option (Unit × ((Int × (Int × Unit)) × (((Option Int) × Unit) × Unit))) :=
  (g_stamp_Fraction ((), d.2.2)).bind fun x1 =>
  let x2 : Bool := (!x1.2.2.1.1.isNone)
  bif x2 then (
  some ((), (((0 : Int), ((0 : Int), ())), x1.2.2)))
  else (
  (g_era_Fold_u32 ((), (d.2.1, ()))).bind fun x3 =>
  some ((), ((x3.2.1.1, x1.2.1), (((none : Option Int), ()), ()))))
def g_stamp_Of (d : Unit × ((Int × Unit) × ((Int × Unit) × Unit))) : Option (Unit × ((Int × (Int × Unit)) × (((Option Int) × Unit) × Unit))) := f_stamp_Of_m () d
theorem ok_stamp_Of : FnOk Tryz.prog ET0 39 pi_stamp_Of po_stamp_Of g_stamp_Of :=
  fn0 (E := ((E0.add 105 (typedSem pi_stamp_Fraction po_stamp_Fraction g_stamp_Fraction)).add 106 (typedSem pi_era_Fold_u32 po_era_Fold_u32 g_era_Fold_u32))) (envOk_add (envOk_add e0_ok (typed_ok ok_stamp_Fraction)) (typed_ok ok_era_Fold_u32)) (fn := Tryz.f39) Tryz.func39 (by kernel_rfl) (by kernel_rfl) [.cell 4 83, .tmp 5] (by kernel_rfl) rfl rfl rfl [] fun d => by kernel_rfl

@[reducible] def pi_octets_Size_u32 : PSh := ⟨[], []⟩
@[reducible] def po_octets_Size_u32 : PSh := ⟨[], [.mk false [vI]]⟩
@[reducible] def TT_octets_Size_u32 : Type := (((Unit × ((Int × Unit) × ((Int × Unit) × Unit))) → Option (Unit × ((Int × Unit) × Unit))) × Unit)
@[reducible] def sh_octets_Size_u32_4 : PSh := ⟨[], [.any, .mk false [vI], .mk false [.v (.int .u32)], .any, .any, .any, .any, .any, .any, .any, .any, .any, .any, .any]⟩
def f_octets_Size_u32_p4 (T : TT_octets_Size_u32) (d : Unit × ((Int × Unit) × ((Int × Unit) × Unit))) : Option (Unit × ((Int × Unit) × Unit)) :=
  let x3 : Bool := (decide (d.2.2.1.1 > (0 : Int)))
  bif x3 then (
  let x4 : Int := (iadd .i64 d.2.1.1 (1 : Int))
  let x5 : Int := (iconv .u64 d.2.2.1.1)
  let x6 : Int := (ishr .u64 x5 (8 : Int))
  let x7 : Int := (iconv .u32 x6)
  (T.1 ((), ((x4, ()), ((x7, ()), ())))))
  else (
  some ((), (d.2.1, ())))
def f_octets_Size_u32_t : Nat → TT_octets_Size_u32
  | 0 => (fun _ => none, ())
  | k + 1 => (f_octets_Size_u32_p4 (f_octets_Size_u32_t k), ())
theorem t_octets_Size_u32 (k : Nat) : f_octets_Size_u32_t (k + 1) = (f_octets_Size_u32_p4 (f_octets_Size_u32_t k), ()) := rfl
def f_octets_Size_u32_m (T : TT_octets_Size_u32) (d : Unit × Unit) : Option (Unit × ((Int × Unit) × Unit)) :=
  let x1 : Int := (iconv .u32 (0 : Int))
  let x2 : Int := (inot .u32 x1)
  (T.1 ((), (((0 : Int), ()), ((x2, ()), ()))))
def c_octets_Size_u32 : List Nat := []
def L_octets_Size_u32 (k : Nat) : Pts po_octets_Size_u32.den := [(4, ⟨sh_octets_Size_u32_4, (f_octets_Size_u32_t k).1⟩)]
def R_octets_Size_u32 (_ : Nat) : PtsR po_octets_Size_u32.den := []
def E_octets_Size_u32 : Env := E0
theorem q_octets_Size_u32_4 (k : Nat) (d : sh_octets_Size_u32_4.den) : evAt E_octets_Size_u32 (tb (L_octets_Size_u32 k) (R_octets_Size_u32 k)) c_octets_Size_u32 4 (bodyOf Tryz.f179) 0 (finK E_octets_Size_u32 po_octets_Size_u32 [.tmp 0]) (ptSt sh_octets_Size_u32_4 d) = f_octets_Size_u32_p4 (f_octets_Size_u32_t k) d := by kernel_rfl
theorem q_octets_Size_u32_m (k : Nat) (d : pi_octets_Size_u32.den) : evCode E_octets_Size_u32 (tb (L_octets_Size_u32 k) (R_octets_Size_u32 k)) c_octets_Size_u32 (bodyOf Tryz.f179) 0 (finK E_octets_Size_u32 po_octets_Size_u32 [.tmp 0]) (startSt pi_octets_Size_u32 14 d) = f_octets_Size_u32_m (f_octets_Size_u32_t k) d := by kernel_rfl
def g_octets_Size_u32 (d : Unit × Unit) : Option (Unit × ((Int × Unit) × Unit)) := lim fun k => f_octets_Size_u32_m (f_octets_Size_u32_t k) d
theorem ok_octets_Size_u32 : FnOk Tryz.prog ET0 179 pi_octets_Size_u32 po_octets_Size_u32 g_octets_Size_u32 :=
  fn_of_body (E := E_octets_Size_u32) e0_ok (fn := Tryz.f179) Tryz.func179 (by kernel_rfl) (by kernel_rfl) [.tmp 0] (by kernel_rfl) (by kernel_rfl) (by decide) rfl c_octets_Size_u32 L_octets_Size_u32 R_octets_Size_u32
    (by intro x hx d; simp only [L_octets_Size_u32, List.mem_cons, List.not_mem_nil, or_false] at hx; subst hx; rfl)
    (by intro k x hx d out h; simp only [L_octets_Size_u32, List.mem_cons, List.not_mem_nil, or_false] at hx; subst hx; exact (q_octets_Size_u32_4 k d).trans h)
    (by intro x hx; cases hx)
    (by intro k x hx; cases hx)
    (by intro d out h; obtain ⟨k, hk⟩ := lim_some h; exact ⟨k, (q_octets_Size_u32_m k d).trans hk⟩)

@[reducible] def pi_era_Unfold_u32 : PSh := ⟨[], [.mk false [.v (.int .u32)], .mk false [vI]]⟩
@[reducible] def po_era_Unfold_u32 : PSh := ⟨[], [.mk false [vI], .mk false [vE]]⟩
def f_era_Unfold_u32_m (T : Unit) (d : Unit × ((Int × Unit) × ((Int × Unit) × Unit))) : Option (Unit × ((Int × Unit) × (((Option Int) × Unit) × Unit))) :=
  let x1 : Int := (iconv .u64 d.2.1.1)
  (g_octets_Size_u32 ((), ())).bind fun x2 =>
  let x3 : Int := (imul .i64 x2.2.1.1 (8 : Int))
  (g_era_Bits ((), ((x1, ()), ((x3, ()), d.2.2)))).bind fun x4 =>
  some ((), x4.2)
def g_era_Unfold_u32 (d : Unit × ((Int × Unit) × ((Int × Unit) × Unit))) : Option (Unit × ((Int × Unit) × (((Option Int) × Unit) × Unit))) := f_era_Unfold_u32_m () d
theorem ok_era_Unfold_u32 : FnOk Tryz.prog ET0 107 pi_era_Unfold_u32 po_era_Unfold_u32 g_era_Unfold_u32 :=
  fn0 (E := ((E0.add 175 (typedSem pi_era_Bits po_era_Bits g_era_Bits)).add 179 (typedSem pi_octets_Size_u32 po_octets_Size_u32 g_octets_Size_u32))) (envOk_add (envOk_add e0_ok (typed_ok ok_era_Bits)) (typed_ok ok_octets_Size_u32)) (fn := Tryz.f107) Tryz.func107 (by kernel_rfl) (by kernel_rfl) [.tmp 4, .tmp 5] (by kernel_rfl) rfl rfl rfl [] fun d => by kernel_rfl

@[reducible] def pi_stamp_Nano : PSh := ⟨[], [.mk false [.v (.int .u32)]]⟩
@[reducible] def po_stamp_Nano : PSh := ⟨[], [.mk false [vI]]⟩
def f_stamp_Nano_m (T : Unit) (d : Unit × ((Int × Unit) × Unit)) : Option (Unit × ((Int × Unit) × Unit)) :=
  let x1 : Int := (iconv .u64 d.2.1.1)
  let x2 : Int := (imul .u64 x1 (1000000000 : Int))
  let x3 : Int := (ishr .u64 x2 (32 : Int))
  let x4 : Int := (iconv .i64 x3)
  some ((), ((x4, ()), ()))
def g_stamp_Nano (d : Unit × ((Int × Unit) × Unit)) : Option (Unit × ((Int × Unit) × Unit)) := f_stamp_Nano_m () d
theorem ok_stamp_Nano : FnOk Tryz.prog ET0 108 pi_stamp_Nano po_stamp_Nano g_stamp_Nano :=
  fn0 (E := E0) e0_ok (fn := Tryz.f108) Tryz.func108 (by kernel_rfl) (by kernel_rfl) [.tmp 2] (by kernel_rfl) rfl rfl rfl [] fun d => by kernel_rfl

@[reducible] def pi_stamp_Time : PSh := ⟨[], [.mk true [.v (.int .u32), .v (.int .u32)], .mk false [vI]]⟩
@[reducible] def po_stamp_Time : PSh := ⟨[], [.mk false [vI], .mk false [vI], .mk false [vE]]⟩
def f_stamp_Time_m (T : Unit) (d : Unit × ((Int × (Int × Unit)) × ((Int × Unit) × Unit))) : Option (Unit × ((Int × Unit) × ((Int × Unit) × (((Option Int) × Unit) × Unit)))) :=
  (g_era_Unfold_u32 ((), ((d.2.1.1, ()), d.2.2))).bind fun x1 =>
  let x2 : Bool := (!x1.2.2.1.1.isNone)
  bif x2 then (
  some ((), (((0 : Int), ()), (((0 : Int), ()), x1.2.2))))
  else (
  (g_stamp_Nano ((), (d.2.1.2, ()))).bind fun x3 =>
  some ((), (x1.2.1, (x3.2.1, (((none : Option Int), ()), ())))))
def g_stamp_Time (d : Unit × ((Int × (Int × Unit)) × ((Int × Unit) × Unit))) : Option (Unit × ((Int × Unit) × ((Int × Unit) × (((Option Int) × Unit) × Unit)))) := f_stamp_Time_m () d
theorem ok_stamp_Time : FnOk Tryz.prog ET0 40 pi_stamp_Time po_stamp_Time g_stamp_Time :=
  fn0 (E := ((E0.add 107 (typedSem pi_era_Unfold_u32 po_era_Unfold_u32 g_era_Unfold_u32)).add 108 (typedSem pi_stamp_Nano po_stamp_Nano g_stamp_Nano))) (envOk_add (envOk_add e0_ok (typed_ok ok_era_Unfold_u32)) (typed_ok ok_stamp_Nano)) (fn := Tryz.f40) Tryz.func40 (by kernel_rfl) (by kernel_rfl) [.tmp 4, .tmp 5, .tmp 6] (by kernel_rfl) rfl rfl rfl [] fun d => by kernel_rfl

@[reducible] def pi_slices_Clone_byte_byte : PSh := ⟨[], [.mk false [.v (.sl (.int .u8))]]⟩
@[reducible] def po_slices_Clone_byte_byte : PSh := ⟨[.row 5 (.int .u8)], [.mk false [.osl 0]]⟩
def f_slices_Clone_byte_byte_m (T : Unit) (d : Unit × (((List Int) × Unit) × Unit)) : Option (((List Int) × Unit) × (Unit × Unit)) :=
  bif d.2.1.1.isEmpty then (
  agree (
  some ((([] : List Int), ()), ((), ()))) (
  let x1 : (List Int) := ([] : List Int)
  bif decide (((x1.length + d.2.1.1.length) * 1 : Nat) ≤ 140737488355328) && decide (x1.length + d.2.1.1.length ≤ 9223372036854775807) then (
  let x2 : (List Int) := (x1 ++ d.2.1.1)
  some ((x2, ()), ((), ())))
  else none))
  else (
  let x3 : (List Int) := ([] : List Int)
  bif decide (((x3.length + d.2.1.1.length) * 1 : Nat) ≤ 140737488355328) && decide (x3.length + d.2.1.1.length ≤ 9223372036854775807) then (
  let x4 : (List Int) := (x3 ++ d.2.1.1)
  some ((x4, ()), ((), ())))
  else none)
def g_slices_Clone_byte_byte (d : Unit × (((List Int) × Unit) × Unit)) : Option (((List Int) × Unit) × (Unit × Unit)) := f_slices_Clone_byte_byte_m () d
theorem ok_slices_Clone_byte_byte : FnOk Tryz.prog ET0 216 pi_slices_Clone_byte_byte po_slices_Clone_byte_byte g_slices_Clone_byte_byte :=
  fn0 (E := E0) e0_ok (fn := Tryz.f216) Tryz.func216 (by kernel_rfl) (by kernel_rfl) [.tmp 2] (by kernel_rfl) rfl rfl rfl [] fun d => by kernel_rfl

@[reducible] def pi_octets_Put_u32 : PSh := ⟨[], [.mk false [.v (.sl (.int .u8))], .mk false [.v (.sl (.int .u32))]]⟩
@[reducible] def po_octets_Put_u32 : PSh := ⟨[.row 5 (.int .u8)], [.mk false [.osl 0]]⟩
@[reducible] def TT_octets_Put_u32 : Type := (((((List Int) × Unit) × ((Int × Unit) × (Unit × (((List Int) × Unit) × ((Int × Unit) × ((Int × Unit) × Unit)))))) → Option (((List Int) × Unit) × (Unit × Unit))) × (((((List Int) × Unit) × ((Int × Unit) × (Unit × ((Int × Unit) × ((Int × Unit) × (((List Int) × Unit) × ((Int × Unit) × ((Int × Unit) × Unit)))))))) → Option (((List Int) × Unit) × (Unit × Unit))) × Unit))
@[reducible] def sh_octets_Put_u32_5 : PSh := ⟨[.row 5 (.int .u8)], [.any, .any, .any, .any, .any, .mk false [vI], .mk false [.osl 0], .any, .any, .any, .any, .any, .any, .mk false [.v (.sl (.int .u32))], .mk false [vI], .mk false [vI], .any, .any, .any, .any, .any, .any, .any, .any, .any, .any, .any, .any, .any, .any, .any, .any, .any, .any, .any, .any]⟩
@[reducible] def sh_octets_Put_u32_11 : PSh := ⟨[.row 5 (.int .u8)], [.any, .any, .any, .any, .any, .mk false [vI], .mk false [.osl 0], .any, .mk false [.v (.int .u32)], .mk false [vI], .any, .any, .any, .mk false [.v (.sl (.int .u32))], .mk false [vI], .mk false [vI], .any, .any, .any, .any, .any, .any, .any, .any, .any, .any, .any, .any, .any, .any, .any, .any, .any, .any, .any, .any]⟩
def f_octets_Put_u32_p5 (T : TT_octets_Put_u32) (d : ((List Int) × Unit) × ((Int × Unit) × (Unit × (((List Int) × Unit) × ((Int × Unit) × ((Int × Unit) × Unit)))))) : Option (((List Int) × Unit) × (Unit × Unit)) :=
  let x4 : Bool := (decide (d.2.2.2.2.2.1.1 < d.2.2.2.2.1.1))
  bif x4 then (
  bif decide ((0 : Int) ≤ d.2.2.2.2.2.1.1) && decide (d.2.2.2.2.2.1.1 < (d.2.2.2.1.1.length : Int)) then (
  let x5 : Int := (isub .i64 d.2.1.1 (1 : Int))
  (T.2.1 (d.1, (d.2.1, ((), (((gd (.int .u32) d.2.2.2.1.1 d.2.2.2.2.2.1.1), ()), ((x5, ()), d.2.2.2)))))))
  else none)
  else (
  some (d.1, ((), ())))
def f_octets_Put_u32_p11 (T : TT_octets_Put_u32) (d : ((List Int) × Unit) × ((Int × Unit) × (Unit × ((Int × Unit) × ((Int × Unit) × (((List Int) × Unit) × ((Int × Unit) × ((Int × Unit) × Unit)))))))) : Option (((List Int) × Unit) × (Unit × Unit)) :=
  let x6 : Bool := (decide (d.2.2.2.2.1.1 ≥ (0 : Int)))
  bif x6 then (
  let x7 : Int := (iconv .u64 d.2.2.2.1.1)
  let x8 : Int := (imul .i64 (8 : Int) d.2.2.2.2.1.1)
  bif decide (x8 < 0) then (
  none)
  else (
  let x9 : Int := (ishr .u64 x7 x8)
  let x10 : Int := (iconv .u8 x9)
  let x11 : (List Int) := ([x10] : List Int)
  bif decide (((d.1.1.length + x11.length) * 1 : Nat) ≤ 140737488355328) && decide (d.1.1.length + x11.length ≤ 9223372036854775807) then (
  let x12 : (List Int) := (d.1.1 ++ x11)
  let x13 : Int := (isub .i64 d.2.2.2.2.1.1 (1 : Int))
  (T.2.1 ((x12, ()), (d.2.1, ((), (d.2.2.2.1, ((x13, ()), d.2.2.2.2.2)))))))
  else none))
  else (
  let x14 : Int := (iadd .i64 d.2.2.2.2.2.2.2.1.1 (1 : Int))
  (T.1 (d.1, (d.2.1, ((), (d.2.2.2.2.2.1, (d.2.2.2.2.2.2.1, ((x14, ()), ()))))))))
def f_octets_Put_u32_t : Nat → TT_octets_Put_u32
  | 0 => (fun _ => none, (fun _ => none, ()))
  | k + 1 => (f_octets_Put_u32_p5 (f_octets_Put_u32_t k), (f_octets_Put_u32_p11 (f_octets_Put_u32_t k), ()))
theorem t_octets_Put_u32 (k : Nat) : f_octets_Put_u32_t (k + 1) = (f_octets_Put_u32_p5 (f_octets_Put_u32_t k), (f_octets_Put_u32_p11 (f_octets_Put_u32_t k), ())) := rfl
def f_octets_Put_u32_m (T : TT_octets_Put_u32) (d : Unit × (((List Int) × Unit) × (((List Int) × Unit) × Unit))) : Option (((List Int) × Unit) × (Unit × Unit)) :=
  (g_octets_Size_u32 ((), ())).bind fun x1 =>
  (g_slices_Clone_byte_byte ((), (d.2.1, ()))).bind fun x2 =>
  let x3 : Int := (d.2.2.1.1.length : Int)
  (T.1 (x2.1, (x1.2.1, ((), (d.2.2.1, ((x3, ()), (((0 : Int), ()), ())))))))
def c_octets_Put_u32 : List Nat := []
def L_octets_Put_u32 (k : Nat) : Pts po_octets_Put_u32.den := [(5, ⟨sh_octets_Put_u32_5, (f_octets_Put_u32_t k).1⟩), (11, ⟨sh_octets_Put_u32_11, (f_octets_Put_u32_t k).2.1⟩)]
def R_octets_Put_u32 (_ : Nat) : PtsR po_octets_Put_u32.den := []
def E_octets_Put_u32 : Env := ((E0.add 179 (typedSem pi_octets_Size_u32 po_octets_Size_u32 g_octets_Size_u32)).add 216 (typedSem pi_slices_Clone_byte_byte po_slices_Clone_byte_byte g_slices_Clone_byte_byte))
theorem q_octets_Put_u32_5 (k : Nat) (d : sh_octets_Put_u32_5.den) : evAt E_octets_Put_u32 (tb (L_octets_Put_u32 k) (R_octets_Put_u32 k)) c_octets_Put_u32 5 (bodyOf Tryz.f180) 0 (finK E_octets_Put_u32 po_octets_Put_u32 [.tmp 4]) (ptSt sh_octets_Put_u32_5 d) = f_octets_Put_u32_p5 (f_octets_Put_u32_t k) d := by kernel_rfl
theorem q_octets_Put_u32_11 (k : Nat) (d : sh_octets_Put_u32_11.den) : evAt E_octets_Put_u32 (tb (L_octets_Put_u32 k) (R_octets_Put_u32 k)) c_octets_Put_u32 11 (bodyOf Tryz.f180) 0 (finK E_octets_Put_u32 po_octets_Put_u32 [.tmp 4]) (ptSt sh_octets_Put_u32_11 d) = f_octets_Put_u32_p11 (f_octets_Put_u32_t k) d := by kernel_rfl
theorem q_octets_Put_u32_m (k : Nat) (d : pi_octets_Put_u32.den) : evCode E_octets_Put_u32 (tb (L_octets_Put_u32 k) (R_octets_Put_u32 k)) c_octets_Put_u32 (bodyOf Tryz.f180) 0 (finK E_octets_Put_u32 po_octets_Put_u32 [.tmp 4]) (startSt pi_octets_Put_u32 36 d) = f_octets_Put_u32_m (f_octets_Put_u32_t k) d := by kernel_rfl
def g_octets_Put_u32 (d : Unit × (((List Int) × Unit) × (((List Int) × Unit) × Unit))) : Option (((List Int) × Unit) × (Unit × Unit)) := lim fun k => f_octets_Put_u32_m (f_octets_Put_u32_t k) d
theorem ok_octets_Put_u32 : FnOk Tryz.prog ET0 180 pi_octets_Put_u32 po_octets_Put_u32 g_octets_Put_u32 :=
  fn_of_body (E := E_octets_Put_u32) (envOk_add (envOk_add e0_ok (typed_ok ok_octets_Size_u32)) (typed_ok ok_slices_Clone_byte_byte)) (fn := Tryz.f180) Tryz.func180 (by kernel_rfl) (by kernel_rfl) [.tmp 4] (by kernel_rfl) (by kernel_rfl) (by decide) rfl c_octets_Put_u32 L_octets_Put_u32 R_octets_Put_u32
    (by intro x hx d; simp only [L_octets_Put_u32, List.mem_cons, List.not_mem_nil, or_false] at hx; rcases hx with rfl | rfl; rfl; rfl)
    (by intro k x hx d out h; simp only [L_octets_Put_u32, List.mem_cons, List.not_mem_nil, or_false] at hx; rcases hx with rfl | rfl; exact (q_octets_Put_u32_5 k d).trans h; exact (q_octets_Put_u32_11 k d).trans h)
    (by intro x hx; cases hx)
    (by intro k x hx; cases hx)
    (by intro d out h; obtain ⟨k, hk⟩ := lim_some h; exact ⟨k, (q_octets_Put_u32_m k d).trans hk⟩)

@[reducible] def pi_word_Put : PSh := ⟨[], [.mk false [vI]]⟩
@[reducible] def po_word_Put : PSh := ⟨[.row 5 (.int .u8)], [.mk false [.osl 0], .mk false [vE]]⟩
def f_word_Put_m (T : Unit) (d : Unit × ((Int × Unit) × Unit)) : Option (((List Int) × Unit) × (Unit × (((Option Int) × Unit) × Unit))) :=
  (g_stamp_FromPosix ((), d.2)).bind fun x1 =>
  let x2 : Bool := (!x1.2.2.1.1.isNone)
  bif x2 then (
  some ((([] : List Int), ()), ((), x1.2.2)))
  else (
  (g_era_Fold_u32 ((), (x1.2.1, ()))).bind fun x3 =>
  let x4 : (List Int) := ([x3.2.1.1] : List Int)
  (g_octets_Put_u32 ((), ((([] : List Int), ()), ((x4, ()), ())))).bind fun x5 =>
  some (x5.1, ((), (((none : Option Int), ()), ()))))
def g_word_Put (d : Unit × ((Int × Unit) × Unit)) : Option (((List Int) × Unit) × (Unit × (((Option Int) × Unit) × Unit))) := f_word_Put_m () d
theorem ok_word_Put : FnOk Tryz.prog ET0 109 pi_word_Put po_word_Put g_word_Put :=
  fn0 (E := (((E0.add 38 (typedSem pi_stamp_FromPosix po_stamp_FromPosix g_stamp_FromPosix)).add 106 (typedSem pi_era_Fold_u32 po_era_Fold_u32 g_era_Fold_u32)).add 180 (typedSem pi_octets_Put_u32 po_octets_Put_u32 g_octets_Put_u32))) (envOk_add (envOk_add (envOk_add e0_ok (typed_ok ok_stamp_FromPosix)) (typed_ok ok_era_Fold_u32)) (typed_ok ok_octets_Put_u32)) (fn := Tryz.f109) Tryz.func109 (by kernel_rfl) (by kernel_rfl) [.tmp 2, .tmp 3] (by kernel_rfl) rfl rfl rfl [] fun d => by kernel_rfl

@[reducible] def pi_word_Of : PSh := ⟨[], [.mk true [vI, vI, vI, vI, vI, vI, vI, vI]]⟩
@[reducible] def po_word_Of : PSh := ⟨[.row 5 (.int .u8)], [.mk false [.osl 0], .mk false [vE]]⟩
def f_word_Of_m (T : Unit) (d : Unit × ((Int × (Int × (Int × (Int × (Int × (Int × (Int × (Int × Unit)))))))) × Unit)) : Option (((List Int) × Unit) × (Unit × (((Option Int) × Unit) × Unit))) :=
  (g_scale_Posix ((), d.2)).bind fun x1 =>
  let x2 : Bool := (!x1.2.2.1.1.isNone)
  bif x2 then (
  some ((([] : List Int), ()), ((), x1.2.2)))
  else (
  (g_word_Put ((), (x1.2.1, ()))).bind fun x3 =>
  some (x3.1, ((), x3.2.2)))
def g_word_Of (d : Unit × ((Int × (Int × (Int × (Int × (Int × (Int × (Int × (Int × Unit)))))))) × Unit)) : Option (((List Int) × Unit) × (Unit × (((Option Int) × Unit) × Unit))) := f_word_Of_m () d
theorem ok_word_Of : FnOk Tryz.prog ET0 41 pi_word_Of po_word_Of g_word_Of :=
  fn0 (E := ((E0.add 36 (typedSem pi_scale_Posix po_scale_Posix g_scale_Posix)).add 109 (typedSem pi_word_Put po_word_Put g_word_Put))) (envOk_add (envOk_add e0_ok (typed_ok ok_scale_Posix)) (typed_ok ok_word_Put)) (fn := Tryz.f41) Tryz.func41 (by kernel_rfl) (by kernel_rfl) [.tmp 2, .tmp 3] (by kernel_rfl) rfl rfl rfl [] fun d => by kernel_rfl

@[reducible] def pi_octets_from : PSh := ⟨[], [.mk false [.v (.sl (.int .u8))], .mk false [vI], .mk false [vI]]⟩
@[reducible] def po_octets_from : PSh := ⟨[], [.mk false [.v (.sl (.int .u8))], .mk false [vE]]⟩
def f_octets_from_m (T : Unit) (d : Unit × (((List Int) × Unit) × ((Int × Unit) × ((Int × Unit) × Unit)))) : Option (Unit × (((List Int) × Unit) × (((Option Int) × Unit) × Unit))) :=
  let x1 : Bool := (decide (d.2.2.1.1 < (0 : Int)))
  bif x1 then (
  let x2 : (Option Int) := (some (1 : Int))
  some ((), ((([] : List Int), ()), ((x2, ()), ()))))
  else (
  let x3 : Int := (d.2.1.1.length : Int)
  let x4 : Bool := (decide (d.2.2.1.1 > x3))
  bif x4 then (
  let x5 : (Option Int) := (some (1 : Int))
  some ((), ((([] : List Int), ()), ((x5, ()), ()))))
  else (
  let x6 : Bool := (decide (d.2.2.2.1.1 < (0 : Int)))
  bif x6 then (
  let x7 : (Option Int) := (some (1 : Int))
  some ((), ((([] : List Int), ()), ((x7, ()), ()))))
  else (
  let x8 : Int := (d.2.1.1.length : Int)
  let x9 : Int := (isub .i64 x8 d.2.2.1.1)
  let x10 : Bool := (decide (d.2.2.2.1.1 > x9))
  bif x10 then (
  let x11 : (Option Int) := (some (4 : Int))
  some ((), ((([] : List Int), ()), ((x11, ()), ()))))
  else (
  let x12 : Int := (iadd .i64 d.2.2.1.1 d.2.2.2.1.1)
  bif decide ((0 : Int) ≤ d.2.2.1.1) && decide (d.2.2.1.1 ≤ x12) && decide (x12 ≤ (d.2.1.1.length : Int)) then (
  let x13 : (List Int) := (List.drop (Int.toNat d.2.2.1.1) (List.take (Int.toNat x12) d.2.1.1))
  some ((), ((x13, ()), (((none : Option Int), ()), ()))))
  else none))))
def g_octets_from (d : Unit × (((List Int) × Unit) × ((Int × Unit) × ((Int × Unit) × Unit)))) : Option (Unit × (((List Int) × Unit) × (((Option Int) × Unit) × Unit))) := f_octets_from_m () d
theorem ok_octets_from : FnOk Tryz.prog ET0 217 pi_octets_from po_octets_from g_octets_from :=
  fn0 (E := E0) e0_ok (fn := Tryz.f217) Tryz.func217 (by kernel_rfl) (by kernel_rfl) [.tmp 6, .tmp 7] (by kernel_rfl) rfl rfl rfl [] fun d => by kernel_rfl

@[reducible] def pi_octets_word_u32 : PSh := ⟨[], [.mk false [.v (.sl (.int .u8))]]⟩
@[reducible] def po_octets_word_u32 : PSh := ⟨[], [.mk false [.v (.int .u32)]]⟩
@[reducible] def TT_octets_word_u32 : Type := (((Unit × ((Int × Unit) × (((List Int) × Unit) × ((Int × Unit) × ((Int × Unit) × Unit))))) → Option (Unit × ((Int × Unit) × Unit))) × Unit)
@[reducible] def sh_octets_word_u32_4 : PSh := ⟨[], [.any, .any, .any, .mk false [.v (.int .u64)], .any, .any, .mk false [.v (.sl (.int .u8))], .mk false [vI], .mk false [vI], .any, .any, .any, .any, .any, .any, .any, .any, .any, .any, .any]⟩
def f_octets_word_u32_p4 (T : TT_octets_word_u32) (d : Unit × ((Int × Unit) × (((List Int) × Unit) × ((Int × Unit) × ((Int × Unit) × Unit))))) : Option (Unit × ((Int × Unit) × Unit)) :=
  let x2 : Bool := (decide (d.2.2.2.2.1.1 < d.2.2.2.1.1))
  bif x2 then (
  bif decide ((0 : Int) ≤ d.2.2.2.2.1.1) && decide (d.2.2.2.2.1.1 < (d.2.2.1.1.length : Int)) then (
  let x3 : Int := (ishl .u64 d.2.1.1 (8 : Int))
  let x4 : Int := (iconv .u64 (gd (.int .u8) d.2.2.1.1 d.2.2.2.2.1.1))
  let x5 : Int := (ior .u64 x3 x4)
  let x6 : Int := (iadd .i64 d.2.2.2.2.1.1 (1 : Int))
  (T.1 ((), ((x5, ()), (d.2.2.1, (d.2.2.2.1, ((x6, ()), ())))))))
  else none)
  else (
  let x7 : Int := (iconv .u32 d.2.1.1)
  some ((), ((x7, ()), ())))
def f_octets_word_u32_t : Nat → TT_octets_word_u32
  | 0 => (fun _ => none, ())
  | k + 1 => (f_octets_word_u32_p4 (f_octets_word_u32_t k), ())
theorem t_octets_word_u32 (k : Nat) : f_octets_word_u32_t (k + 1) = (f_octets_word_u32_p4 (f_octets_word_u32_t k), ()) := rfl
def f_octets_word_u32_m (T : TT_octets_word_u32) (d : Unit × (((List Int) × Unit) × Unit)) : Option (Unit × ((Int × Unit) × Unit)) :=
  let x1 : Int := (d.2.1.1.length : Int)
  (T.1 ((), (((0 : Int), ()), (d.2.1, ((x1, ()), (((0 : Int), ()), ()))))))
def c_octets_word_u32 : List Nat := []
def L_octets_word_u32 (k : Nat) : Pts po_octets_word_u32.den := [(4, ⟨sh_octets_word_u32_4, (f_octets_word_u32_t k).1⟩)]
def R_octets_word_u32 (_ : Nat) : PtsR po_octets_word_u32.den := []
def E_octets_word_u32 : Env := E0
theorem q_octets_word_u32_4 (k : Nat) (d : sh_octets_word_u32_4.den) : evAt E_octets_word_u32 (tb (L_octets_word_u32 k) (R_octets_word_u32 k)) c_octets_word_u32 4 (bodyOf Tryz.f218) 0 (finK E_octets_word_u32 po_octets_word_u32 [.tmp 2]) (ptSt sh_octets_word_u32_4 d) = f_octets_word_u32_p4 (f_octets_word_u32_t k) d := by kernel_rfl
theorem q_octets_word_u32_m (k : Nat) (d : pi_octets_word_u32.den) : evCode E_octets_word_u32 (tb (L_octets_word_u32 k) (R_octets_word_u32 k)) c_octets_word_u32 (bodyOf Tryz.f218) 0 (finK E_octets_word_u32 po_octets_word_u32 [.tmp 2]) (startSt pi_octets_word_u32 20 d) = f_octets_word_u32_m (f_octets_word_u32_t k) d := by kernel_rfl
def g_octets_word_u32 (d : Unit × (((List Int) × Unit) × Unit)) : Option (Unit × ((Int × Unit) × Unit)) := lim fun k => f_octets_word_u32_m (f_octets_word_u32_t k) d
theorem ok_octets_word_u32 : FnOk Tryz.prog ET0 218 pi_octets_word_u32 po_octets_word_u32 g_octets_word_u32 :=
  fn_of_body (E := E_octets_word_u32) e0_ok (fn := Tryz.f218) Tryz.func218 (by kernel_rfl) (by kernel_rfl) [.tmp 2] (by kernel_rfl) (by kernel_rfl) (by decide) rfl c_octets_word_u32 L_octets_word_u32 R_octets_word_u32
    (by intro x hx d; simp only [L_octets_word_u32, List.mem_cons, List.not_mem_nil, or_false] at hx; subst hx; rfl)
    (by intro k x hx d out h; simp only [L_octets_word_u32, List.mem_cons, List.not_mem_nil, or_false] at hx; subst hx; exact (q_octets_word_u32_4 k d).trans h)
    (by intro x hx; cases hx)
    (by intro k x hx; cases hx)
    (by intro d out h; obtain ⟨k, hk⟩ := lim_some h; exact ⟨k, (q_octets_word_u32_m k d).trans hk⟩)

@[reducible] def pi_octets_Get_u32 : PSh := ⟨[], [.mk false [.v (.sl (.int .u8))], .mk false [vI]]⟩
@[reducible] def po_octets_Get_u32 : PSh := ⟨[], [.mk false [.v (.int .u32)], .mk false [vE]]⟩
def f_octets_Get_u32_m (T : Unit) (d : Unit × (((List Int) × Unit) × ((Int × Unit) × Unit))) : Option (Unit × ((Int × Unit) × (((Option Int) × Unit) × Unit))) :=
  (g_octets_Size_u32 ((), ())).bind fun x1 =>
  (g_octets_from ((), (d.2.1, (d.2.2.1, x1.2)))).bind fun x2 =>
  let x3 : Bool := (!x2.2.2.1.1.isNone)
  bif x3 then (
  some ((), (((0 : Int), ()), x2.2.2)))
  else (
  (g_octets_word_u32 ((), (x2.2.1, ()))).bind fun x4 =>
  some ((), (x4.2.1, (((none : Option Int), ()), ()))))
def g_octets_Get_u32 (d : Unit × (((List Int) × Unit) × ((Int × Unit) × Unit))) : Option (Unit × ((Int × Unit) × (((Option Int) × Unit) × Unit))) := f_octets_Get_u32_m () d
theorem ok_octets_Get_u32 : FnOk Tryz.prog ET0 181 pi_octets_Get_u32 po_octets_Get_u32 g_octets_Get_u32 :=
  fn0 (E := (((E0.add 179 (typedSem pi_octets_Size_u32 po_octets_Size_u32 g_octets_Size_u32)).add 217 (typedSem pi_octets_from po_octets_from g_octets_from)).add 218 (typedSem pi_octets_word_u32 po_octets_word_u32 g_octets_word_u32))) (envOk_add (envOk_add (envOk_add e0_ok (typed_ok ok_octets_Size_u32)) (typed_ok ok_octets_from)) (typed_ok ok_octets_word_u32)) (fn := Tryz.f181) Tryz.func181 (by kernel_rfl) (by kernel_rfl) [.tmp 4, .tmp 5] (by kernel_rfl) rfl rfl rfl [] fun d => by kernel_rfl

@[reducible] def pi_word_Parse : PSh := ⟨[], [.mk false [.v (.sl (.int .u8))]]⟩
@[reducible] def po_word_Parse : PSh := ⟨[], [.mk false [.v (.int .u32)], .mk false [vE]]⟩
def f_word_Parse_m (T : Unit) (d : Unit × (((List Int) × Unit) × Unit)) : Option (Unit × ((Int × Unit) × (((Option Int) × Unit) × Unit))) :=
  (g_octets_Get_u32 ((), (d.2.1, (((0 : Int), ()), ())))).bind fun x1 =>
  let x2 : Bool := (!x1.2.2.1.1.isNone)
  bif x2 then (
  let x3 : (Option Int) := (some (2 : Int))
  some ((), (((0 : Int), ()), ((x3, ()), ()))))
  else (
  let x4 : Int := (d.2.1.1.length : Int)
  (g_octets_Size_u32 ((), ())).bind fun x5 =>
  let x6 : Bool := (x4 != x5.2.1.1)
  bif x6 then (
  let x7 : (Option Int) := (some (2 : Int))
  some ((), (((0 : Int), ()), ((x7, ()), ()))))
  else (
  some ((), (x1.2.1, (((none : Option Int), ()), ())))))
def g_word_Parse (d : Unit × (((List Int) × Unit) × Unit)) : Option (Unit × ((Int × Unit) × (((Option Int) × Unit) × Unit))) := f_word_Parse_m () d
theorem ok_word_Parse : FnOk Tryz.prog ET0 110 pi_word_Parse po_word_Parse g_word_Parse :=
  fn0 (E := ((E0.add 179 (typedSem pi_octets_Size_u32 po_octets_Size_u32 g_octets_Size_u32)).add 181 (typedSem pi_octets_Get_u32 po_octets_Get_u32 g_octets_Get_u32))) (envOk_add (envOk_add e0_ok (typed_ok ok_octets_Size_u32)) (typed_ok ok_octets_Get_u32)) (fn := Tryz.f110) Tryz.func110 (by kernel_rfl) (by kernel_rfl) [.tmp 2, .tmp 3] (by kernel_rfl) rfl rfl rfl [] fun d => by kernel_rfl

@[reducible] def pi_stamp_ToPosix : PSh := ⟨[], [.mk false [vI]]⟩
@[reducible] def po_stamp_ToPosix : PSh := ⟨[], [.mk false [vI], .mk false [vE]]⟩
def f_stamp_ToPosix_m (T : Unit) (d : Unit × ((Int × Unit) × Unit)) : Option (Unit × ((Int × Unit) × (((Option Int) × Unit) × Unit))) :=
  (g_num_Sub ((), (d.2.1, (((2208988800 : Int), ()), ())))).bind fun x1 =>
  some ((), x1.2)
def g_stamp_ToPosix (d : Unit × ((Int × Unit) × Unit)) : Option (Unit × ((Int × Unit) × (((Option Int) × Unit) × Unit))) := f_stamp_ToPosix_m () d
theorem ok_stamp_ToPosix : FnOk Tryz.prog ET0 111 pi_stamp_ToPosix po_stamp_ToPosix g_stamp_ToPosix :=
  fn0 (E := (E0.add 99 (typedSem pi_num_Sub po_num_Sub g_num_Sub))) (envOk_add e0_ok (typed_ok ok_num_Sub)) (fn := Tryz.f111) Tryz.func111 (by kernel_rfl) (by kernel_rfl) [.tmp 2, .tmp 3] (by kernel_rfl) rfl rfl rfl [] fun d => by kernel_rfl

@[reducible] def pi_word_Near : PSh := ⟨[], [.mk false [.v (.sl (.int .u8))], .mk false [vI]]⟩
@[reducible] def po_word_Near : PSh := ⟨[], [.mk false [vI], .mk false [vE]]⟩
def f_word_Near_m (T : Unit) (d : Unit × (((List Int) × Unit) × ((Int × Unit) × Unit))) : Option (Unit × ((Int × Unit) × (((Option Int) × Unit) × Unit))) :=
  (g_word_Parse ((), (d.2.1, ()))).bind fun x1 =>
  let x2 : Bool := (!x1.2.2.1.1.isNone)
  bif x2 then (
  some ((), (((0 : Int), ()), x1.2.2)))
  else (
  (g_stamp_FromPosix ((), d.2.2)).bind fun x3 =>
  let x4 : Bool := (!x3.2.2.1.1.isNone)
  bif x4 then (
  some ((), (((0 : Int), ()), x3.2.2)))
  else (
  (g_era_Unfold_u32 ((), (x1.2.1, (x3.2.1, ())))).bind fun x5 =>
  let x6 : Bool := (!x5.2.2.1.1.isNone)
  bif x6 then (
  some ((), (((0 : Int), ()), x5.2.2)))
  else (
  (g_stamp_ToPosix ((), (x5.2.1, ()))).bind fun x7 =>
  some ((), x7.2))))
def g_word_Near (d : Unit × (((List Int) × Unit) × ((Int × Unit) × Unit))) : Option (Unit × ((Int × Unit) × (((Option Int) × Unit) × Unit))) := f_word_Near_m () d
theorem ok_word_Near : FnOk Tryz.prog ET0 42 pi_word_Near po_word_Near g_word_Near :=
  fn0 (E := ((((E0.add 38 (typedSem pi_stamp_FromPosix po_stamp_FromPosix g_stamp_FromPosix)).add 107 (typedSem pi_era_Unfold_u32 po_era_Unfold_u32 g_era_Unfold_u32)).add 110 (typedSem pi_word_Parse po_word_Parse g_word_Parse)).add 111 (typedSem pi_stamp_ToPosix po_stamp_ToPosix g_stamp_ToPosix))) (envOk_add (envOk_add (envOk_add (envOk_add e0_ok (typed_ok ok_stamp_FromPosix)) (typed_ok ok_era_Unfold_u32)) (typed_ok ok_word_Parse)) (typed_ok ok_stamp_ToPosix)) (fn := Tryz.f42) Tryz.func42 (by kernel_rfl) (by kernel_rfl) [.tmp 4, .tmp 5] (by kernel_rfl) rfl rfl rfl [] fun d => by kernel_rfl

@[reducible] def pi_top_WholeInstants : PSh := ⟨[], [.mk true [.v (.sl (.pair (.int .i64) (.int .i64))), vI, vI], .mk true [vI, vI, vI, vI, vI, vI, vI, vI], .mk true [.v (.int .i32), .v (.int .i32)]]⟩
@[reducible] def po_top_WholeInstants : PSh := ⟨[], [.mk false [vB]]⟩
def f_top_WholeInstants_m (T : Unit) (d : Unit × (((List (Int × Int)) × (Int × (Int × Unit))) × ((Int × (Int × (Int × (Int × (Int × (Int × (Int × (Int × Unit)))))))) × ((Int × (Int × Unit)) × Unit)))) : Option (Unit × ((Bool × Unit) × Unit)) :=
  (g_top_labelsStand ((), ())).bind fun x1 =>
  let x2 : Bool := (!x1.2.1.1)
  bif x2 then (
  some ((), ((false, ()), ())))
  else (
  let x3 : Int := (iconv .i8 d.2.2.2.1.2.1)
  (g_law10_Long ((), (d.2.1, ()))).bind fun x4 =>
  bif x4.2.1.1 then (
  some ((), ((true, ()), ())))
  else (
  let x5 : Bool := (d.2.2.2.1.1 == (-2147483648 : Int))
  bif x5 then (
  some ((), ((true, ()), ())))
  else (
  (g_leap_New ((), ((d.2.1.1, ()), ((d.2.1.2.1, ()), (d.2.1.2.2, ()))))).bind fun x6 =>
  let x7 : Bool := (!x6.2.2.1.1.isNone)
  bif x7 then (
  some ((), ((x6.2.1.1.isNone, ()), ())))
  else (
  (g_scale_Tai ((), (x6.2.1, (d.2.2.1, ())))).bind fun x8 =>
  let x9 : Bool := (!x8.2.2.1.1.isNone)
  bif x9 then (
  let x10 : Bool := (x8.2.1.1 == (0 : Int))
  some ((), ((x10, ()), ())))
  else (
  (g_scale_Label ((), (x6.2.1, (x8.2.1, ((d.2.2.1.2.2.2.2.2.2.1, ()), (d.2.2.1.2.2.2.2.2.2.2, ())))))).bind fun x11 =>
  (g_gps_Of ((), (x8.2.1, ()))).bind fun x12 =>
  (g_gps_Short ((), (x12.2.1, ()))).bind fun x13 =>
  let x14 : Int := (iconv .i64 x3)
  let x15 : Int := (imul .i64 (604800 : Int) x14)
  let x16 : Int := (iadd .i64 x8.2.1.1 x15)
  (g_gps_Near ((), (x13.2.1, (x12.2.2.1, ((x16, ()), ()))))).bind fun x17 =>
  let x18 : Bool := (!x11.2.2.1.1.isNone)
  bif x18 then (
  some ((), ((false, ()), ())))
  else (
  let x19 : Bool := (!x12.2.2.2.1.1.isNone)
  bif x19 then (
  some ((), ((false, ()), ())))
  else (
  let x20 : Bool := (!x17.2.2.1.1.isNone)
  bif x20 then (
  some ((), ((false, ()), ())))
  else (
  let x21 : Bool := (!((x11.2.1.1 == d.2.2.1.1) && ((x11.2.1.2.1 == d.2.2.1.2.1) && ((x11.2.1.2.2.1 == d.2.2.1.2.2.1) && ((x11.2.1.2.2.2.1 == d.2.2.1.2.2.2.1) && ((x11.2.1.2.2.2.2.1 == d.2.2.1.2.2.2.2.1) && ((x11.2.1.2.2.2.2.2.1 == d.2.2.1.2.2.2.2.2.1) && ((x11.2.1.2.2.2.2.2.2.1 == d.2.2.1.2.2.2.2.2.2.1) && ((x11.2.1.2.2.2.2.2.2.2.1 == d.2.2.1.2.2.2.2.2.2.2.1) && true)))))))))
  bif x21 then (
  some ((), ((false, ()), ())))
  else (
  let x22 : Bool := (x17.2.1.1 != x8.2.1.1)
  bif x22 then (
  some ((), ((false, ()), ())))
  else (
  (g_scale_PosixOf ((), (x6.2.1, (x8.2.1, ())))).bind fun x23 =>
  (g_scale_Posix ((), (d.2.2.1, ()))).bind fun x24 =>
  let x25 : Bool := (!x23.2.2.2.1.1.isNone)
  bif x25 then (
  some ((), ((false, ()), ())))
  else (
  let x26 : Bool := (!x24.2.2.1.1.isNone)
  bif x26 then (
  some ((), ((false, ()), ())))
  else (
  let x27 : Bool := (x23.2.1.1 != x24.2.1.1)
  bif x27 then (
  some ((), ((false, ()), ())))
  else (
  let x28 : Bool := (d.2.2.1.2.2.2.2.2.1 == (60 : Int))
  let x29 : Bool := (!(x23.2.2.1.1 == x28))
  bif x29 then (
  some ((), ((false, ()), ())))
  else (
  bif x23.2.2.1.1 then (
  some ((), ((true, ()), ())))
  else (
  (g_scale_TaiOf ((), (x6.2.1, (x23.2.1, ())))).bind fun x30 =>
  let x31 : Bool := (!x30.2.2.1.1.isNone)
  bif x31 then (
  some ((), ((false, ()), ())))
  else (
  let x32 : Bool := (x30.2.1.1 != x8.2.1.1)
  bif x32 then (
  some ((), ((false, ()), ())))
  else (
  (g_stamp_FromPosix ((), (x23.2.1, ()))).bind fun x33 =>
  (g_stamp_Of ((), (x33.2.1, ((d.2.2.1.2.2.2.2.2.2.1, ()), ())))).bind fun x34 =>
  let x35 : Int := (iconv .i64 d.2.2.2.1.1)
  let x36 : Int := (iadd .i64 x33.2.1.1 x35)
  (g_stamp_Time ((), (x34.2.1, ((x36, ()), ())))).bind fun x37 =>
  let x38 : Bool := (!x33.2.2.1.1.isNone)
  bif x38 then (
  some ((), ((false, ()), ())))
  else (
  let x39 : Bool := (!x34.2.2.1.1.isNone)
  bif x39 then (
  some ((), ((false, ()), ())))
  else (
  let x40 : Bool := (!x37.2.2.2.1.1.isNone)
  bif x40 then (
  some ((), ((false, ()), ())))
  else (
  let x41 : Bool := (x37.2.1.1 != x33.2.1.1)
  bif x41 then (
  some ((), ((false, ()), ())))
  else (
  let x42 : Bool := (x37.2.2.1.1 != d.2.2.1.2.2.2.2.2.2.1)
  bif x42 then (
  some ((), ((false, ()), ())))
  else (
  (g_word_Of ((), (d.2.2.1, ()))).bind fun x43 =>
  let x44 : Int := (iconv .i64 d.2.2.2.1.1)
  let x45 : Int := (iadd .i64 x23.2.1.1 x44)
  (g_word_Near ((), (x43.1, ((x45, ()), ())))).bind fun x46 =>
  bif x43.2.2.1.1.isNone then (
  bif x46.2.2.1.1.isNone then (
  let x47 : Bool := (x46.2.1.1 == x23.2.1.1)
  some ((), ((x47, ()), ())))
  else (
  some ((), ((false, ()), ()))))
  else (
  some ((), ((false, ()), ())))))))))))))))))))))))))
def g_top_WholeInstants (d : Unit × (((List (Int × Int)) × (Int × (Int × Unit))) × ((Int × (Int × (Int × (Int × (Int × (Int × (Int × (Int × Unit)))))))) × ((Int × (Int × Unit)) × Unit)))) : Option (Unit × ((Bool × Unit) × Unit)) := f_top_WholeInstants_m () d
theorem ok_top_WholeInstants : FnOk Tryz.prog ET0 5 pi_top_WholeInstants po_top_WholeInstants g_top_WholeInstants :=
  fn0 (E := ((((((((((((((((E0.add 7 (typedSem pi_law10_Long po_law10_Long g_law10_Long)).add 17 (typedSem pi_top_labelsStand po_top_labelsStand g_top_labelsStand)).add 18 (typedSem pi_leap_New po_leap_New g_leap_New)).add 30 (typedSem pi_scale_Tai po_scale_Tai g_scale_Tai)).add 31 (typedSem pi_scale_Label po_scale_Label g_scale_Label)).add 32 (typedSem pi_gps_Of po_gps_Of g_gps_Of)).add 33 (typedSem pi_gps_Near po_gps_Near g_gps_Near)).add 34 (typedSem pi_gps_Short po_gps_Short g_gps_Short)).add 35 (typedSem pi_scale_PosixOf po_scale_PosixOf g_scale_PosixOf)).add 36 (typedSem pi_scale_Posix po_scale_Posix g_scale_Posix)).add 37 (typedSem pi_scale_TaiOf po_scale_TaiOf g_scale_TaiOf)).add 38 (typedSem pi_stamp_FromPosix po_stamp_FromPosix g_stamp_FromPosix)).add 39 (typedSem pi_stamp_Of po_stamp_Of g_stamp_Of)).add 40 (typedSem pi_stamp_Time po_stamp_Time g_stamp_Time)).add 41 (typedSem pi_word_Of po_word_Of g_word_Of)).add 42 (typedSem pi_word_Near po_word_Near g_word_Near))) (envOk_add (envOk_add (envOk_add (envOk_add (envOk_add (envOk_add (envOk_add (envOk_add (envOk_add (envOk_add (envOk_add (envOk_add (envOk_add (envOk_add (envOk_add (envOk_add e0_ok (typed_ok ok_law10_Long)) (typed_ok ok_top_labelsStand)) (typed_ok ok_leap_New)) (typed_ok ok_scale_Tai)) (typed_ok ok_scale_Label)) (typed_ok ok_gps_Of)) (typed_ok ok_gps_Near)) (typed_ok ok_gps_Short)) (typed_ok ok_scale_PosixOf)) (typed_ok ok_scale_Posix)) (typed_ok ok_scale_TaiOf)) (typed_ok ok_stamp_FromPosix)) (typed_ok ok_stamp_Of)) (typed_ok ok_stamp_Time)) (typed_ok ok_word_Of)) (typed_ok ok_word_Near)) (fn := Tryz.f5) Tryz.func5 (by kernel_rfl) (by kernel_rfl) [.tmp 6] (by kernel_rfl) rfl rfl rfl [] fun d => by kernel_rfl
end
end Go.Proofs.YtddnfappkfiidaaGreat.Ev
