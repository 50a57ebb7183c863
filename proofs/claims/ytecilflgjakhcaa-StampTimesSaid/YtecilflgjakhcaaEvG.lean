/- Printed by wip/tools/evgen.py. -/
import Derived.Test.YtecilflgjakhcaaEv19
import Derived.Test.YtecilflgjakhcaaProg
import Derived.KernelRfl
set_option maxRecDepth 100000
set_option maxHeartbeats 2000000
set_option linter.unusedVariables false
namespace Go.Proofs.Ytecilflgjakhcaa.Ev
open Go
noncomputable section
def rows0 : List (TypeId × Row) := [
  (2, ⟨.int .i64, 1, 8, (.int .i64), [AV.val (.int .i64) (0 : Int)], none⟩),
  (3, ⟨.int .i64, 1, 8, (.int .i64), [AV.val (.int .i64) (0 : Int)], none⟩),
  (4, ⟨.bool, 1, 1, .bool, [AV.val .bool false], none⟩),
  (5, ⟨.int .u8, 1, 1, (.int .u8), [AV.val (.int .u8) (0 : Int)], none⟩),
  (9, ⟨.str, 1, 16, .str, [AV.val .str ByteArray.empty], none⟩),
  (22, ⟨.int .u32, 1, 4, (.int .u32), [AV.val (.int .u32) (0 : Int)], none⟩),
  (26, ⟨.int .u64, 1, 8, (.int .u64), [AV.val (.int .u64) (0 : Int)], none⟩),
  (29, ⟨.int .u16, 1, 2, (.int .u16), [AV.val (.int .u16) (0 : Int)], none⟩),
  (30, ⟨.int .u64, 1, 8, (.int .u64), [AV.val (.int .u64) (0 : Int)], none⟩),
  (32, ⟨.struct [(0, 1, false), (1, 1, false)], 2, 4, (.pair (.int .u16) (.int .u16)), [AV.val (.int .u16) (0 : Int), AV.val (.int .u16) (0 : Int)], some [.int .u16, .int .u16]⟩),
  (34, ⟨.iface, 1, 16, .err, [AV.val .err (none : Option Int)], none⟩),
  (40, ⟨.int .i64, 1, 8, (.int .i64), [AV.val (.int .i64) (0 : Int)], none⟩),
  (42, ⟨.slice 5, 1, 24, (.sl (.int .u8)), [AV.nilS], none⟩),
  (51, ⟨.struct [(0, 1, false), (1, 1, false)], 2, 8, (.pair (.int .u32) (.int .u32)), [AV.val (.int .u32) (0 : Int), AV.val (.int .u32) (0 : Int)], some [.int .u32, .int .u32]⟩),
  (63, ⟨.int .i8, 1, 1, (.int .i8), [AV.val (.int .i8) (0 : Int)], none⟩),
  (64, ⟨.arr 4 5, 4, 4, (.pair (.int .u8) (.pair (.int .u8) (.pair (.int .u8) (.int .u8)))), [AV.val (.int .u8) (0 : Int), AV.val (.int .u8) (0 : Int), AV.val (.int .u8) (0 : Int), AV.val (.int .u8) (0 : Int)], none⟩),
  (66, ⟨.struct [(0, 1, false), (1, 1, false), (2, 1, false), (3, 1, false), (4, 1, false), (5, 1, false), (6, 2, true), (8, 2, true), (10, 4, true), (14, 2, true), (16, 2, true), (18, 2, true), (20, 2, true)], 22, 72, (.pair (.int .i64) (.pair (.int .i64) (.pair (.int .i64) (.pair (.int .u8) (.pair (.int .i8) (.pair (.int .i8) (.pair (.pair (.int .u16) (.int .u16)) (.pair (.pair (.int .u16) (.int .u16)) (.pair (.pair (.int .u8) (.pair (.int .u8) (.pair (.int .u8) (.int .u8)))) (.pair (.pair (.int .u32) (.int .u32)) (.pair (.pair (.int .u32) (.int .u32)) (.pair (.pair (.int .u32) (.int .u32)) (.pair (.int .u32) (.int .u32)))))))))))))), [AV.val (.int .i64) (0 : Int), AV.val (.int .i64) (0 : Int), AV.val (.int .i64) (0 : Int), AV.val (.int .u8) (0 : Int), AV.val (.int .i8) (0 : Int), AV.val (.int .i8) (0 : Int), AV.val (.int .u16) (0 : Int), AV.val (.int .u16) (0 : Int), AV.val (.int .u16) (0 : Int), AV.val (.int .u16) (0 : Int), AV.val (.int .u8) (0 : Int), AV.val (.int .u8) (0 : Int), AV.val (.int .u8) (0 : Int), AV.val (.int .u8) (0 : Int), AV.val (.int .u32) (0 : Int), AV.val (.int .u32) (0 : Int), AV.val (.int .u32) (0 : Int), AV.val (.int .u32) (0 : Int), AV.val (.int .u32) (0 : Int), AV.val (.int .u32) (0 : Int), AV.val (.int .u32) (0 : Int), AV.val (.int .u32) (0 : Int)], none⟩),
  (70, ⟨.struct [(0, 1, false), (1, 1, false), (2, 1, false), (3, 1, false), (4, 1, false), (5, 1, false), (6, 1, false), (7, 1, false), (8, 4, true), (12, 1, false), (13, 1, false), (14, 1, false), (15, 1, false)], 16, 104, (.pair (.int .i64) (.pair (.int .i64) (.pair (.int .i64) (.pair (.int .i64) (.pair (.int .i64) (.pair (.int .i64) (.pair (.int .u64) (.pair (.int .u64) (.pair (.pair (.int .u8) (.pair (.int .u8) (.pair (.int .u8) (.int .u8)))) (.pair (.int .u64) (.pair (.int .u64) (.pair (.int .u64) (.int .u64))))))))))))), [AV.val (.int .i64) (0 : Int), AV.val (.int .i64) (0 : Int), AV.val (.int .i64) (0 : Int), AV.val (.int .i64) (0 : Int), AV.val (.int .i64) (0 : Int), AV.val (.int .i64) (0 : Int), AV.val (.int .u64) (0 : Int), AV.val (.int .u64) (0 : Int), AV.val (.int .u8) (0 : Int), AV.val (.int .u8) (0 : Int), AV.val (.int .u8) (0 : Int), AV.val (.int .u8) (0 : Int), AV.val (.int .u64) (0 : Int), AV.val (.int .u64) (0 : Int), AV.val (.int .u64) (0 : Int), AV.val (.int .u64) (0 : Int)], none⟩),
  (75, ⟨.slice 22, 1, 24, (.sl (.int .u32)), [AV.nilS], none⟩),
  (127, ⟨.slice 26, 1, 24, (.sl (.int .u64)), [AV.nilS], none⟩),
  (129, ⟨.struct [(0, 1, false), (1, 1, false)], 2, 32, (.pair .bool (.sl (.int .u64))), [AV.val .bool false, AV.nilS], none⟩),
  (138, ⟨.ptr, 1, 8, (.nptr (.pair (.int .u32) (.int .u32))), [AV.nilP], none⟩),
  (139, ⟨.arr 4 138, 4, 32, (.pair (.nptr (.pair (.int .u32) (.int .u32))) (.pair (.nptr (.pair (.int .u32) (.int .u32))) (.pair (.nptr (.pair (.int .u32) (.int .u32))) (.nptr (.pair (.int .u32) (.int .u32)))))), [AV.nilP, AV.nilP, AV.nilP, AV.nilP], none⟩),
  (143, ⟨.slice 29, 1, 24, (.sl (.int .u16)), [AV.nilS], none⟩),
  (187, ⟨.slice 3, 1, 24, (.sl (.int .i64)), [AV.nilS], none⟩)]
def ET0 : TypeId := 40
def E0 : Env := ⟨rows0, [], ET0, 0, [], []⟩
theorem e0_ok : EnvOk Try.prog E0 := envOk_rows (by kernel_rfl) (by kernel_rfl) 0

/- horologe/stamp.Nano -/
@[reducible] def pi_stamp_Nano : PSh := ⟨[], [.mk false [.v (.int .u32)]]⟩
@[reducible] def po_stamp_Nano : PSh := ⟨[], [.mk false [.v (.int .i64)]]⟩
def f_stamp_Nano_m (T : Unit) (d : Unit × ((Int × Unit) × Unit)) : Option (Unit × ((Int × Unit) × Unit)) :=
  let x1 : Int := (iconv .u64 d.2.1.1)
  let x2 : Int := (imul .u64 x1 (1000000000 : Int))
  let x3 : Int := (ishr .u64 x2 (32 : Int))
  let x4 : Int := (iconv .i64 x3)
  some ((), ((x4, ()), ()))
def c_stamp_Nano : List Nat := []
def L_stamp_Nano (_ : Nat) : Pts po_stamp_Nano.den := []
def E_stamp_Nano : Env := E0
theorem q_stamp_Nano_m (k : Nat) (d : Unit × ((Int × Unit) × Unit)) : evCode E_stamp_Nano (tab (L_stamp_Nano k)) c_stamp_Nano (bodyOf Try.f16) 0 (finK E_stamp_Nano po_stamp_Nano [.tmp 2]) (startSt pi_stamp_Nano 8 d) = f_stamp_Nano_m () d := by kernel_rfl
def g_stamp_Nano (d : Unit × ((Int × Unit) × Unit)) : Option (Unit × ((Int × Unit) × Unit)) := f_stamp_Nano_m () d
theorem ok_stamp_Nano : FnOk Try.prog ET0 16 pi_stamp_Nano po_stamp_Nano g_stamp_Nano :=
  fn_of_body (E := E_stamp_Nano) e0_ok (fn := Try.f16) Try.func16 (by kernel_rfl) (by kernel_rfl) [.tmp 2] (by kernel_rfl) (by kernel_rfl) (by decide) rfl c_stamp_Nano L_stamp_Nano
    (by intro x hx; cases hx) (by intro k x hx; cases hx) (fun d out h => ⟨0, (q_stamp_Nano_m 0 d).trans h⟩)

/- horologe/stamp.right -/
@[reducible] def pi_stamp_right : PSh := ⟨[], [.mk false [.v (.int .i64)]]⟩
@[reducible] def po_stamp_right : PSh := ⟨[], [.mk false [.v .bool]]⟩
def f_stamp_right_m (T : Unit) (d : Unit × ((Int × Unit) × Unit)) : Option (Unit × ((Bool × Unit) × Unit)) :=
  let x1 : Bool := (decide (d.2.1.1 ≥ (0 : Int)))
  bif x1 then (
  let x2 : Bool := (decide (d.2.1.1 < (1000000000 : Int)))
  some ((), ((x2, ()), ())))
  else (
  some ((), ((false, ()), ())))
def c_stamp_right : List Nat := []
def L_stamp_right (_ : Nat) : Pts po_stamp_right.den := []
def E_stamp_right : Env := E0
theorem q_stamp_right_m (k : Nat) (d : Unit × ((Int × Unit) × Unit)) : evCode E_stamp_right (tab (L_stamp_right k)) c_stamp_right (bodyOf Try.f73) 0 (finK E_stamp_right po_stamp_right [.tmp 2]) (startSt pi_stamp_right 9 d) = f_stamp_right_m () d := by kernel_rfl
def g_stamp_right (d : Unit × ((Int × Unit) × Unit)) : Option (Unit × ((Bool × Unit) × Unit)) := f_stamp_right_m () d
theorem ok_stamp_right : FnOk Try.prog ET0 73 pi_stamp_right po_stamp_right g_stamp_right :=
  fn_of_body (E := E_stamp_right) e0_ok (fn := Try.f73) Try.func73 (by kernel_rfl) (by kernel_rfl) [.tmp 2] (by kernel_rfl) (by kernel_rfl) (by decide) rfl c_stamp_right L_stamp_right
    (by intro x hx; cases hx) (by intro k x hx; cases hx) (fun d out h => ⟨0, (q_stamp_right_m 0 d).trans h⟩)

/- horologe/stamp.Fraction -/
@[reducible] def pi_stamp_Fraction : PSh := ⟨[], [.mk false [.v (.int .i64)]]⟩
@[reducible] def po_stamp_Fraction : PSh := ⟨[], [.mk false [.v (.int .u32)], .mk false [.v .err]]⟩
def f_stamp_Fraction_m (T : Unit) (d : Unit × ((Int × Unit) × Unit)) : Option (Unit × ((Int × Unit) × (((Option Int) × Unit) × Unit))) :=
  (g_stamp_right ((), ((d.2.1.1, ()), ()))).bind fun x1 =>
  let x2 : Bool := (!x1.2.1.1)
  bif x2 then (
  let x3 : (Option Int) := (some (1 : Int))
  some ((), (((0 : Int), ()), ((x3, ()), ()))))
  else (
  let x4 : Int := (iconv .u64 d.2.1.1)
  let x5 : Int := (ishl .u64 x4 (32 : Int))
  let x6 : Int := (iadd .u64 x5 (1000000000 : Int))
  let x7 : Int := (isub .u64 x6 (1 : Int))
  let x8 : Int := (iquo .u64 x7 (1000000000 : Int))
  let x9 : Int := (iconv .u32 x8)
  some ((), ((x9, ()), (((none : Option Int), ()), ()))))
def c_stamp_Fraction : List Nat := []
def L_stamp_Fraction (_ : Nat) : Pts po_stamp_Fraction.den := []
def E_stamp_Fraction : Env := (E0.add 73 (typedSem pi_stamp_right po_stamp_right g_stamp_right))
theorem q_stamp_Fraction_m (k : Nat) (d : Unit × ((Int × Unit) × Unit)) : evCode E_stamp_Fraction (tab (L_stamp_Fraction k)) c_stamp_Fraction (bodyOf Try.f19) 0 (finK E_stamp_Fraction po_stamp_Fraction [.tmp 2, .tmp 3]) (startSt pi_stamp_Fraction 15 d) = f_stamp_Fraction_m () d := by kernel_rfl
def g_stamp_Fraction (d : Unit × ((Int × Unit) × Unit)) : Option (Unit × ((Int × Unit) × (((Option Int) × Unit) × Unit))) := f_stamp_Fraction_m () d
theorem ok_stamp_Fraction : FnOk Try.prog ET0 19 pi_stamp_Fraction po_stamp_Fraction g_stamp_Fraction :=
  fn_of_body (E := E_stamp_Fraction) (envOk_add e0_ok (typed_ok ok_stamp_right)) (fn := Try.f19) Try.func19 (by kernel_rfl) (by kernel_rfl) [.tmp 2, .tmp 3] (by kernel_rfl) (by kernel_rfl) (by decide) rfl c_stamp_Fraction L_stamp_Fraction
    (by intro x hx; cases hx) (by intro k x hx; cases hx) (fun d out h => ⟨0, (q_stamp_Fraction_m 0 d).trans h⟩)

/- horologe/horologelaw15.alive -/
@[reducible] def pi_law15_alive : PSh := ⟨[], []⟩
@[reducible] def po_law15_alive : PSh := ⟨[], [.mk false [.v .bool]]⟩
def f_law15_alive_m (T : Unit) (d : Unit × Unit) : Option (Unit × ((Bool × Unit) × Unit)) :=
  (g_stamp_Fraction ((), (((500000000 : Int), ()), ()))).bind fun x1 =>
  bif x1.2.2.1.1.isNone then (
  let x2 : Bool := (x1.2.1.1 == (2147483648 : Int))
  bif x2 then (
  (g_stamp_Nano ((), ((x1.2.1.1, ()), ()))).bind fun x3 =>
  let x4 : Bool := (x3.2.1.1 == (500000000 : Int))
  some ((), ((x4, ()), ())))
  else (
  some ((), ((false, ()), ()))))
  else (
  some ((), ((false, ()), ())))
def c_law15_alive : List Nat := []
def L_law15_alive (_ : Nat) : Pts po_law15_alive.den := []
def E_law15_alive : Env := ((E0.add 16 (typedSem pi_stamp_Nano po_stamp_Nano g_stamp_Nano)).add 19 (typedSem pi_stamp_Fraction po_stamp_Fraction g_stamp_Fraction))
theorem q_law15_alive_m (k : Nat) (d : Unit × Unit) : evCode E_law15_alive (tab (L_law15_alive k)) c_law15_alive (bodyOf Try.f15) 0 (finK E_law15_alive po_law15_alive [.tmp 0]) (startSt pi_law15_alive 18 d) = f_law15_alive_m () d := by kernel_rfl
def g_law15_alive (d : Unit × Unit) : Option (Unit × ((Bool × Unit) × Unit)) := f_law15_alive_m () d
theorem ok_law15_alive : FnOk Try.prog ET0 15 pi_law15_alive po_law15_alive g_law15_alive :=
  fn_of_body (E := E_law15_alive) (envOk_add (envOk_add e0_ok (typed_ok ok_stamp_Nano)) (typed_ok ok_stamp_Fraction)) (fn := Try.f15) Try.func15 (by kernel_rfl) (by kernel_rfl) [.tmp 0] (by kernel_rfl) (by kernel_rfl) (by decide) rfl c_law15_alive L_law15_alive
    (by intro x hx; cases hx) (by intro k x hx; cases hx) (fun d out h => ⟨0, (q_law15_alive_m 0 d).trans h⟩)

/- horologe/horologeref15.Whole -/
@[reducible] def pi_ref15_Whole : PSh := ⟨[], [.mk false [.v (.int .u64)], .mk false [.v (.int .u64)], .mk false [.v (.int .u64)]]⟩
@[reducible] def po_ref15_Whole : PSh := ⟨[], [.mk false [.v .bool]]⟩
def f_ref15_Whole_m (T : Unit) (d : Unit × ((Int × Unit) × ((Int × Unit) × ((Int × Unit) × Unit)))) : Option (Unit × ((Bool × Unit) × Unit)) :=
  let x1 : Int := (imul .u64 d.2.1.1 d.2.2.2.1.1)
  let x2 : Int := (imul .u64 d.2.2.1.1 (1000000000 : Int))
  let x3 : Bool := (decide (x1 ≤ x2))
  bif x3 then (
  let x4 : Int := (iadd .u64 d.2.1.1 (1 : Int))
  let x5 : Int := (imul .u64 x4 d.2.2.2.1.1)
  let x6 : Int := (imul .u64 d.2.2.1.1 (1000000000 : Int))
  let x7 : Bool := (decide (x5 > x6))
  some ((), ((x7, ()), ())))
  else (
  some ((), ((false, ()), ())))
def c_ref15_Whole : List Nat := []
def L_ref15_Whole (_ : Nat) : Pts po_ref15_Whole.den := []
def E_ref15_Whole : Env := E0
theorem q_ref15_Whole_m (k : Nat) (d : Unit × ((Int × Unit) × ((Int × Unit) × ((Int × Unit) × Unit)))) : evCode E_ref15_Whole (tab (L_ref15_Whole k)) c_ref15_Whole (bodyOf Try.f17) 0 (finK E_ref15_Whole po_ref15_Whole [.tmp 6]) (startSt pi_ref15_Whole 22 d) = f_ref15_Whole_m () d := by kernel_rfl
def g_ref15_Whole (d : Unit × ((Int × Unit) × ((Int × Unit) × ((Int × Unit) × Unit)))) : Option (Unit × ((Bool × Unit) × Unit)) := f_ref15_Whole_m () d
theorem ok_ref15_Whole : FnOk Try.prog ET0 17 pi_ref15_Whole po_ref15_Whole g_ref15_Whole :=
  fn_of_body (E := E_ref15_Whole) e0_ok (fn := Try.f17) Try.func17 (by kernel_rfl) (by kernel_rfl) [.tmp 6] (by kernel_rfl) (by kernel_rfl) (by decide) rfl c_ref15_Whole L_ref15_Whole
    (by intro x hx; cases hx) (by intro k x hx; cases hx) (fun d out h => ⟨0, (q_ref15_Whole_m 0 d).trans h⟩)

/- horologe/horologenum.Num -/
@[reducible] def pi_hnum_Num : PSh := ⟨[], [.mk false [.v .err]]⟩
@[reducible] def po_hnum_Num : PSh := ⟨[], [.mk false [.v (.int .i64)]]⟩
def f_hnum_Num_m (T : Unit) (d : Unit × (((Option Int) × Unit) × Unit)) : Option (Unit × ((Int × Unit) × Unit)) :=
  bif d.2.1.1.isNone then (
  some ((), (((0 : Int), ()), ())))
  else (
  bif d.2.1.1.isSome then (
  let x1 : Bool := ((d.2.1.1.getD 0) != (0 : Int))
  bif x1 then (
  some ((), (((d.2.1.1.getD 0), ()), ())))
  else (
  some ((), (((-1 : Int), ()), ()))))
  else (
  some ((), (((-1 : Int), ()), ()))))
def c_hnum_Num : List Nat := []
def L_hnum_Num (_ : Nat) : Pts po_hnum_Num.den := []
def E_hnum_Num : Env := E0
theorem q_hnum_Num_m (k : Nat) (d : Unit × (((Option Int) × Unit) × Unit)) : evCode E_hnum_Num (tab (L_hnum_Num k)) c_hnum_Num (bodyOf Try.f27) 0 (finK E_hnum_Num po_hnum_Num [.tmp 2]) (startSt pi_hnum_Num 18 d) = f_hnum_Num_m () d := by kernel_rfl
def g_hnum_Num (d : Unit × (((Option Int) × Unit) × Unit)) : Option (Unit × ((Int × Unit) × Unit)) := f_hnum_Num_m () d
theorem ok_hnum_Num : FnOk Try.prog ET0 27 pi_hnum_Num po_hnum_Num g_hnum_Num :=
  fn_of_body (E := E_hnum_Num) e0_ok (fn := Try.f27) Try.func27 (by kernel_rfl) (by kernel_rfl) [.tmp 2] (by kernel_rfl) (by kernel_rfl) (by decide) rfl c_hnum_Num L_hnum_Num
    (by intro x hx; cases hx) (by intro k x hx; cases hx) (fun d out h => ⟨0, (q_hnum_Num_m 0 d).trans h⟩)

/- horologe/horologenum.Is -/
@[reducible] def pi_hnum_Is : PSh := ⟨[], [.mk false [.v .err], .mk false [.v (.int .i64)]]⟩
@[reducible] def po_hnum_Is : PSh := ⟨[], [.mk false [.v .bool]]⟩
def f_hnum_Is_m (T : Unit) (d : Unit × (((Option Int) × Unit) × ((Int × Unit) × Unit))) : Option (Unit × ((Bool × Unit) × Unit)) :=
  (g_hnum_Num ((), ((d.2.1.1, ()), ()))).bind fun x1 =>
  let x2 : Bool := (x1.2.1.1 == d.2.2.1.1)
  some ((), ((x2, ()), ()))
def c_hnum_Is : List Nat := []
def L_hnum_Is (_ : Nat) : Pts po_hnum_Is.den := []
def E_hnum_Is : Env := (E0.add 27 (typedSem pi_hnum_Num po_hnum_Num g_hnum_Num))
theorem q_hnum_Is_m (k : Nat) (d : Unit × (((Option Int) × Unit) × ((Int × Unit) × Unit))) : evCode E_hnum_Is (tab (L_hnum_Is k)) c_hnum_Is (bodyOf Try.f21) 0 (finK E_hnum_Is po_hnum_Is [.tmp 4]) (startSt pi_hnum_Is 9 d) = f_hnum_Is_m () d := by kernel_rfl
def g_hnum_Is (d : Unit × (((Option Int) × Unit) × ((Int × Unit) × Unit))) : Option (Unit × ((Bool × Unit) × Unit)) := f_hnum_Is_m () d
theorem ok_hnum_Is : FnOk Try.prog ET0 21 pi_hnum_Is po_hnum_Is g_hnum_Is :=
  fn_of_body (E := E_hnum_Is) (envOk_add e0_ok (typed_ok ok_hnum_Num)) (fn := Try.f21) Try.func21 (by kernel_rfl) (by kernel_rfl) [.tmp 4] (by kernel_rfl) (by kernel_rfl) (by decide) rfl c_hnum_Is L_hnum_Is
    (by intro x hx; cases hx) (by intro k x hx; cases hx) (fun d out h => ⟨0, (q_hnum_Is_m 0 d).trans h⟩)

/- horologe/horologeref15.Least -/
@[reducible] def pi_ref15_Least : PSh := ⟨[], [.mk false [.v (.int .u64)], .mk false [.v (.int .u64)], .mk false [.v (.int .u64)]]⟩
@[reducible] def po_ref15_Least : PSh := ⟨[], [.mk false [.v .bool]]⟩
def f_ref15_Least_m (T : Unit) (d : Unit × ((Int × Unit) × ((Int × Unit) × ((Int × Unit) × Unit)))) : Option (Unit × ((Bool × Unit) × Unit)) :=
  let x1 : Int := (imul .u64 d.2.1.1 (1000000000 : Int))
  let x2 : Int := (imul .u64 d.2.2.2.1.1 d.2.2.1.1)
  let x3 : Bool := (decide (x1 ≥ x2))
  bif x3 then (
  let x4 : Bool := (d.2.1.1 == (0 : Int))
  bif x4 then (
  some ((), ((true, ()), ())))
  else (
  let x5 : Int := (isub .u64 d.2.1.1 (1 : Int))
  let x6 : Int := (imul .u64 x5 (1000000000 : Int))
  let x7 : Int := (imul .u64 d.2.2.2.1.1 d.2.2.1.1)
  let x8 : Bool := (decide (x6 < x7))
  some ((), ((x8, ()), ()))))
  else (
  some ((), ((false, ()), ())))
def c_ref15_Least : List Nat := []
def L_ref15_Least (_ : Nat) : Pts po_ref15_Least.den := []
def E_ref15_Least : Env := E0
theorem q_ref15_Least_m (k : Nat) (d : Unit × ((Int × Unit) × ((Int × Unit) × ((Int × Unit) × Unit)))) : evCode E_ref15_Least (tab (L_ref15_Least k)) c_ref15_Least (bodyOf Try.f22) 0 (finK E_ref15_Least po_ref15_Least [.tmp 6]) (startSt pi_ref15_Least 26 d) = f_ref15_Least_m () d := by kernel_rfl
def g_ref15_Least (d : Unit × ((Int × Unit) × ((Int × Unit) × ((Int × Unit) × Unit)))) : Option (Unit × ((Bool × Unit) × Unit)) := f_ref15_Least_m () d
theorem ok_ref15_Least : FnOk Try.prog ET0 22 pi_ref15_Least po_ref15_Least g_ref15_Least :=
  fn_of_body (E := E_ref15_Least) e0_ok (fn := Try.f22) Try.func22 (by kernel_rfl) (by kernel_rfl) [.tmp 6] (by kernel_rfl) (by kernel_rfl) (by decide) rfl c_ref15_Least L_ref15_Least
    (by intro x hx; cases hx) (by intro k x hx; cases hx) (fun d out h => ⟨0, (q_ref15_Least_m 0 d).trans h⟩)

/- horologe/era.Fold[uint32] -/
@[reducible] def pi_era_Fold_u32 : PSh := ⟨[], [.mk false [.v (.int .i64)]]⟩
@[reducible] def po_era_Fold_u32 : PSh := ⟨[], [.mk false [.v (.int .u32)]]⟩
def f_era_Fold_u32_m (T : Unit) (d : Unit × ((Int × Unit) × Unit)) : Option (Unit × ((Int × Unit) × Unit)) :=
  let x1 : Int := (iconv .u32 d.2.1.1)
  some ((), ((x1, ()), ()))
def c_era_Fold_u32 : List Nat := []
def L_era_Fold_u32 (_ : Nat) : Pts po_era_Fold_u32.den := []
def E_era_Fold_u32 : Env := E0
theorem q_era_Fold_u32_m (k : Nat) (d : Unit × ((Int × Unit) × Unit)) : evCode E_era_Fold_u32 (tab (L_era_Fold_u32 k)) c_era_Fold_u32 (bodyOf Try.f77) 0 (finK E_era_Fold_u32 po_era_Fold_u32 [.tmp 2]) (startSt pi_era_Fold_u32 5 d) = f_era_Fold_u32_m () d := by kernel_rfl
def g_era_Fold_u32 (d : Unit × ((Int × Unit) × Unit)) : Option (Unit × ((Int × Unit) × Unit)) := f_era_Fold_u32_m () d
theorem ok_era_Fold_u32 : FnOk Try.prog ET0 77 pi_era_Fold_u32 po_era_Fold_u32 g_era_Fold_u32 :=
  fn_of_body (E := E_era_Fold_u32) e0_ok (fn := Try.f77) Try.func77 (by kernel_rfl) (by kernel_rfl) [.tmp 2] (by kernel_rfl) (by kernel_rfl) (by decide) rfl c_era_Fold_u32 L_era_Fold_u32
    (by intro x hx; cases hx) (by intro k x hx; cases hx) (fun d out h => ⟨0, (q_era_Fold_u32_m 0 d).trans h⟩)

/- horologe/stamp.Of -/
@[reducible] def pi_stamp_Of : PSh := ⟨[], [.mk false [.v (.int .i64)], .mk false [.v (.int .i64)]]⟩
@[reducible] def po_stamp_Of : PSh := ⟨[], [.mk true [.v (.int .u32), .v (.int .u32)], .mk false [.v .err]]⟩
def f_stamp_Of_m (T : Unit) (d : Unit × ((Int × Unit) × ((Int × Unit) × Unit))) : Option (Unit × ((Int × (Int × Unit)) × (((Option Int) × Unit) × Unit))) :=
  (g_stamp_Fraction ((), ((d.2.2.1.1, ()), ()))).bind fun x1 =>
  let x2 : Bool := (!x1.2.2.1.1.isNone)
  bif x2 then (
  some ((), (((0 : Int), ((0 : Int), ())), ((x1.2.2.1.1, ()), ()))))
  else (
  (g_era_Fold_u32 ((), ((d.2.1.1, ()), ()))).bind fun x3 =>
  some ((), ((x3.2.1.1, (x1.2.1.1, ())), (((none : Option Int), ()), ()))))
def c_stamp_Of : List Nat := []
def L_stamp_Of (_ : Nat) : Pts po_stamp_Of.den := []
def E_stamp_Of : Env := ((E0.add 19 (typedSem pi_stamp_Fraction po_stamp_Fraction g_stamp_Fraction)).add 77 (typedSem pi_era_Fold_u32 po_era_Fold_u32 g_era_Fold_u32))
theorem q_stamp_Of_m (k : Nat) (d : Unit × ((Int × Unit) × ((Int × Unit) × Unit))) : evCode E_stamp_Of (tab (L_stamp_Of k)) c_stamp_Of (bodyOf Try.f29) 0 (finK E_stamp_Of po_stamp_Of [.cell 4 51, .tmp 5]) (startSt pi_stamp_Of 21 d) = f_stamp_Of_m () d := by kernel_rfl
def g_stamp_Of (d : Unit × ((Int × Unit) × ((Int × Unit) × Unit))) : Option (Unit × ((Int × (Int × Unit)) × (((Option Int) × Unit) × Unit))) := f_stamp_Of_m () d
theorem ok_stamp_Of : FnOk Try.prog ET0 29 pi_stamp_Of po_stamp_Of g_stamp_Of :=
  fn_of_body (E := E_stamp_Of) (envOk_add (envOk_add e0_ok (typed_ok ok_stamp_Fraction)) (typed_ok ok_era_Fold_u32)) (fn := Try.f29) Try.func29 (by kernel_rfl) (by kernel_rfl) [.cell 4 51, .tmp 5] (by kernel_rfl) (by kernel_rfl) (by decide) rfl c_stamp_Of L_stamp_Of
    (by intro x hx; cases hx) (by intro k x hx; cases hx) (fun d out h => ⟨0, (q_stamp_Of_m 0 d).trans h⟩)

/- horologe/horologeref13.Fold -/
@[reducible] def pi_ref13_Fold : PSh := ⟨[], [.mk false [.v (.int .i64)], .mk false [.v (.int .i64)]]⟩
@[reducible] def po_ref13_Fold : PSh := ⟨[], [.mk false [.v (.int .i64)]]⟩
@[reducible] def TT_ref13_Fold : Type := (((Unit × ((Int × Unit) × ((Int × Unit) × ((Int × Unit) × ((Int × Unit) × Unit))))) → Option (Unit × ((Int × Unit) × Unit))) × Unit)
@[reducible] def sh_ref13_Fold_4 : PSh := ⟨[], [.mk false [.v (.int .i64)], .mk false [.v (.int .i64)], .any, .any, .any, .mk false [.v (.int .i64)], .mk false [.v (.int .i64)], .any, .any, .any, .any, .any, .any, .any, .any, .any, .any, .any, .any, .any, .any, .any, .any, .any]⟩
def f_ref13_Fold_p4 (T : TT_ref13_Fold) (d : Unit × ((Int × Unit) × ((Int × Unit) × ((Int × Unit) × ((Int × Unit) × Unit))))) : Option (Unit × ((Int × Unit) × Unit)) :=
  let x1 : Bool := (decide (d.2.2.2.2.1.1 < d.2.2.1.1))
  bif x1 then (
  let x2 : Int := (imul .i64 d.2.2.2.1.1 (2 : Int))
  let x3 : Int := (iadd .i64 d.2.2.2.2.1.1 (1 : Int))
  (T.1 ((), ((d.2.1.1, ()), ((d.2.2.1.1, ()), ((x2, ()), ((x3, ()), ())))))))
  else (
  bif (d.2.2.2.1.1 == 0) then (
  none)
  else (
  let x4 : Int := (Int.tmod d.2.1.1 d.2.2.2.1.1)
  let x5 : Bool := (decide (x4 < (0 : Int)))
  bif x5 then (
  let x6 : Int := (iadd .i64 x4 d.2.2.2.1.1)
  some ((), ((x6, ()), ())))
  else (
  some ((), ((x4, ()), ())))))
def f_ref13_Fold_t : Nat → TT_ref13_Fold
  | 0 => (fun _ => none, ())
  | k + 1 => (f_ref13_Fold_p4 (f_ref13_Fold_t k), ())
theorem t_ref13_Fold (k : Nat) : f_ref13_Fold_t (k + 1) = (f_ref13_Fold_p4 (f_ref13_Fold_t k), ()) := rfl
def f_ref13_Fold_m (T : TT_ref13_Fold) (d : Unit × ((Int × Unit) × ((Int × Unit) × Unit))) : Option (Unit × ((Int × Unit) × Unit)) :=
  (T.1 ((), ((d.2.1.1, ()), ((d.2.2.1.1, ()), (((1 : Int), ()), (((0 : Int), ()), ()))))))
def c_ref13_Fold : List Nat := []
def L_ref13_Fold (k : Nat) : Pts po_ref13_Fold.den := [(4, ⟨sh_ref13_Fold_4, (f_ref13_Fold_t k).1⟩)]
def E_ref13_Fold : Env := E0
theorem q_ref13_Fold_4 (k : Nat) (d : Unit × ((Int × Unit) × ((Int × Unit) × ((Int × Unit) × ((Int × Unit) × Unit))))) : evAt E_ref13_Fold (tab (L_ref13_Fold k)) c_ref13_Fold 4 (bodyOf Try.f30) 0 (finK E_ref13_Fold po_ref13_Fold [.tmp 4]) (ptSt sh_ref13_Fold_4 d) = f_ref13_Fold_p4 (f_ref13_Fold_t k) d := by kernel_rfl
theorem q_ref13_Fold_m (k : Nat) (d : Unit × ((Int × Unit) × ((Int × Unit) × Unit))) : evCode E_ref13_Fold (tab (L_ref13_Fold k)) c_ref13_Fold (bodyOf Try.f30) 0 (finK E_ref13_Fold po_ref13_Fold [.tmp 4]) (startSt pi_ref13_Fold 24 d) = f_ref13_Fold_m (f_ref13_Fold_t k) d := by kernel_rfl
theorem go_ref13_Fold (G : Unit × ((Int × Unit) × ((Int × Unit) × Unit)) → Option (Unit × ((Int × Unit) × Unit))) (hG : ∀ d out, G d = some out → ∃ k, f_ref13_Fold_m (f_ref13_Fold_t k) d = some out) : FnOk Try.prog ET0 30 pi_ref13_Fold po_ref13_Fold G :=
  fn_of_body (E := E_ref13_Fold) e0_ok (fn := Try.f30) Try.func30 (by kernel_rfl) (by kernel_rfl) [.tmp 4] (by kernel_rfl) (by kernel_rfl) (by decide) rfl c_ref13_Fold L_ref13_Fold
    (by intro x hx d; simp only [L_ref13_Fold, List.mem_cons, List.not_mem_nil, or_false] at hx; subst hx; rfl)
    (by intro k x hx d out h; simp only [L_ref13_Fold, List.mem_cons, List.not_mem_nil, or_false] at hx; subst hx; exact (q_ref13_Fold_4 k d).trans h)
    (by intro d out h; obtain ⟨k, hk⟩ := hG d out h; exact ⟨k, (q_ref13_Fold_m k d).trans hk⟩)
def g_ref13_Fold (d : Unit × ((Int × Unit) × ((Int × Unit) × Unit))) : Option (Unit × ((Int × Unit) × Unit)) := lim fun k => f_ref13_Fold_m (f_ref13_Fold_t k) d
theorem ok_ref13_Fold : FnOk Try.prog ET0 30 pi_ref13_Fold po_ref13_Fold g_ref13_Fold := go_ref13_Fold g_ref13_Fold fun d out h => lim_some h

/- horologe/octets.Size[uint32] -/
@[reducible] def pi_octets_Size_u32 : PSh := ⟨[], []⟩
@[reducible] def po_octets_Size_u32 : PSh := ⟨[], [.mk false [.v (.int .i64)]]⟩
@[reducible] def TT_octets_Size_u32 : Type := (((Unit × ((Int × Unit) × ((Int × Unit) × Unit))) → Option (Unit × ((Int × Unit) × Unit))) × Unit)
@[reducible] def sh_octets_Size_u32_4 : PSh := ⟨[], [.any, .mk false [.v (.int .i64)], .mk false [.v (.int .u32)], .any, .any, .any, .any, .any, .any, .any, .any, .any, .any, .any]⟩
def f_octets_Size_u32_p4 (T : TT_octets_Size_u32) (d : Unit × ((Int × Unit) × ((Int × Unit) × Unit))) : Option (Unit × ((Int × Unit) × Unit)) :=
  let x3 : Bool := (decide (d.2.2.1.1 > (0 : Int)))
  bif x3 then (
  let x4 : Int := (iadd .i64 d.2.1.1 (1 : Int))
  let x5 : Int := (iconv .u64 d.2.2.1.1)
  let x6 : Int := (ishr .u64 x5 (8 : Int))
  let x7 : Int := (iconv .u32 x6)
  (T.1 ((), ((x4, ()), ((x7, ()), ())))))
  else (
  some ((), ((d.2.1.1, ()), ())))
def f_octets_Size_u32_t : Nat → TT_octets_Size_u32
  | 0 => (fun _ => none, ())
  | k + 1 => (f_octets_Size_u32_p4 (f_octets_Size_u32_t k), ())
theorem t_octets_Size_u32 (k : Nat) : f_octets_Size_u32_t (k + 1) = (f_octets_Size_u32_p4 (f_octets_Size_u32_t k), ()) := rfl
def f_octets_Size_u32_m (T : TT_octets_Size_u32) (d : Unit × Unit) : Option (Unit × ((Int × Unit) × Unit)) :=
  let x1 : Int := (iconv .u32 (0 : Int))
  let x2 : Int := (inot .u32 x1)
  (T.1 ((), (((0 : Int), ()), ((x2, ()), ()))))
def c_octets_Size_u32 : List Nat := []
def L_octets_Size_u32 (k : Nat) : Pts po_octets_Size_u32.den := [(4, ⟨sh_octets_Size_u32_4, (f_octets_Size_u32_t k).1⟩)]
def E_octets_Size_u32 : Env := E0
theorem q_octets_Size_u32_4 (k : Nat) (d : Unit × ((Int × Unit) × ((Int × Unit) × Unit))) : evAt E_octets_Size_u32 (tab (L_octets_Size_u32 k)) c_octets_Size_u32 4 (bodyOf Try.f91) 0 (finK E_octets_Size_u32 po_octets_Size_u32 [.tmp 0]) (ptSt sh_octets_Size_u32_4 d) = f_octets_Size_u32_p4 (f_octets_Size_u32_t k) d := by kernel_rfl
theorem q_octets_Size_u32_m (k : Nat) (d : Unit × Unit) : evCode E_octets_Size_u32 (tab (L_octets_Size_u32 k)) c_octets_Size_u32 (bodyOf Try.f91) 0 (finK E_octets_Size_u32 po_octets_Size_u32 [.tmp 0]) (startSt pi_octets_Size_u32 14 d) = f_octets_Size_u32_m (f_octets_Size_u32_t k) d := by kernel_rfl
theorem go_octets_Size_u32 (G : Unit × Unit → Option (Unit × ((Int × Unit) × Unit))) (hG : ∀ d out, G d = some out → ∃ k, f_octets_Size_u32_m (f_octets_Size_u32_t k) d = some out) : FnOk Try.prog ET0 91 pi_octets_Size_u32 po_octets_Size_u32 G :=
  fn_of_body (E := E_octets_Size_u32) e0_ok (fn := Try.f91) Try.func91 (by kernel_rfl) (by kernel_rfl) [.tmp 0] (by kernel_rfl) (by kernel_rfl) (by decide) rfl c_octets_Size_u32 L_octets_Size_u32
    (by intro x hx d; simp only [L_octets_Size_u32, List.mem_cons, List.not_mem_nil, or_false] at hx; subst hx; rfl)
    (by intro k x hx d out h; simp only [L_octets_Size_u32, List.mem_cons, List.not_mem_nil, or_false] at hx; subst hx; exact (q_octets_Size_u32_4 k d).trans h)
    (by intro d out h; obtain ⟨k, hk⟩ := hG d out h; exact ⟨k, (q_octets_Size_u32_m k d).trans hk⟩)
def g_octets_Size_u32 (d : Unit × Unit) : Option (Unit × ((Int × Unit) × Unit)) := lim fun k => f_octets_Size_u32_m (f_octets_Size_u32_t k) d
theorem ok_octets_Size_u32 : FnOk Try.prog ET0 91 pi_octets_Size_u32 po_octets_Size_u32 g_octets_Size_u32 := go_octets_Size_u32 g_octets_Size_u32 fun d out h => lim_some h

/- horologe/num.Add -/
@[reducible] def pi_num_Add : PSh := ⟨[], [.mk false [.v (.int .i64)], .mk false [.v (.int .i64)]]⟩
@[reducible] def po_num_Add : PSh := ⟨[], [.mk false [.v (.int .i64)], .mk false [.v .err]]⟩
def f_num_Add_m (T : Unit) (d : Unit × ((Int × Unit) × ((Int × Unit) × Unit))) : Option (Unit × ((Int × Unit) × (((Option Int) × Unit) × Unit))) :=
  let x1 : Int := (iadd .i64 d.2.1.1 d.2.2.1.1)
  let x2 : Bool := (decide (d.2.2.1.1 > (0 : Int)))
  bif x2 then (
  let x3 : Bool := (decide (x1 < d.2.1.1))
  bif x3 then (
  let x4 : (Option Int) := (some (5 : Int))
  some ((), (((0 : Int), ()), ((x4, ()), ()))))
  else (
  let x5 : Bool := (decide (d.2.2.1.1 < (0 : Int)))
  bif x5 then (
  let x6 : Bool := (decide (x1 > d.2.1.1))
  bif x6 then (
  let x7 : (Option Int) := (some (5 : Int))
  some ((), (((0 : Int), ()), ((x7, ()), ()))))
  else (
  some ((), ((x1, ()), (((none : Option Int), ()), ())))))
  else (
  some ((), ((x1, ()), (((none : Option Int), ()), ()))))))
  else (
  let x8 : Bool := (decide (d.2.2.1.1 < (0 : Int)))
  bif x8 then (
  let x9 : Bool := (decide (x1 > d.2.1.1))
  bif x9 then (
  let x10 : (Option Int) := (some (5 : Int))
  some ((), (((0 : Int), ()), ((x10, ()), ()))))
  else (
  some ((), ((x1, ()), (((none : Option Int), ()), ())))))
  else (
  some ((), ((x1, ()), (((none : Option Int), ()), ())))))
def c_num_Add : List Nat := []
def L_num_Add (_ : Nat) : Pts po_num_Add.den := []
def E_num_Add : Env := E0
theorem q_num_Add_m (k : Nat) (d : Unit × ((Int × Unit) × ((Int × Unit) × Unit))) : evCode E_num_Add (tab (L_num_Add k)) c_num_Add (bodyOf Try.f85) 0 (finK E_num_Add po_num_Add [.tmp 4, .tmp 5]) (startSt pi_num_Add 28 d) = f_num_Add_m () d := by kernel_rfl
def g_num_Add (d : Unit × ((Int × Unit) × ((Int × Unit) × Unit))) : Option (Unit × ((Int × Unit) × (((Option Int) × Unit) × Unit))) := f_num_Add_m () d
theorem ok_num_Add : FnOk Try.prog ET0 85 pi_num_Add po_num_Add g_num_Add :=
  fn_of_body (E := E_num_Add) e0_ok (fn := Try.f85) Try.func85 (by kernel_rfl) (by kernel_rfl) [.tmp 4, .tmp 5] (by kernel_rfl) (by kernel_rfl) (by decide) rfl c_num_Add L_num_Add
    (by intro x hx; cases hx) (by intro k x hx; cases hx) (fun d out h => ⟨0, (q_num_Add_m 0 d).trans h⟩)

/- horologe/era.right -/
@[reducible] def pi_era_right : PSh := ⟨[], [.mk false [.v (.int .i64)]]⟩
@[reducible] def po_era_right : PSh := ⟨[], [.mk false [.v .bool]]⟩
def f_era_right_m (T : Unit) (d : Unit × ((Int × Unit) × Unit)) : Option (Unit × ((Bool × Unit) × Unit)) :=
  let x1 : Bool := (decide (d.2.1.1 ≥ (1 : Int)))
  bif x1 then (
  let x2 : Bool := (decide (d.2.1.1 ≤ (62 : Int)))
  some ((), ((x2, ()), ())))
  else (
  some ((), ((false, ()), ())))
def c_era_right : List Nat := []
def L_era_right (_ : Nat) : Pts po_era_right.den := []
def E_era_right : Env := E0
theorem q_era_right_m (k : Nat) (d : Unit × ((Int × Unit) × Unit)) : evCode E_era_right (tab (L_era_right k)) c_era_right (bodyOf Try.f127) 0 (finK E_era_right po_era_right [.tmp 2]) (startSt pi_era_right 9 d) = f_era_right_m () d := by kernel_rfl
def g_era_right (d : Unit × ((Int × Unit) × Unit)) : Option (Unit × ((Bool × Unit) × Unit)) := f_era_right_m () d
theorem ok_era_right : FnOk Try.prog ET0 127 pi_era_right po_era_right g_era_right :=
  fn_of_body (E := E_era_right) e0_ok (fn := Try.f127) Try.func127 (by kernel_rfl) (by kernel_rfl) [.tmp 2] (by kernel_rfl) (by kernel_rfl) (by decide) rfl c_era_right L_era_right
    (by intro x hx; cases hx) (by intro k x hx; cases hx) (fun d out h => ⟨0, (q_era_right_m 0 d).trans h⟩)

/- horologe/era.mask -/
@[reducible] def pi_era_mask : PSh := ⟨[], [.mk false [.v (.int .i64)]]⟩
@[reducible] def po_era_mask : PSh := ⟨[], [.mk false [.v (.int .u64)]]⟩
def f_era_mask_m (T : Unit) (d : Unit × ((Int × Unit) × Unit)) : Option (Unit × ((Int × Unit) × Unit)) :=
  bif decide (d.2.1.1 < 0) then (
  none)
  else (
  let x1 : Int := (ishl .u64 (1 : Int) d.2.1.1)
  let x2 : Int := (isub .u64 x1 (1 : Int))
  some ((), ((x2, ()), ())))
def c_era_mask : List Nat := []
def L_era_mask (_ : Nat) : Pts po_era_mask.den := []
def E_era_mask : Env := E0
theorem q_era_mask_m (k : Nat) (d : Unit × ((Int × Unit) × Unit)) : evCode E_era_mask (tab (L_era_mask k)) c_era_mask (bodyOf Try.f128) 0 (finK E_era_mask po_era_mask [.tmp 2]) (startSt pi_era_mask 6 d) = f_era_mask_m () d := by kernel_rfl
def g_era_mask (d : Unit × ((Int × Unit) × Unit)) : Option (Unit × ((Int × Unit) × Unit)) := f_era_mask_m () d
theorem ok_era_mask : FnOk Try.prog ET0 128 pi_era_mask po_era_mask g_era_mask :=
  fn_of_body (E := E_era_mask) e0_ok (fn := Try.f128) Try.func128 (by kernel_rfl) (by kernel_rfl) [.tmp 2] (by kernel_rfl) (by kernel_rfl) (by decide) rfl c_era_mask L_era_mask
    (by intro x hx; cases hx) (by intro k x hx; cases hx) (fun d out h => ⟨0, (q_era_mask_m 0 d).trans h⟩)

/- horologe/era.Bits -/
@[reducible] def pi_era_Bits : PSh := ⟨[], [.mk false [.v (.int .u64)], .mk false [.v (.int .i64)], .mk false [.v (.int .i64)]]⟩
@[reducible] def po_era_Bits : PSh := ⟨[], [.mk false [.v (.int .i64)], .mk false [.v .err]]⟩
def f_era_Bits_m (T : Unit) (d : Unit × ((Int × Unit) × ((Int × Unit) × ((Int × Unit) × Unit)))) : Option (Unit × ((Int × Unit) × (((Option Int) × Unit) × Unit))) :=
  (g_era_right ((), ((d.2.2.1.1, ()), ()))).bind fun x1 =>
  let x2 : Bool := (!x1.2.1.1)
  bif x2 then (
  let x3 : (Option Int) := (some (1 : Int))
  some ((), (((0 : Int), ()), ((x3, ()), ()))))
  else (
  (g_era_mask ((), ((d.2.2.1.1, ()), ()))).bind fun x4 =>
  let x5 : Bool := (decide (d.2.1.1 > x4.2.1.1))
  bif x5 then (
  let x6 : (Option Int) := (some (1 : Int))
  some ((), (((0 : Int), ()), ((x6, ()), ()))))
  else (
  let x7 : Int := (iconv .u64 d.2.2.2.1.1)
  let x8 : Int := (isub .u64 d.2.1.1 x7)
  (g_era_mask ((), ((d.2.2.1.1, ()), ()))).bind fun x9 =>
  let x10 : Int := (iand .u64 x8 x9.2.1.1)
  let x11 : Int := (iconv .i64 x10)
  let x12 : Int := (isub .i64 d.2.2.1.1 (1 : Int))
  bif decide (x12 < 0) then (
  none)
  else (
  let x13 : Int := (ishl .i64 (1 : Int) x12)
  let x14 : Bool := (decide (x11 ≥ x13))
  bif x14 then (
  bif decide (d.2.2.1.1 < 0) then (
  none)
  else (
  let x15 : Int := (ishl .i64 (1 : Int) d.2.2.1.1)
  let x16 : Int := (isub .i64 x11 x15)
  (g_num_Add ((), ((d.2.2.2.1.1, ()), ((x16, ()), ())))).bind fun x17 =>
  some ((), ((x17.2.1.1, ()), ((x17.2.2.1.1, ()), ())))))
  else (
  (g_num_Add ((), ((d.2.2.2.1.1, ()), ((x11, ()), ())))).bind fun x18 =>
  some ((), ((x18.2.1.1, ()), ((x18.2.2.1.1, ()), ())))))))
def c_era_Bits : List Nat := []
def L_era_Bits (_ : Nat) : Pts po_era_Bits.den := []
def E_era_Bits : Env := (((E0.add 85 (typedSem pi_num_Add po_num_Add g_num_Add)).add 127 (typedSem pi_era_right po_era_right g_era_right)).add 128 (typedSem pi_era_mask po_era_mask g_era_mask))
theorem q_era_Bits_m (k : Nat) (d : Unit × ((Int × Unit) × ((Int × Unit) × ((Int × Unit) × Unit)))) : evCode E_era_Bits (tab (L_era_Bits k)) c_era_Bits (bodyOf Try.f116) 0 (finK E_era_Bits po_era_Bits [.tmp 6, .tmp 7]) (startSt pi_era_Bits 41 d) = f_era_Bits_m () d := by kernel_rfl
def g_era_Bits (d : Unit × ((Int × Unit) × ((Int × Unit) × ((Int × Unit) × Unit)))) : Option (Unit × ((Int × Unit) × (((Option Int) × Unit) × Unit))) := f_era_Bits_m () d
theorem ok_era_Bits : FnOk Try.prog ET0 116 pi_era_Bits po_era_Bits g_era_Bits :=
  fn_of_body (E := E_era_Bits) (envOk_add (envOk_add (envOk_add e0_ok (typed_ok ok_num_Add)) (typed_ok ok_era_right)) (typed_ok ok_era_mask)) (fn := Try.f116) Try.func116 (by kernel_rfl) (by kernel_rfl) [.tmp 6, .tmp 7] (by kernel_rfl) (by kernel_rfl) (by decide) rfl c_era_Bits L_era_Bits
    (by intro x hx; cases hx) (by intro k x hx; cases hx) (fun d out h => ⟨0, (q_era_Bits_m 0 d).trans h⟩)

/- horologe/era.Unfold[uint32] -/
@[reducible] def pi_era_Unfold_u32 : PSh := ⟨[], [.mk false [.v (.int .u32)], .mk false [.v (.int .i64)]]⟩
@[reducible] def po_era_Unfold_u32 : PSh := ⟨[], [.mk false [.v (.int .i64)], .mk false [.v .err]]⟩
def f_era_Unfold_u32_m (T : Unit) (d : Unit × ((Int × Unit) × ((Int × Unit) × Unit))) : Option (Unit × ((Int × Unit) × (((Option Int) × Unit) × Unit))) :=
  let x1 : Int := (iconv .u64 d.2.1.1)
  (g_octets_Size_u32 ((), ())).bind fun x2 =>
  let x3 : Int := (imul .i64 x2.2.1.1 (8 : Int))
  (g_era_Bits ((), ((x1, ()), ((x3, ()), ((d.2.2.1.1, ()), ()))))).bind fun x4 =>
  some ((), ((x4.2.1.1, ()), ((x4.2.2.1.1, ()), ())))
def c_era_Unfold_u32 : List Nat := []
def L_era_Unfold_u32 (_ : Nat) : Pts po_era_Unfold_u32.den := []
def E_era_Unfold_u32 : Env := ((E0.add 91 (typedSem pi_octets_Size_u32 po_octets_Size_u32 g_octets_Size_u32)).add 116 (typedSem pi_era_Bits po_era_Bits g_era_Bits))
theorem q_era_Unfold_u32_m (k : Nat) (d : Unit × ((Int × Unit) × ((Int × Unit) × Unit))) : evCode E_era_Unfold_u32 (tab (L_era_Unfold_u32 k)) c_era_Unfold_u32 (bodyOf Try.f78) 0 (finK E_era_Unfold_u32 po_era_Unfold_u32 [.tmp 4, .tmp 5]) (startSt pi_era_Unfold_u32 14 d) = f_era_Unfold_u32_m () d := by kernel_rfl
def g_era_Unfold_u32 (d : Unit × ((Int × Unit) × ((Int × Unit) × Unit))) : Option (Unit × ((Int × Unit) × (((Option Int) × Unit) × Unit))) := f_era_Unfold_u32_m () d
theorem ok_era_Unfold_u32 : FnOk Try.prog ET0 78 pi_era_Unfold_u32 po_era_Unfold_u32 g_era_Unfold_u32 :=
  fn_of_body (E := E_era_Unfold_u32) (envOk_add (envOk_add e0_ok (typed_ok ok_octets_Size_u32)) (typed_ok ok_era_Bits)) (fn := Try.f78) Try.func78 (by kernel_rfl) (by kernel_rfl) [.tmp 4, .tmp 5] (by kernel_rfl) (by kernel_rfl) (by decide) rfl c_era_Unfold_u32 L_era_Unfold_u32
    (by intro x hx; cases hx) (by intro k x hx; cases hx) (fun d out h => ⟨0, (q_era_Unfold_u32_m 0 d).trans h⟩)

/- horologe/stamp.Time -/
@[reducible] def pi_stamp_Time : PSh := ⟨[], [.mk true [.v (.int .u32), .v (.int .u32)], .mk false [.v (.int .i64)]]⟩
@[reducible] def po_stamp_Time : PSh := ⟨[], [.mk false [.v (.int .i64)], .mk false [.v (.int .i64)], .mk false [.v .err]]⟩
def f_stamp_Time_m (T : Unit) (d : Unit × ((Int × (Int × Unit)) × ((Int × Unit) × Unit))) : Option (Unit × ((Int × Unit) × ((Int × Unit) × (((Option Int) × Unit) × Unit)))) :=
  (g_era_Unfold_u32 ((), ((d.2.1.1, ()), ((d.2.2.1.1, ()), ())))).bind fun x1 =>
  let x2 : Bool := (!x1.2.2.1.1.isNone)
  bif x2 then (
  some ((), (((0 : Int), ()), (((0 : Int), ()), ((x1.2.2.1.1, ()), ())))))
  else (
  (g_stamp_Nano ((), ((d.2.1.2.1, ()), ()))).bind fun x3 =>
  some ((), ((x1.2.1.1, ()), ((x3.2.1.1, ()), (((none : Option Int), ()), ())))))
def c_stamp_Time : List Nat := []
def L_stamp_Time (_ : Nat) : Pts po_stamp_Time.den := []
def E_stamp_Time : Env := ((E0.add 16 (typedSem pi_stamp_Nano po_stamp_Nano g_stamp_Nano)).add 78 (typedSem pi_era_Unfold_u32 po_era_Unfold_u32 g_era_Unfold_u32))
theorem q_stamp_Time_m (k : Nat) (d : Unit × ((Int × (Int × Unit)) × ((Int × Unit) × Unit))) : evCode E_stamp_Time (tab (L_stamp_Time k)) c_stamp_Time (bodyOf Try.f31) 0 (finK E_stamp_Time po_stamp_Time [.tmp 4, .tmp 5, .tmp 6]) (startSt pi_stamp_Time 21 d) = f_stamp_Time_m () d := by kernel_rfl
def g_stamp_Time (d : Unit × ((Int × (Int × Unit)) × ((Int × Unit) × Unit))) : Option (Unit × ((Int × Unit) × ((Int × Unit) × (((Option Int) × Unit) × Unit)))) := f_stamp_Time_m () d
theorem ok_stamp_Time : FnOk Try.prog ET0 31 pi_stamp_Time po_stamp_Time g_stamp_Time :=
  fn_of_body (E := E_stamp_Time) (envOk_add (envOk_add e0_ok (typed_ok ok_stamp_Nano)) (typed_ok ok_era_Unfold_u32)) (fn := Try.f31) Try.func31 (by kernel_rfl) (by kernel_rfl) [.tmp 4, .tmp 5, .tmp 6] (by kernel_rfl) (by kernel_rfl) (by decide) rfl c_stamp_Time L_stamp_Time
    (by intro x hx; cases hx) (by intro k x hx; cases hx) (fun d out h => ⟨0, (q_stamp_Time_m 0 d).trans h⟩)

/- horologe/horologeref01.Of -/
@[reducible] def pi_ref01_Of : PSh := ⟨[], [.mk false [.v (.int .i64)]]⟩
@[reducible] def po_ref01_Of : PSh := ⟨[.row 26 (.int .u64)], [.mk true [.v .bool, .osl 0]]⟩
@[reducible] def TT_ref01_Of : Type := (((((Bool × Unit) × ((List Int) × ((List Int) × Unit))) × ((Int × Unit) × (Unit × (Unit × ((Bool × Unit) × Unit))))) → Option (((List Int) × Unit) × ((Bool × Unit) × Unit))) × Unit)
@[reducible] def sh_ref01_Of_4 : PSh := ⟨[.var 129 [.v .bool, .osl 1], .row 26 (.int .u64), .row 26 (.int .u64)], [.mk false [.v (.int .i64)], .any, .mk false [.ref 0 0], .mk false [.osl 2], .mk false [.v .bool], .any, .any, .any, .any, .any, .any, .any, .any, .any, .any, .any, .any, .any, .any, .any, .any, .any, .any, .any, .any, .any]⟩
def f_ref01_Of_p4 (T : TT_ref01_Of) (d : ((Bool × Unit) × ((List Int) × ((List Int) × Unit))) × ((Int × Unit) × (Unit × (Unit × ((Bool × Unit) × Unit))))) : Option (((List Int) × Unit) × ((Bool × Unit) × Unit)) :=
  let x2 : Bool := (d.2.1.1 != (0 : Int))
  bif x2 then (
  let x3 : Int := (Int.tmod d.2.1.1 (65536 : Int))
  let x4 : Bool := (decide (x3 < (0 : Int)))
  bif x4 then (
  let x5 : Int := (isub .i64 (0 : Int) x3)
  let x6 : Int := (iconv .u64 x5)
  let x7 : (List Int) := ([x6] : List Int)
  bif decide (((d.1.2.2.1.length + x7.length) * 8 : Nat) ≤ 140737488355328) && decide (d.1.2.2.1.length + x7.length ≤ 9223372036854775807) then (
  let x8 : (List Int) := (d.1.2.2.1 ++ x7)
  let x9 : Int := (iquo .i64 d.2.1.1 (65536 : Int))
  (T.1 (((d.1.1.1, ()), (d.1.2.1, (x8, ()))), ((x9, ()), ((), ((), ((d.2.2.2.2.1.1, ()), ())))))))
  else none)
  else (
  let x10 : Int := (iconv .u64 x3)
  let x11 : (List Int) := ([x10] : List Int)
  bif decide (((d.1.2.2.1.length + x11.length) * 8 : Nat) ≤ 140737488355328) && decide (d.1.2.2.1.length + x11.length ≤ 9223372036854775807) then (
  let x12 : (List Int) := (d.1.2.2.1 ++ x11)
  let x13 : Int := (iquo .i64 d.2.1.1 (65536 : Int))
  (T.1 (((d.1.1.1, ()), (d.1.2.1, (x12, ()))), ((x13, ()), ((), ((), ((d.2.2.2.2.1.1, ()), ())))))))
  else none))
  else (
  some ((d.1.2.2.1, ()), ((d.2.2.2.2.1.1, ()), ())))
def f_ref01_Of_t : Nat → TT_ref01_Of
  | 0 => (fun _ => none, ())
  | k + 1 => (f_ref01_Of_p4 (f_ref01_Of_t k), ())
theorem t_ref01_Of (k : Nat) : f_ref01_Of_t (k + 1) = (f_ref01_Of_p4 (f_ref01_Of_t k), ()) := rfl
def f_ref01_Of_m (T : TT_ref01_Of) (d : Unit × ((Int × Unit) × Unit)) : Option (((List Int) × Unit) × ((Bool × Unit) × Unit)) :=
  let x1 : Bool := (decide (d.2.1.1 < (0 : Int)))
  (T.1 (((false, ()), (([] : List Int), (([] : List Int), ()))), ((d.2.1.1, ()), ((), ((), ((x1, ()), ()))))))
def c_ref01_Of : List Nat := []
def L_ref01_Of (k : Nat) : Pts po_ref01_Of.den := [(4, ⟨sh_ref01_Of_4, (f_ref01_Of_t k).1⟩)]
def E_ref01_Of : Env := E0
theorem q_ref01_Of_4 (k : Nat) (d : ((Bool × Unit) × ((List Int) × ((List Int) × Unit))) × ((Int × Unit) × (Unit × (Unit × ((Bool × Unit) × Unit))))) : evAt E_ref01_Of (tab (L_ref01_Of k)) c_ref01_Of 4 (bodyOf Try.f79) 0 (finK E_ref01_Of po_ref01_Of [.cell 2 129]) (ptSt sh_ref01_Of_4 d) = f_ref01_Of_p4 (f_ref01_Of_t k) d := by kernel_rfl
theorem q_ref01_Of_m (k : Nat) (d : Unit × ((Int × Unit) × Unit)) : evCode E_ref01_Of (tab (L_ref01_Of k)) c_ref01_Of (bodyOf Try.f79) 0 (finK E_ref01_Of po_ref01_Of [.cell 2 129]) (startSt pi_ref01_Of 26 d) = f_ref01_Of_m (f_ref01_Of_t k) d := by kernel_rfl
theorem go_ref01_Of (G : Unit × ((Int × Unit) × Unit) → Option (((List Int) × Unit) × ((Bool × Unit) × Unit))) (hG : ∀ d out, G d = some out → ∃ k, f_ref01_Of_m (f_ref01_Of_t k) d = some out) : FnOk Try.prog ET0 79 pi_ref01_Of po_ref01_Of G :=
  fn_of_body (E := E_ref01_Of) e0_ok (fn := Try.f79) Try.func79 (by kernel_rfl) (by kernel_rfl) [.cell 2 129] (by kernel_rfl) (by kernel_rfl) (by decide) rfl c_ref01_Of L_ref01_Of
    (by intro x hx d; simp only [L_ref01_Of, List.mem_cons, List.not_mem_nil, or_false] at hx; subst hx; rfl)
    (by intro k x hx d out h; simp only [L_ref01_Of, List.mem_cons, List.not_mem_nil, or_false] at hx; subst hx; exact (q_ref01_Of_4 k d).trans h)
    (by intro d out h; obtain ⟨k, hk⟩ := hG d out h; exact ⟨k, (q_ref01_Of_m k d).trans hk⟩)
def g_ref01_Of (d : Unit × ((Int × Unit) × Unit)) : Option (((List Int) × Unit) × ((Bool × Unit) × Unit)) := lim fun k => f_ref01_Of_m (f_ref01_Of_t k) d
theorem ok_ref01_Of : FnOk Try.prog ET0 79 pi_ref01_Of po_ref01_Of g_ref01_Of := go_ref01_Of g_ref01_Of fun d out h => lim_some h

/- horologe/horologeref01.digit -/
@[reducible] def pi_ref01_digit : PSh := ⟨[], [.mk false [.v (.sl (.int .u64))], .mk false [.v (.int .i64)]]⟩
@[reducible] def po_ref01_digit : PSh := ⟨[], [.mk false [.v (.int .u64)]]⟩
def f_ref01_digit_m (T : Unit) (d : Unit × (((List Int) × Unit) × ((Int × Unit) × Unit))) : Option (Unit × ((Int × Unit) × Unit)) :=
  let x1 : Int := (d.2.1.1.length : Int)
  let x2 : Bool := (decide (d.2.2.1.1 < x1))
  bif x2 then (
  bif decide ((0 : Int) ≤ d.2.2.1.1) && decide (d.2.2.1.1 < (d.2.1.1.length : Int)) then (
  some ((), (((gd (.int .u64) d.2.1.1 d.2.2.1.1), ()), ())))
  else none)
  else (
  some ((), (((0 : Int), ()), ())))
def c_ref01_digit : List Nat := []
def L_ref01_digit (_ : Nat) : Pts po_ref01_digit.den := []
def E_ref01_digit : Env := E0
theorem q_ref01_digit_m (k : Nat) (d : Unit × (((List Int) × Unit) × ((Int × Unit) × Unit))) : evCode E_ref01_digit (tab (L_ref01_digit k)) c_ref01_digit (bodyOf Try.f129) 0 (finK E_ref01_digit po_ref01_digit [.tmp 4]) (startSt pi_ref01_digit 13 d) = f_ref01_digit_m () d := by kernel_rfl
def g_ref01_digit (d : Unit × (((List Int) × Unit) × ((Int × Unit) × Unit))) : Option (Unit × ((Int × Unit) × Unit)) := f_ref01_digit_m () d
theorem ok_ref01_digit : FnOk Try.prog ET0 129 pi_ref01_digit po_ref01_digit g_ref01_digit :=
  fn_of_body (E := E_ref01_digit) e0_ok (fn := Try.f129) Try.func129 (by kernel_rfl) (by kernel_rfl) [.tmp 4] (by kernel_rfl) (by kernel_rfl) (by decide) rfl c_ref01_digit L_ref01_digit
    (by intro x hx; cases hx) (by intro k x hx; cases hx) (fun d out h => ⟨0, (q_ref01_digit_m 0 d).trans h⟩)

/- horologe/horologeref01.plus -/
@[reducible] def pi_ref01_plus : PSh := ⟨[], [.mk false [.v (.sl (.int .u64))], .mk false [.v (.sl (.int .u64))]]⟩
@[reducible] def po_ref01_plus : PSh := ⟨[.row 26 (.int .u64)], [.mk false [.osl 0]]⟩
@[reducible] def TT_ref01_plus : Type := (((((List Int) × Unit) × (((List Int) × Unit) × (((List Int) × Unit) × (Unit × ((Int × Unit) × ((Int × Unit) × Unit)))))) → Option (((List Int) × Unit) × (Unit × Unit))) × Unit)
@[reducible] def sh_ref01_plus_5 : PSh := ⟨[.row 26 (.int .u64)], [.mk false [.v (.sl (.int .u64))], .mk false [.v (.sl (.int .u64))], .any, .any, .any, .mk false [.osl 0], .mk false [.v (.int .u64)], .mk false [.v (.int .i64)], .any, .any, .any, .any, .any, .any, .any, .any, .any, .any, .any, .any, .any, .any, .any, .any, .any, .any, .any, .any, .any, .any, .any, .any, .any, .any, .any, .any, .any, .any, .any, .any, .any, .any]⟩
def f_ref01_plus_p5 (T : TT_ref01_plus) (d : ((List Int) × Unit) × (((List Int) × Unit) × (((List Int) × Unit) × (Unit × ((Int × Unit) × ((Int × Unit) × Unit)))))) : Option (((List Int) × Unit) × (Unit × Unit)) :=
  let x1 : Int := (d.2.1.1.length : Int)
  let x2 : Bool := (decide (d.2.2.2.2.2.1.1 < x1))
  bif x2 then (
  (g_ref01_digit ((), ((d.2.1.1, ()), ((d.2.2.2.2.2.1.1, ()), ())))).bind fun x3 =>
  (g_ref01_digit ((), ((d.2.2.1.1, ()), ((d.2.2.2.2.2.1.1, ()), ())))).bind fun x4 =>
  let x5 : Int := (iadd .u64 x3.2.1.1 x4.2.1.1)
  let x6 : Int := (iadd .u64 x5 d.2.2.2.2.1.1)
  let x7 : Int := (Int.tmod x6 (65536 : Int))
  let x8 : (List Int) := ([x7] : List Int)
  bif decide (((d.1.1.length + x8.length) * 8 : Nat) ≤ 140737488355328) && decide (d.1.1.length + x8.length ≤ 9223372036854775807) then (
  let x9 : (List Int) := (d.1.1 ++ x8)
  let x10 : Int := (iquo .u64 x6 (65536 : Int))
  let x11 : Int := (iadd .i64 d.2.2.2.2.2.1.1 (1 : Int))
  (T.1 ((x9, ()), ((d.2.1.1, ()), ((d.2.2.1.1, ()), ((), ((x10, ()), ((x11, ()), ()))))))))
  else none)
  else (
  let x12 : Int := (d.2.2.1.1.length : Int)
  let x13 : Bool := (decide (d.2.2.2.2.2.1.1 < x12))
  bif x13 then (
  (g_ref01_digit ((), ((d.2.1.1, ()), ((d.2.2.2.2.2.1.1, ()), ())))).bind fun x14 =>
  (g_ref01_digit ((), ((d.2.2.1.1, ()), ((d.2.2.2.2.2.1.1, ()), ())))).bind fun x15 =>
  let x16 : Int := (iadd .u64 x14.2.1.1 x15.2.1.1)
  let x17 : Int := (iadd .u64 x16 d.2.2.2.2.1.1)
  let x18 : Int := (Int.tmod x17 (65536 : Int))
  let x19 : (List Int) := ([x18] : List Int)
  bif decide (((d.1.1.length + x19.length) * 8 : Nat) ≤ 140737488355328) && decide (d.1.1.length + x19.length ≤ 9223372036854775807) then (
  let x20 : (List Int) := (d.1.1 ++ x19)
  let x21 : Int := (iquo .u64 x17 (65536 : Int))
  let x22 : Int := (iadd .i64 d.2.2.2.2.2.1.1 (1 : Int))
  (T.1 ((x20, ()), ((d.2.1.1, ()), ((d.2.2.1.1, ()), ((), ((x21, ()), ((x22, ()), ()))))))))
  else none)
  else (
  let x23 : Bool := (decide (d.2.2.2.2.1.1 > (0 : Int)))
  bif x23 then (
  (g_ref01_digit ((), ((d.2.1.1, ()), ((d.2.2.2.2.2.1.1, ()), ())))).bind fun x24 =>
  (g_ref01_digit ((), ((d.2.2.1.1, ()), ((d.2.2.2.2.2.1.1, ()), ())))).bind fun x25 =>
  let x26 : Int := (iadd .u64 x24.2.1.1 x25.2.1.1)
  let x27 : Int := (iadd .u64 x26 d.2.2.2.2.1.1)
  let x28 : Int := (Int.tmod x27 (65536 : Int))
  let x29 : (List Int) := ([x28] : List Int)
  bif decide (((d.1.1.length + x29.length) * 8 : Nat) ≤ 140737488355328) && decide (d.1.1.length + x29.length ≤ 9223372036854775807) then (
  let x30 : (List Int) := (d.1.1 ++ x29)
  let x31 : Int := (iquo .u64 x27 (65536 : Int))
  let x32 : Int := (iadd .i64 d.2.2.2.2.2.1.1 (1 : Int))
  (T.1 ((x30, ()), ((d.2.1.1, ()), ((d.2.2.1.1, ()), ((), ((x31, ()), ((x32, ()), ()))))))))
  else none)
  else (
  some ((d.1.1, ()), ((), ())))))
def f_ref01_plus_t : Nat → TT_ref01_plus
  | 0 => (fun _ => none, ())
  | k + 1 => (f_ref01_plus_p5 (f_ref01_plus_t k), ())
theorem t_ref01_plus (k : Nat) : f_ref01_plus_t (k + 1) = (f_ref01_plus_p5 (f_ref01_plus_t k), ()) := rfl
def f_ref01_plus_m (T : TT_ref01_plus) (d : Unit × (((List Int) × Unit) × (((List Int) × Unit) × Unit))) : Option (((List Int) × Unit) × (Unit × Unit)) :=
  (T.1 ((([] : List Int), ()), ((d.2.1.1, ()), ((d.2.2.1.1, ()), ((), (((0 : Int), ()), (((0 : Int), ()), ())))))))
def c_ref01_plus : List Nat := []
def L_ref01_plus (k : Nat) : Pts po_ref01_plus.den := [(5, ⟨sh_ref01_plus_5, (f_ref01_plus_t k).1⟩)]
def E_ref01_plus : Env := (E0.add 129 (typedSem pi_ref01_digit po_ref01_digit g_ref01_digit))
theorem q_ref01_plus_5 (k : Nat) (d : ((List Int) × Unit) × (((List Int) × Unit) × (((List Int) × Unit) × (Unit × ((Int × Unit) × ((Int × Unit) × Unit)))))) : evAt E_ref01_plus (tab (L_ref01_plus k)) c_ref01_plus 5 (bodyOf Try.f117) 0 (finK E_ref01_plus po_ref01_plus [.tmp 4]) (ptSt sh_ref01_plus_5 d) = f_ref01_plus_p5 (f_ref01_plus_t k) d := by kernel_rfl
theorem q_ref01_plus_m (k : Nat) (d : Unit × (((List Int) × Unit) × (((List Int) × Unit) × Unit))) : evCode E_ref01_plus (tab (L_ref01_plus k)) c_ref01_plus (bodyOf Try.f117) 0 (finK E_ref01_plus po_ref01_plus [.tmp 4]) (startSt pi_ref01_plus 42 d) = f_ref01_plus_m (f_ref01_plus_t k) d := by kernel_rfl
theorem go_ref01_plus (G : Unit × (((List Int) × Unit) × (((List Int) × Unit) × Unit)) → Option (((List Int) × Unit) × (Unit × Unit))) (hG : ∀ d out, G d = some out → ∃ k, f_ref01_plus_m (f_ref01_plus_t k) d = some out) : FnOk Try.prog ET0 117 pi_ref01_plus po_ref01_plus G :=
  fn_of_body (E := E_ref01_plus) (envOk_add e0_ok (typed_ok ok_ref01_digit)) (fn := Try.f117) Try.func117 (by kernel_rfl) (by kernel_rfl) [.tmp 4] (by kernel_rfl) (by kernel_rfl) (by decide) rfl c_ref01_plus L_ref01_plus
    (by intro x hx d; simp only [L_ref01_plus, List.mem_cons, List.not_mem_nil, or_false] at hx; subst hx; rfl)
    (by intro k x hx d out h; simp only [L_ref01_plus, List.mem_cons, List.not_mem_nil, or_false] at hx; subst hx; exact (q_ref01_plus_5 k d).trans h)
    (by intro d out h; obtain ⟨k, hk⟩ := hG d out h; exact ⟨k, (q_ref01_plus_m k d).trans hk⟩)
def g_ref01_plus (d : Unit × (((List Int) × Unit) × (((List Int) × Unit) × Unit))) : Option (((List Int) × Unit) × (Unit × Unit)) := lim fun k => f_ref01_plus_m (f_ref01_plus_t k) d
theorem ok_ref01_plus : FnOk Try.prog ET0 117 pi_ref01_plus po_ref01_plus g_ref01_plus := go_ref01_plus g_ref01_plus fun d out h => lim_some h

/- horologe/horologeref01.less -/
@[reducible] def pi_ref01_less : PSh := ⟨[], [.mk false [.v (.sl (.int .u64))], .mk false [.v (.sl (.int .u64))]]⟩
@[reducible] def po_ref01_less : PSh := ⟨[], [.mk false [.v .bool]]⟩
@[reducible] def TT_ref01_less : Type := (((Unit × (((List Int) × Unit) × (((List Int) × Unit) × ((Int × Unit) × Unit)))) → Option (Unit × ((Bool × Unit) × Unit))) × Unit)
@[reducible] def sh_ref01_less_3 : PSh := ⟨[], [.mk false [.v (.sl (.int .u64))], .mk false [.v (.sl (.int .u64))], .any, .any, .any, .mk false [.v (.int .i64)], .any, .any, .any, .any, .any, .any, .any, .any, .any, .any, .any, .any, .any, .any, .any, .any, .any, .any, .any, .any, .any, .any, .any, .any]⟩
def f_ref01_less_p3 (T : TT_ref01_less) (d : Unit × (((List Int) × Unit) × (((List Int) × Unit) × ((Int × Unit) × Unit)))) : Option (Unit × ((Bool × Unit) × Unit)) :=
  let x5 : Bool := (decide (d.2.2.2.1.1 ≥ (0 : Int)))
  bif x5 then (
  (g_ref01_digit ((), ((d.2.1.1, ()), ((d.2.2.2.1.1, ()), ())))).bind fun x6 =>
  (g_ref01_digit ((), ((d.2.2.1.1, ()), ((d.2.2.2.1.1, ()), ())))).bind fun x7 =>
  let x8 : Bool := (x6.2.1.1 != x7.2.1.1)
  bif x8 then (
  (g_ref01_digit ((), ((d.2.1.1, ()), ((d.2.2.2.1.1, ()), ())))).bind fun x9 =>
  (g_ref01_digit ((), ((d.2.2.1.1, ()), ((d.2.2.2.1.1, ()), ())))).bind fun x10 =>
  let x11 : Bool := (decide (x9.2.1.1 < x10.2.1.1))
  some ((), ((x11, ()), ())))
  else (
  let x12 : Int := (isub .i64 d.2.2.2.1.1 (1 : Int))
  (T.1 ((), ((d.2.1.1, ()), ((d.2.2.1.1, ()), ((x12, ()), ())))))))
  else (
  some ((), ((false, ()), ())))
def f_ref01_less_t : Nat → TT_ref01_less
  | 0 => (fun _ => none, ())
  | k + 1 => (f_ref01_less_p3 (f_ref01_less_t k), ())
theorem t_ref01_less (k : Nat) : f_ref01_less_t (k + 1) = (f_ref01_less_p3 (f_ref01_less_t k), ()) := rfl
def f_ref01_less_m (T : TT_ref01_less) (d : Unit × (((List Int) × Unit) × (((List Int) × Unit) × Unit))) : Option (Unit × ((Bool × Unit) × Unit)) :=
  let x1 : Int := (d.2.1.1.length : Int)
  let x2 : Int := (d.2.2.1.1.length : Int)
  let x3 : Int := (if x2 > x1 then x2 else x1)
  let x4 : Int := (isub .i64 x3 (1 : Int))
  (T.1 ((), ((d.2.1.1, ()), ((d.2.2.1.1, ()), ((x4, ()), ())))))
def c_ref01_less : List Nat := []
def L_ref01_less (k : Nat) : Pts po_ref01_less.den := [(3, ⟨sh_ref01_less_3, (f_ref01_less_t k).1⟩)]
def E_ref01_less : Env := (E0.add 129 (typedSem pi_ref01_digit po_ref01_digit g_ref01_digit))
theorem q_ref01_less_3 (k : Nat) (d : Unit × (((List Int) × Unit) × (((List Int) × Unit) × ((Int × Unit) × Unit)))) : evAt E_ref01_less (tab (L_ref01_less k)) c_ref01_less 3 (bodyOf Try.f118) 0 (finK E_ref01_less po_ref01_less [.tmp 4]) (ptSt sh_ref01_less_3 d) = f_ref01_less_p3 (f_ref01_less_t k) d := by kernel_rfl
theorem q_ref01_less_m (k : Nat) (d : Unit × (((List Int) × Unit) × (((List Int) × Unit) × Unit))) : evCode E_ref01_less (tab (L_ref01_less k)) c_ref01_less (bodyOf Try.f118) 0 (finK E_ref01_less po_ref01_less [.tmp 4]) (startSt pi_ref01_less 30 d) = f_ref01_less_m (f_ref01_less_t k) d := by kernel_rfl
theorem go_ref01_less (G : Unit × (((List Int) × Unit) × (((List Int) × Unit) × Unit)) → Option (Unit × ((Bool × Unit) × Unit))) (hG : ∀ d out, G d = some out → ∃ k, f_ref01_less_m (f_ref01_less_t k) d = some out) : FnOk Try.prog ET0 118 pi_ref01_less po_ref01_less G :=
  fn_of_body (E := E_ref01_less) (envOk_add e0_ok (typed_ok ok_ref01_digit)) (fn := Try.f118) Try.func118 (by kernel_rfl) (by kernel_rfl) [.tmp 4] (by kernel_rfl) (by kernel_rfl) (by decide) rfl c_ref01_less L_ref01_less
    (by intro x hx d; simp only [L_ref01_less, List.mem_cons, List.not_mem_nil, or_false] at hx; subst hx; rfl)
    (by intro k x hx d out h; simp only [L_ref01_less, List.mem_cons, List.not_mem_nil, or_false] at hx; subst hx; exact (q_ref01_less_3 k d).trans h)
    (by intro d out h; obtain ⟨k, hk⟩ := hG d out h; exact ⟨k, (q_ref01_less_m k d).trans hk⟩)
def g_ref01_less (d : Unit × (((List Int) × Unit) × (((List Int) × Unit) × Unit))) : Option (Unit × ((Bool × Unit) × Unit)) := lim fun k => f_ref01_less_m (f_ref01_less_t k) d
theorem ok_ref01_less : FnOk Try.prog ET0 118 pi_ref01_less po_ref01_less g_ref01_less := go_ref01_less g_ref01_less fun d out h => lim_some h

/- horologe/horologeref01.cut -/
@[reducible] def pi_ref01_cut : PSh := ⟨[], [.mk false [.v (.sl (.int .u64))]]⟩
@[reducible] def po_ref01_cut : PSh := ⟨[], [.mk false [.v (.sl (.int .u64))]]⟩
@[reducible] def TT_ref01_cut : Type := (((Unit × (((List Int) × Unit) × Unit)) → Option (Unit × (((List Int) × Unit) × Unit))) × Unit)
@[reducible] def sh_ref01_cut_2 : PSh := ⟨[], [.mk false [.v (.sl (.int .u64))], .any, .any, .any, .any, .any, .any, .any, .any, .any, .any, .any, .any, .any, .any, .any, .any, .any, .any, .any, .any]⟩
def f_ref01_cut_p2 (T : TT_ref01_cut) (d : Unit × (((List Int) × Unit) × Unit)) : Option (Unit × (((List Int) × Unit) × Unit)) :=
  let x1 : Int := (d.2.1.1.length : Int)
  let x2 : Bool := (decide (x1 > (0 : Int)))
  bif x2 then (
  let x3 : Int := (d.2.1.1.length : Int)
  let x4 : Int := (isub .i64 x3 (1 : Int))
  bif decide ((0 : Int) ≤ x4) && decide (x4 < (d.2.1.1.length : Int)) then (
  let x5 : Bool := ((gd (.int .u64) d.2.1.1 x4) == (0 : Int))
  bif x5 then (
  let x6 : Int := (d.2.1.1.length : Int)
  let x7 : Int := (isub .i64 x6 (1 : Int))
  bif decide ((0 : Int) ≤ (0 : Int)) && decide ((0 : Int) ≤ x7) && decide (x7 ≤ (d.2.1.1.length : Int)) then (
  let x8 : (List Int) := (List.drop (Int.toNat (0 : Int)) (List.take (Int.toNat x7) d.2.1.1))
  (T.1 ((), ((x8, ()), ()))))
  else none)
  else (
  some ((), ((d.2.1.1, ()), ()))))
  else none)
  else (
  some ((), ((d.2.1.1, ()), ())))
def f_ref01_cut_t : Nat → TT_ref01_cut
  | 0 => (fun _ => none, ())
  | k + 1 => (f_ref01_cut_p2 (f_ref01_cut_t k), ())
theorem t_ref01_cut (k : Nat) : f_ref01_cut_t (k + 1) = (f_ref01_cut_p2 (f_ref01_cut_t k), ()) := rfl
def f_ref01_cut_m (T : TT_ref01_cut) (d : Unit × (((List Int) × Unit) × Unit)) : Option (Unit × (((List Int) × Unit) × Unit)) :=
  (T.1 ((), ((d.2.1.1, ()), ())))
def c_ref01_cut : List Nat := []
def L_ref01_cut (k : Nat) : Pts po_ref01_cut.den := [(2, ⟨sh_ref01_cut_2, (f_ref01_cut_t k).1⟩)]
def E_ref01_cut : Env := E0
theorem q_ref01_cut_2 (k : Nat) (d : Unit × (((List Int) × Unit) × Unit)) : evAt E_ref01_cut (tab (L_ref01_cut k)) c_ref01_cut 2 (bodyOf Try.f130) 0 (finK E_ref01_cut po_ref01_cut [.tmp 2]) (ptSt sh_ref01_cut_2 d) = f_ref01_cut_p2 (f_ref01_cut_t k) d := by kernel_rfl
theorem q_ref01_cut_m (k : Nat) (d : Unit × (((List Int) × Unit) × Unit)) : evCode E_ref01_cut (tab (L_ref01_cut k)) c_ref01_cut (bodyOf Try.f130) 0 (finK E_ref01_cut po_ref01_cut [.tmp 2]) (startSt pi_ref01_cut 21 d) = f_ref01_cut_m (f_ref01_cut_t k) d := by kernel_rfl
theorem go_ref01_cut (G : Unit × (((List Int) × Unit) × Unit) → Option (Unit × (((List Int) × Unit) × Unit))) (hG : ∀ d out, G d = some out → ∃ k, f_ref01_cut_m (f_ref01_cut_t k) d = some out) : FnOk Try.prog ET0 130 pi_ref01_cut po_ref01_cut G :=
  fn_of_body (E := E_ref01_cut) e0_ok (fn := Try.f130) Try.func130 (by kernel_rfl) (by kernel_rfl) [.tmp 2] (by kernel_rfl) (by kernel_rfl) (by decide) rfl c_ref01_cut L_ref01_cut
    (by intro x hx d; simp only [L_ref01_cut, List.mem_cons, List.not_mem_nil, or_false] at hx; subst hx; rfl)
    (by intro k x hx d out h; simp only [L_ref01_cut, List.mem_cons, List.not_mem_nil, or_false] at hx; subst hx; exact (q_ref01_cut_2 k d).trans h)
    (by intro d out h; obtain ⟨k, hk⟩ := hG d out h; exact ⟨k, (q_ref01_cut_m k d).trans hk⟩)
def g_ref01_cut (d : Unit × (((List Int) × Unit) × Unit)) : Option (Unit × (((List Int) × Unit) × Unit)) := lim fun k => f_ref01_cut_m (f_ref01_cut_t k) d
theorem ok_ref01_cut : FnOk Try.prog ET0 130 pi_ref01_cut po_ref01_cut g_ref01_cut := go_ref01_cut g_ref01_cut fun d out h => lim_some h

/- horologe/horologeref01.minus -/
@[reducible] def pi_ref01_minus : PSh := ⟨[], [.mk false [.v (.sl (.int .u64))], .mk false [.v (.sl (.int .u64))]]⟩
@[reducible] def po_ref01_minus : PSh := ⟨[], [.mk false [.v (.sl (.int .u64))]]⟩
@[reducible] def TT_ref01_minus : Type := (((((List Int) × Unit) × (((List Int) × Unit) × (((List Int) × Unit) × (Unit × ((Int × Unit) × ((Int × Unit) × Unit)))))) → Option (Unit × (((List Int) × Unit) × Unit))) × Unit)
@[reducible] def sh_ref01_minus_5 : PSh := ⟨[.row 26 (.int .u64)], [.mk false [.v (.sl (.int .u64))], .mk false [.v (.sl (.int .u64))], .any, .any, .any, .mk false [.osl 0], .mk false [.v (.int .u64)], .mk false [.v (.int .i64)], .any, .any, .any, .any, .any, .any, .any, .any, .any, .any, .any, .any, .any, .any, .any, .any, .any, .any, .any, .any, .any, .any, .any, .any, .any, .any, .any]⟩
def f_ref01_minus_p5 (T : TT_ref01_minus) (d : ((List Int) × Unit) × (((List Int) × Unit) × (((List Int) × Unit) × (Unit × ((Int × Unit) × ((Int × Unit) × Unit)))))) : Option (Unit × (((List Int) × Unit) × Unit)) :=
  let x1 : Int := (d.2.1.1.length : Int)
  let x2 : Bool := (decide (d.2.2.2.2.2.1.1 < x1))
  bif x2 then (
  (g_ref01_digit ((), ((d.2.1.1, ()), ((d.2.2.2.2.2.1.1, ()), ())))).bind fun x3 =>
  let x4 : Int := (iadd .u64 (65536 : Int) x3.2.1.1)
  (g_ref01_digit ((), ((d.2.2.1.1, ()), ((d.2.2.2.2.2.1.1, ()), ())))).bind fun x5 =>
  let x6 : Int := (isub .u64 x4 x5.2.1.1)
  let x7 : Int := (isub .u64 x6 d.2.2.2.2.1.1)
  let x8 : Int := (Int.tmod x7 (65536 : Int))
  let x9 : (List Int) := ([x8] : List Int)
  bif decide (((d.1.1.length + x9.length) * 8 : Nat) ≤ 140737488355328) && decide (d.1.1.length + x9.length ≤ 9223372036854775807) then (
  let x10 : (List Int) := (d.1.1 ++ x9)
  let x11 : Int := (iquo .u64 x7 (65536 : Int))
  let x12 : Int := (isub .u64 (1 : Int) x11)
  let x13 : Int := (iadd .i64 d.2.2.2.2.2.1.1 (1 : Int))
  (T.1 ((x10, ()), ((d.2.1.1, ()), ((d.2.2.1.1, ()), ((), ((x12, ()), ((x13, ()), ()))))))))
  else none)
  else (
  (g_ref01_cut ((), ((d.1.1, ()), ()))).bind fun x14 =>
  some ((), ((x14.2.1.1, ()), ())))
def f_ref01_minus_t : Nat → TT_ref01_minus
  | 0 => (fun _ => none, ())
  | k + 1 => (f_ref01_minus_p5 (f_ref01_minus_t k), ())
theorem t_ref01_minus (k : Nat) : f_ref01_minus_t (k + 1) = (f_ref01_minus_p5 (f_ref01_minus_t k), ()) := rfl
def f_ref01_minus_m (T : TT_ref01_minus) (d : Unit × (((List Int) × Unit) × (((List Int) × Unit) × Unit))) : Option (Unit × (((List Int) × Unit) × Unit)) :=
  (T.1 ((([] : List Int), ()), ((d.2.1.1, ()), ((d.2.2.1.1, ()), ((), (((0 : Int), ()), (((0 : Int), ()), ())))))))
def c_ref01_minus : List Nat := []
def L_ref01_minus (k : Nat) : Pts po_ref01_minus.den := [(5, ⟨sh_ref01_minus_5, (f_ref01_minus_t k).1⟩)]
def E_ref01_minus : Env := (((E0.add 129 (typedSem pi_ref01_digit po_ref01_digit g_ref01_digit)).add 130 (typedSem pi_ref01_cut po_ref01_cut g_ref01_cut)).fr [(34, [33])])
theorem q_ref01_minus_5 (k : Nat) (d : ((List Int) × Unit) × (((List Int) × Unit) × (((List Int) × Unit) × (Unit × ((Int × Unit) × ((Int × Unit) × Unit)))))) : evAt E_ref01_minus (tab (L_ref01_minus k)) c_ref01_minus 5 (bodyOf Try.f119) 0 (finK E_ref01_minus po_ref01_minus [.tmp 4]) (ptSt sh_ref01_minus_5 d) = f_ref01_minus_p5 (f_ref01_minus_t k) d := by kernel_rfl
theorem q_ref01_minus_m (k : Nat) (d : Unit × (((List Int) × Unit) × (((List Int) × Unit) × Unit))) : evCode E_ref01_minus (tab (L_ref01_minus k)) c_ref01_minus (bodyOf Try.f119) 0 (finK E_ref01_minus po_ref01_minus [.tmp 4]) (startSt pi_ref01_minus 35 d) = f_ref01_minus_m (f_ref01_minus_t k) d := by kernel_rfl
theorem go_ref01_minus (G : Unit × (((List Int) × Unit) × (((List Int) × Unit) × Unit)) → Option (Unit × (((List Int) × Unit) × Unit))) (hG : ∀ d out, G d = some out → ∃ k, f_ref01_minus_m (f_ref01_minus_t k) d = some out) : FnOk Try.prog ET0 119 pi_ref01_minus po_ref01_minus G :=
  fn_of_body (E := E_ref01_minus) (envOk_fr (envOk_add (envOk_add e0_ok (typed_ok ok_ref01_digit)) (typed_ok ok_ref01_cut))) (fn := Try.f119) Try.func119 (by kernel_rfl) (by kernel_rfl) [.tmp 4] (by kernel_rfl) (by kernel_rfl) (by decide) rfl c_ref01_minus L_ref01_minus
    (by intro x hx d; simp only [L_ref01_minus, List.mem_cons, List.not_mem_nil, or_false] at hx; subst hx; rfl)
    (by intro k x hx d out h; simp only [L_ref01_minus, List.mem_cons, List.not_mem_nil, or_false] at hx; subst hx; exact (q_ref01_minus_5 k d).trans h)
    (by intro d out h; obtain ⟨k, hk⟩ := hG d out h; exact ⟨k, (q_ref01_minus_m k d).trans hk⟩)
def g_ref01_minus (d : Unit × (((List Int) × Unit) × (((List Int) × Unit) × Unit))) : Option (Unit × (((List Int) × Unit) × Unit)) := lim fun k => f_ref01_minus_m (f_ref01_minus_t k) d
theorem ok_ref01_minus : FnOk Try.prog ET0 119 pi_ref01_minus po_ref01_minus g_ref01_minus := go_ref01_minus g_ref01_minus fun d out h => lim_some h

/- horologe/horologeref01.Plus -/
@[reducible] def pi_ref01_Plus : PSh := ⟨[], [.mk true [.v .bool, .v (.sl (.int .u64))], .mk true [.v .bool, .v (.sl (.int .u64))]]⟩
@[reducible] def po_ref01_Plus : PSh := ⟨[], [.mk true [.v .bool, .v (.sl (.int .u64))]]⟩
def f_ref01_Plus_m (T : Unit) (d : Unit × ((Bool × ((List Int) × Unit)) × ((Bool × ((List Int) × Unit)) × Unit))) : Option (Unit × ((Bool × ((List Int) × Unit)) × Unit)) :=
  let x1 : Bool := (d.2.1.1 == d.2.2.1.1)
  bif x1 then (
  (g_ref01_plus ((), ((d.2.1.2.1, ()), ((d.2.2.1.2.1, ()), ())))).bind fun x2 =>
  some ((), ((d.2.1.1, (x2.1.1, ())), ())))
  else (
  (g_ref01_less ((), ((d.2.1.2.1, ()), ((d.2.2.1.2.1, ()), ())))).bind fun x3 =>
  bif x3.2.1.1 then (
  (g_ref01_minus ((), ((d.2.2.1.2.1, ()), ((d.2.1.2.1, ()), ())))).bind fun x4 =>
  some ((), ((d.2.2.1.1, (x4.2.1.1, ())), ())))
  else (
  (g_ref01_minus ((), ((d.2.1.2.1, ()), ((d.2.2.1.2.1, ()), ())))).bind fun x5 =>
  bif d.2.1.1 then (
  let x6 : Int := (x5.2.1.1.length : Int)
  let x7 : Bool := (decide (x6 > (0 : Int)))
  some ((), ((x7, (x5.2.1.1, ())), ())))
  else (
  some ((), ((false, (x5.2.1.1, ())), ())))))
def c_ref01_Plus : List Nat := []
def L_ref01_Plus (_ : Nat) : Pts po_ref01_Plus.den := []
def E_ref01_Plus : Env := (((E0.add 117 (typedSem pi_ref01_plus po_ref01_plus g_ref01_plus)).add 118 (typedSem pi_ref01_less po_ref01_less g_ref01_less)).add 119 (typedSem pi_ref01_minus po_ref01_minus g_ref01_minus))
theorem q_ref01_Plus_m (k : Nat) (d : Unit × ((Bool × ((List Int) × Unit)) × ((Bool × ((List Int) × Unit)) × Unit))) : evCode E_ref01_Plus (tab (L_ref01_Plus k)) c_ref01_Plus (bodyOf Try.f80) 0 (finK E_ref01_Plus po_ref01_Plus [.cell 4 129]) (startSt pi_ref01_Plus 46 d) = f_ref01_Plus_m () d := by kernel_rfl
def g_ref01_Plus (d : Unit × ((Bool × ((List Int) × Unit)) × ((Bool × ((List Int) × Unit)) × Unit))) : Option (Unit × ((Bool × ((List Int) × Unit)) × Unit)) := f_ref01_Plus_m () d
theorem ok_ref01_Plus : FnOk Try.prog ET0 80 pi_ref01_Plus po_ref01_Plus g_ref01_Plus :=
  fn_of_body (E := E_ref01_Plus) (envOk_add (envOk_add (envOk_add e0_ok (typed_ok ok_ref01_plus)) (typed_ok ok_ref01_less)) (typed_ok ok_ref01_minus)) (fn := Try.f80) Try.func80 (by kernel_rfl) (by kernel_rfl) [.cell 4 129] (by kernel_rfl) (by kernel_rfl) (by decide) rfl c_ref01_Plus L_ref01_Plus
    (by intro x hx; cases hx) (by intro k x hx; cases hx) (fun d out h => ⟨0, (q_ref01_Plus_m 0 d).trans h⟩)

/- horologe/horologeref01.Minus -/
@[reducible] def pi_ref01_Minus : PSh := ⟨[], [.mk true [.v .bool, .v (.sl (.int .u64))]]⟩
@[reducible] def po_ref01_Minus : PSh := ⟨[], [.mk true [.v .bool, .v (.sl (.int .u64))]]⟩
def f_ref01_Minus_m (T : Unit) (d : Unit × ((Bool × ((List Int) × Unit)) × Unit)) : Option (Unit × ((Bool × ((List Int) × Unit)) × Unit)) :=
  let x1 : Bool := (!d.2.1.1)
  bif x1 then (
  let x2 : Int := (d.2.1.2.1.length : Int)
  let x3 : Bool := (decide (x2 > (0 : Int)))
  some ((), ((x3, (d.2.1.2.1, ())), ())))
  else (
  some ((), ((false, (d.2.1.2.1, ())), ())))
def c_ref01_Minus : List Nat := []
def L_ref01_Minus (_ : Nat) : Pts po_ref01_Minus.den := []
def E_ref01_Minus : Env := E0
theorem q_ref01_Minus_m (k : Nat) (d : Unit × ((Bool × ((List Int) × Unit)) × Unit)) : evCode E_ref01_Minus (tab (L_ref01_Minus k)) c_ref01_Minus (bodyOf Try.f81) 0 (finK E_ref01_Minus po_ref01_Minus [.cell 2 129]) (startSt pi_ref01_Minus 15 d) = f_ref01_Minus_m () d := by kernel_rfl
def g_ref01_Minus (d : Unit × ((Bool × ((List Int) × Unit)) × Unit)) : Option (Unit × ((Bool × ((List Int) × Unit)) × Unit)) := f_ref01_Minus_m () d
theorem ok_ref01_Minus : FnOk Try.prog ET0 81 pi_ref01_Minus po_ref01_Minus g_ref01_Minus :=
  fn_of_body (E := E_ref01_Minus) e0_ok (fn := Try.f81) Try.func81 (by kernel_rfl) (by kernel_rfl) [.cell 2 129] (by kernel_rfl) (by kernel_rfl) (by decide) rfl c_ref01_Minus L_ref01_Minus
    (by intro x hx; cases hx) (by intro k x hx; cases hx) (fun d out h => ⟨0, (q_ref01_Minus_m 0 d).trans h⟩)

/- horologe/horologeref13.Power -/
@[reducible] def pi_ref13_Power : PSh := ⟨[], [.mk false [.v (.int .i64)]]⟩
@[reducible] def po_ref13_Power : PSh := ⟨[], [.mk true [.v .bool, .v (.sl (.int .u64))]]⟩
@[reducible] def TT_ref13_Power : Type := (((((Bool × Unit) × ((List Int) × ((Bool × ((List Int) × Unit)) × Unit))) × ((Int × Unit) × (Unit × (Unit × ((Int × Unit) × Unit))))) → Option (Unit × ((Bool × ((List Int) × Unit)) × Unit))) × Unit)
@[reducible] def sh_ref13_Power_4 : PSh := ⟨[.var 129 [.v .bool, .osl 1], .row 26 (.int .u64), .var 129 [.v .bool, .v (.sl (.int .u64))]], [.mk false [.v (.int .i64)], .any, .mk false [.ref 0 0], .mk false [.ref 2 0], .mk false [.v (.int .i64)], .any, .any, .any, .any, .any, .any, .any, .any, .any, .any]⟩
def f_ref13_Power_p4 (T : TT_ref13_Power) (d : ((Bool × Unit) × ((List Int) × ((Bool × ((List Int) × Unit)) × Unit))) × ((Int × Unit) × (Unit × (Unit × ((Int × Unit) × Unit))))) : Option (Unit × ((Bool × ((List Int) × Unit)) × Unit)) :=
  let x2 : Bool := (decide (d.2.2.2.2.1.1 < d.2.1.1))
  bif x2 then (
  (g_ref01_Plus ((), ((d.1.2.2.1.1, (d.1.2.2.1.2.1, ())), ((d.1.2.2.1.1, (d.1.2.2.1.2.1, ())), ())))).bind fun x3 =>
  let x4 : Int := (iadd .i64 d.2.2.2.2.1.1 (1 : Int))
  (T.1 (((d.1.1.1, ()), (d.1.2.1, ((x3.2.1.1, (x3.2.1.2.1, ())), ()))), ((d.2.1.1, ()), ((), ((), ((x4, ()), ())))))))
  else (
  some ((), ((d.1.2.2.1.1, (d.1.2.2.1.2.1, ())), ())))
def f_ref13_Power_t : Nat → TT_ref13_Power
  | 0 => (fun _ => none, ())
  | k + 1 => (f_ref13_Power_p4 (f_ref13_Power_t k), ())
theorem t_ref13_Power (k : Nat) : f_ref13_Power_t (k + 1) = (f_ref13_Power_p4 (f_ref13_Power_t k), ()) := rfl
def f_ref13_Power_m (T : TT_ref13_Power) (d : Unit × ((Int × Unit) × Unit)) : Option (Unit × ((Bool × ((List Int) × Unit)) × Unit)) :=
  (g_ref01_Of ((), (((1 : Int), ()), ()))).bind fun x1 =>
  (T.1 (((false, ()), (([] : List Int), ((x1.2.1.1, (x1.1.1, ())), ()))), ((d.2.1.1, ()), ((), ((), (((0 : Int), ()), ()))))))
def c_ref13_Power : List Nat := []
def L_ref13_Power (k : Nat) : Pts po_ref13_Power.den := [(4, ⟨sh_ref13_Power_4, (f_ref13_Power_t k).1⟩)]
def E_ref13_Power : Env := (((E0.add 79 (typedSem pi_ref01_Of po_ref01_Of g_ref01_Of)).add 80 (typedSem pi_ref01_Plus po_ref01_Plus g_ref01_Plus)).fr [(13, [11, 12])])
theorem q_ref13_Power_4 (k : Nat) (d : ((Bool × Unit) × ((List Int) × ((Bool × ((List Int) × Unit)) × Unit))) × ((Int × Unit) × (Unit × (Unit × ((Int × Unit) × Unit))))) : evAt E_ref13_Power (tab (L_ref13_Power k)) c_ref13_Power 4 (bodyOf Try.f82) 0 (finK E_ref13_Power po_ref13_Power [.cell 2 129]) (ptSt sh_ref13_Power_4 d) = f_ref13_Power_p4 (f_ref13_Power_t k) d := by kernel_rfl
theorem q_ref13_Power_m (k : Nat) (d : Unit × ((Int × Unit) × Unit)) : evCode E_ref13_Power (tab (L_ref13_Power k)) c_ref13_Power (bodyOf Try.f82) 0 (finK E_ref13_Power po_ref13_Power [.cell 2 129]) (startSt pi_ref13_Power 15 d) = f_ref13_Power_m (f_ref13_Power_t k) d := by kernel_rfl
theorem go_ref13_Power (G : Unit × ((Int × Unit) × Unit) → Option (Unit × ((Bool × ((List Int) × Unit)) × Unit))) (hG : ∀ d out, G d = some out → ∃ k, f_ref13_Power_m (f_ref13_Power_t k) d = some out) : FnOk Try.prog ET0 82 pi_ref13_Power po_ref13_Power G :=
  fn_of_body (E := E_ref13_Power) (envOk_fr (envOk_add (envOk_add e0_ok (typed_ok ok_ref01_Of)) (typed_ok ok_ref01_Plus))) (fn := Try.f82) Try.func82 (by kernel_rfl) (by kernel_rfl) [.cell 2 129] (by kernel_rfl) (by kernel_rfl) (by decide) rfl c_ref13_Power L_ref13_Power
    (by intro x hx d; simp only [L_ref13_Power, List.mem_cons, List.not_mem_nil, or_false] at hx; subst hx; rfl)
    (by intro k x hx d out h; simp only [L_ref13_Power, List.mem_cons, List.not_mem_nil, or_false] at hx; subst hx; exact (q_ref13_Power_4 k d).trans h)
    (by intro d out h; obtain ⟨k, hk⟩ := hG d out h; exact ⟨k, (q_ref13_Power_m k d).trans hk⟩)
def g_ref13_Power (d : Unit × ((Int × Unit) × Unit)) : Option (Unit × ((Bool × ((List Int) × Unit)) × Unit)) := lim fun k => f_ref13_Power_m (f_ref13_Power_t k) d
theorem ok_ref13_Power : FnOk Try.prog ET0 82 pi_ref13_Power po_ref13_Power g_ref13_Power := go_ref13_Power g_ref13_Power fun d out h => lim_some h

/- horologe/horologeref01.Less -/
@[reducible] def pi_ref01_Less : PSh := ⟨[], [.mk true [.v .bool, .v (.sl (.int .u64))], .mk true [.v .bool, .v (.sl (.int .u64))]]⟩
@[reducible] def po_ref01_Less : PSh := ⟨[], [.mk false [.v .bool]]⟩
def f_ref01_Less_m (T : Unit) (d : Unit × ((Bool × ((List Int) × Unit)) × ((Bool × ((List Int) × Unit)) × Unit))) : Option (Unit × ((Bool × Unit) × Unit)) :=
  let x1 : Bool := (!(d.2.1.1 == d.2.2.1.1))
  bif x1 then (
  some ((), ((d.2.1.1, ()), ())))
  else (
  bif d.2.1.1 then (
  (g_ref01_less ((), ((d.2.2.1.2.1, ()), ((d.2.1.2.1, ()), ())))).bind fun x2 =>
  some ((), ((x2.2.1.1, ()), ())))
  else (
  (g_ref01_less ((), ((d.2.1.2.1, ()), ((d.2.2.1.2.1, ()), ())))).bind fun x3 =>
  some ((), ((x3.2.1.1, ()), ()))))
def c_ref01_Less : List Nat := []
def L_ref01_Less (_ : Nat) : Pts po_ref01_Less.den := []
def E_ref01_Less : Env := (E0.add 118 (typedSem pi_ref01_less po_ref01_less g_ref01_less))
theorem q_ref01_Less_m (k : Nat) (d : Unit × ((Bool × ((List Int) × Unit)) × ((Bool × ((List Int) × Unit)) × Unit))) : evCode E_ref01_Less (tab (L_ref01_Less k)) c_ref01_Less (bodyOf Try.f120) 0 (finK E_ref01_Less po_ref01_Less [.tmp 4]) (startSt pi_ref01_Less 24 d) = f_ref01_Less_m () d := by kernel_rfl
def g_ref01_Less (d : Unit × ((Bool × ((List Int) × Unit)) × ((Bool × ((List Int) × Unit)) × Unit))) : Option (Unit × ((Bool × Unit) × Unit)) := f_ref01_Less_m () d
theorem ok_ref01_Less : FnOk Try.prog ET0 120 pi_ref01_Less po_ref01_Less g_ref01_Less :=
  fn_of_body (E := E_ref01_Less) (envOk_add e0_ok (typed_ok ok_ref01_less)) (fn := Try.f120) Try.func120 (by kernel_rfl) (by kernel_rfl) [.tmp 4] (by kernel_rfl) (by kernel_rfl) (by decide) rfl c_ref01_Less L_ref01_Less
    (by intro x hx; cases hx) (by intro k x hx; cases hx) (fun d out h => ⟨0, (q_ref01_Less_m 0 d).trans h⟩)

/- horologe/horologeref13.Near -/
@[reducible] def pi_ref13_Near : PSh := ⟨[], [.mk true [.v .bool, .v (.sl (.int .u64))], .mk true [.v .bool, .v (.sl (.int .u64))], .mk false [.v (.int .i64)]]⟩
@[reducible] def po_ref13_Near : PSh := ⟨[], [.mk false [.v .bool]]⟩
def f_ref13_Near_m (T : Unit) (d : Unit × ((Bool × ((List Int) × Unit)) × ((Bool × ((List Int) × Unit)) × ((Int × Unit) × Unit)))) : Option (Unit × ((Bool × Unit) × Unit)) :=
  let x1 : Int := (isub .i64 d.2.2.2.1.1 (1 : Int))
  (g_ref13_Power ((), ((x1, ()), ()))).bind fun x2 =>
  (g_ref01_Minus ((), ((x2.2.1.1, (x2.2.1.2.1, ())), ()))).bind fun x3 =>
  (g_ref01_Plus ((), ((d.2.2.1.1, (d.2.2.1.2.1, ())), ((x3.2.1.1, (x3.2.1.2.1, ())), ())))).bind fun x4 =>
  (g_ref01_Less ((), ((d.2.1.1, (d.2.1.2.1, ())), ((x4.2.1.1, (x4.2.1.2.1, ())), ())))).bind fun x5 =>
  let x6 : Bool := (!x5.2.1.1)
  bif x6 then (
  (g_ref01_Plus ((), ((d.2.2.1.1, (d.2.2.1.2.1, ())), ((x2.2.1.1, (x2.2.1.2.1, ())), ())))).bind fun x7 =>
  (g_ref01_Less ((), ((d.2.1.1, (d.2.1.2.1, ())), ((x7.2.1.1, (x7.2.1.2.1, ())), ())))).bind fun x8 =>
  some ((), ((x8.2.1.1, ()), ())))
  else (
  some ((), ((false, ()), ())))
def c_ref13_Near : List Nat := []
def L_ref13_Near (_ : Nat) : Pts po_ref13_Near.den := []
def E_ref13_Near : Env := ((((E0.add 80 (typedSem pi_ref01_Plus po_ref01_Plus g_ref01_Plus)).add 81 (typedSem pi_ref01_Minus po_ref01_Minus g_ref01_Minus)).add 82 (typedSem pi_ref13_Power po_ref13_Power g_ref13_Power)).add 120 (typedSem pi_ref01_Less po_ref01_Less g_ref01_Less))
theorem q_ref13_Near_m (k : Nat) (d : Unit × ((Bool × ((List Int) × Unit)) × ((Bool × ((List Int) × Unit)) × ((Int × Unit) × Unit)))) : evCode E_ref13_Near (tab (L_ref13_Near k)) c_ref13_Near (bodyOf Try.f83) 0 (finK E_ref13_Near po_ref13_Near [.tmp 6]) (startSt pi_ref13_Near 25 d) = f_ref13_Near_m () d := by kernel_rfl
def g_ref13_Near (d : Unit × ((Bool × ((List Int) × Unit)) × ((Bool × ((List Int) × Unit)) × ((Int × Unit) × Unit)))) : Option (Unit × ((Bool × Unit) × Unit)) := f_ref13_Near_m () d
theorem ok_ref13_Near : FnOk Try.prog ET0 83 pi_ref13_Near po_ref13_Near g_ref13_Near :=
  fn_of_body (E := E_ref13_Near) (envOk_add (envOk_add (envOk_add (envOk_add e0_ok (typed_ok ok_ref01_Plus)) (typed_ok ok_ref01_Minus)) (typed_ok ok_ref13_Power)) (typed_ok ok_ref01_Less)) (fn := Try.f83) Try.func83 (by kernel_rfl) (by kernel_rfl) [.tmp 6] (by kernel_rfl) (by kernel_rfl) (by decide) rfl c_ref13_Near L_ref13_Near
    (by intro x hx; cases hx) (by intro k x hx; cases hx) (fun d out h => ⟨0, (q_ref13_Near_m 0 d).trans h⟩)

/- horologe/horologeref01.Small -/
@[reducible] def pi_ref01_Small : PSh := ⟨[], [.mk true [.v .bool, .v (.sl (.int .u64))]]⟩
@[reducible] def po_ref01_Small : PSh := ⟨[], [.mk false [.v (.int .i64)], .mk false [.v (.int .i64)]]⟩
@[reducible] def TT_ref01_Small : Type := (((((Bool × ((List Int) × Unit)) × Unit) × (Unit × ((Int × Unit) × ((Int × Unit) × Unit)))) → Option (Unit × ((Int × Unit) × ((Int × Unit) × Unit)))) × Unit)
@[reducible] def sh_ref01_Small_8 : PSh := ⟨[.var 129 [.v .bool, .v (.sl (.int .u64))]], [.any, .mk false [.ref 0 0], .any, .any, .any, .any, .mk false [.v (.int .i64)], .mk false [.v (.int .i64)], .any, .any, .any, .any, .any, .any, .any, .any, .any, .any, .any, .any, .any, .any, .any, .any, .any, .any, .any, .any, .any, .any, .any, .any, .any, .any, .any, .any, .any, .any, .any, .any, .any, .any, .any, .any, .any, .any, .any]⟩
def f_ref01_Small_p8 (T : TT_ref01_Small) (d : ((Bool × ((List Int) × Unit)) × Unit) × (Unit × ((Int × Unit) × ((Int × Unit) × Unit)))) : Option (Unit × ((Int × Unit) × ((Int × Unit) × Unit))) :=
  let x7 : Bool := (decide (d.2.2.2.1.1 ≥ (0 : Int)))
  bif x7 then (
  let x8 : Int := (imul .i64 d.2.2.1.1 (65536 : Int))
  bif d.1.1.1 then (
  bif decide ((0 : Int) ≤ d.2.2.2.1.1) && decide (d.2.2.2.1.1 < (d.1.1.2.1.length : Int)) then (
  let x9 : Int := (iconv .i64 (gd (.int .u64) d.1.1.2.1 d.2.2.2.1.1))
  let x10 : Int := (isub .i64 x8 x9)
  let x11 : Int := (isub .i64 d.2.2.2.1.1 (1 : Int))
  (T.1 (((d.1.1.1, (d.1.1.2.1, ())), ()), ((), ((x10, ()), ((x11, ()), ()))))))
  else none)
  else (
  bif decide ((0 : Int) ≤ d.2.2.2.1.1) && decide (d.2.2.2.1.1 < (d.1.1.2.1.length : Int)) then (
  let x12 : Int := (iconv .i64 (gd (.int .u64) d.1.1.2.1 d.2.2.2.1.1))
  let x13 : Int := (iadd .i64 x8 x12)
  let x14 : Int := (isub .i64 d.2.2.2.1.1 (1 : Int))
  (T.1 (((d.1.1.1, (d.1.1.2.1, ())), ()), ((), ((x13, ()), ((x14, ()), ()))))))
  else none))
  else (
  some ((), ((d.2.2.1.1, ()), (((0 : Int), ()), ()))))
def f_ref01_Small_t : Nat → TT_ref01_Small
  | 0 => (fun _ => none, ())
  | k + 1 => (f_ref01_Small_p8 (f_ref01_Small_t k), ())
theorem t_ref01_Small (k : Nat) : f_ref01_Small_t (k + 1) = (f_ref01_Small_p8 (f_ref01_Small_t k), ()) := rfl
def f_ref01_Small_m (T : TT_ref01_Small) (d : Unit × ((Bool × ((List Int) × Unit)) × Unit)) : Option (Unit × ((Int × Unit) × ((Int × Unit) × Unit))) :=
  (g_ref01_Of ((), (((-9223372036854775808 : Int), ()), ()))).bind fun x1 =>
  (g_ref01_Of ((), (((9223372036854775807 : Int), ()), ()))).bind fun x2 =>
  (g_ref01_Less ((), ((d.2.1.1, (d.2.1.2.1, ())), ((x1.2.1.1, (x1.1.1, ())), ())))).bind fun x3 =>
  bif x3.2.1.1 then (
  some ((), (((0 : Int), ()), (((5 : Int), ()), ()))))
  else (
  (g_ref01_Less ((), ((x2.2.1.1, (x2.1.1, ())), ((d.2.1.1, (d.2.1.2.1, ())), ())))).bind fun x4 =>
  bif x4.2.1.1 then (
  some ((), (((0 : Int), ()), (((5 : Int), ()), ()))))
  else (
  let x5 : Int := (d.2.1.2.1.length : Int)
  let x6 : Int := (isub .i64 x5 (1 : Int))
  (T.1 (((d.2.1.1, (d.2.1.2.1, ())), ()), ((), (((0 : Int), ()), ((x6, ()), ())))))))
def c_ref01_Small : List Nat := []
def L_ref01_Small (k : Nat) : Pts po_ref01_Small.den := [(8, ⟨sh_ref01_Small_8, (f_ref01_Small_t k).1⟩)]
def E_ref01_Small : Env := ((E0.add 79 (typedSem pi_ref01_Of po_ref01_Of g_ref01_Of)).add 120 (typedSem pi_ref01_Less po_ref01_Less g_ref01_Less))
theorem q_ref01_Small_8 (k : Nat) (d : ((Bool × ((List Int) × Unit)) × Unit) × (Unit × ((Int × Unit) × ((Int × Unit) × Unit)))) : evAt E_ref01_Small (tab (L_ref01_Small k)) c_ref01_Small 8 (bodyOf Try.f84) 0 (finK E_ref01_Small po_ref01_Small [.tmp 2, .tmp 3]) (ptSt sh_ref01_Small_8 d) = f_ref01_Small_p8 (f_ref01_Small_t k) d := by kernel_rfl
theorem q_ref01_Small_m (k : Nat) (d : Unit × ((Bool × ((List Int) × Unit)) × Unit)) : evCode E_ref01_Small (tab (L_ref01_Small k)) c_ref01_Small (bodyOf Try.f84) 0 (finK E_ref01_Small po_ref01_Small [.tmp 2, .tmp 3]) (startSt pi_ref01_Small 47 d) = f_ref01_Small_m (f_ref01_Small_t k) d := by kernel_rfl
theorem go_ref01_Small (G : Unit × ((Bool × ((List Int) × Unit)) × Unit) → Option (Unit × ((Int × Unit) × ((Int × Unit) × Unit)))) (hG : ∀ d out, G d = some out → ∃ k, f_ref01_Small_m (f_ref01_Small_t k) d = some out) : FnOk Try.prog ET0 84 pi_ref01_Small po_ref01_Small G :=
  fn_of_body (E := E_ref01_Small) (envOk_add (envOk_add e0_ok (typed_ok ok_ref01_Of)) (typed_ok ok_ref01_Less)) (fn := Try.f84) Try.func84 (by kernel_rfl) (by kernel_rfl) [.tmp 2, .tmp 3] (by kernel_rfl) (by kernel_rfl) (by decide) rfl c_ref01_Small L_ref01_Small
    (by intro x hx d; simp only [L_ref01_Small, List.mem_cons, List.not_mem_nil, or_false] at hx; subst hx; rfl)
    (by intro k x hx d out h; simp only [L_ref01_Small, List.mem_cons, List.not_mem_nil, or_false] at hx; subst hx; exact (q_ref01_Small_8 k d).trans h)
    (by intro d out h; obtain ⟨k, hk⟩ := hG d out h; exact ⟨k, (q_ref01_Small_m k d).trans hk⟩)
def g_ref01_Small (d : Unit × ((Bool × ((List Int) × Unit)) × Unit)) : Option (Unit × ((Int × Unit) × ((Int × Unit) × Unit))) := lim fun k => f_ref01_Small_m (f_ref01_Small_t k) d
theorem ok_ref01_Small : FnOk Try.prog ET0 84 pi_ref01_Small po_ref01_Small g_ref01_Small := go_ref01_Small g_ref01_Small fun d out h => lim_some h

/- horologe/horologeref13.Bits -/
@[reducible] def pi_ref13_Bits : PSh := ⟨[], [.mk false [.v (.int .u64)], .mk false [.v (.int .i64)], .mk false [.v (.int .i64)]]⟩
@[reducible] def po_ref13_Bits : PSh := ⟨[], [.mk false [.v (.int .i64)], .mk false [.v (.int .i64)]]⟩
@[reducible] def TT_ref13_Bits : Type := (((((Bool × ((List Int) × Unit)) × ((Bool × ((List Int) × Unit)) × ((Bool × ((List Int) × Unit)) × Unit))) × ((Int × Unit) × (Unit × (Unit × (Unit × ((Int × Unit) × Unit)))))) → Option (Unit × ((Int × Unit) × ((Int × Unit) × Unit)))) × Unit)
@[reducible] def sh_ref13_Bits_9 : PSh := ⟨[.var 129 [.v .bool, .v (.sl (.int .u64))], .var 129 [.v .bool, .v (.sl (.int .u64))], .var 129 [.v .bool, .v (.sl (.int .u64))]], [.any, .mk false [.v (.int .i64)], .any, .any, .any, .any, .any, .any, .mk false [.ref 0 0], .mk false [.ref 1 0], .mk false [.ref 2 0], .mk false [.v (.int .i64)], .any, .any, .any, .any, .any, .any, .any, .any, .any, .any, .any, .any, .any, .any, .any, .any, .any, .any, .any, .any, .any, .any, .any, .any, .any, .any, .any, .any, .any, .any, .any, .any, .any, .any, .any, .any, .any, .any, .any, .any, .any, .any, .any, .any, .any, .any, .any, .any, .any, .any, .any, .any, .any]⟩
def f_ref13_Bits_p9 (T : TT_ref13_Bits) (d : ((Bool × ((List Int) × Unit)) × ((Bool × ((List Int) × Unit)) × ((Bool × ((List Int) × Unit)) × Unit))) × ((Int × Unit) × (Unit × (Unit × (Unit × ((Int × Unit) × Unit)))))) : Option (Unit × ((Int × Unit) × ((Int × Unit) × Unit))) :=
  let x15 : Bool := (decide (d.2.2.2.2.2.1.1 < (3 : Int)))
  bif x15 then (
  let x16 : Bool := (d.2.2.2.2.2.1.1 == (1 : Int))
  bif x16 then (
  (g_ref01_Plus ((), ((d.1.2.1.1, (d.1.2.1.2.1, ())), ((d.1.2.2.1.1, (d.1.2.2.1.2.1, ())), ())))).bind fun x17 =>
  let x18 : Bool := (d.2.2.2.2.2.1.1 == (2 : Int))
  bif x18 then (
  (g_ref01_Minus ((), ((d.1.2.2.1.1, (d.1.2.2.1.2.1, ())), ()))).bind fun x19 =>
  (g_ref01_Plus ((), ((d.1.2.1.1, (d.1.2.1.2.1, ())), ((x19.2.1.1, (x19.2.1.2.1, ())), ())))).bind fun x20 =>
  (g_ref13_Near ((), ((x20.2.1.1, (x20.2.1.2.1, ())), ((d.1.1.1, (d.1.1.2.1, ())), ((d.2.1.1, ()), ()))))).bind fun x21 =>
  bif x21.2.1.1 then (
  (g_ref01_Small ((), ((x20.2.1.1, (x20.2.1.2.1, ())), ()))).bind fun x22 =>
  some ((), ((x22.2.1.1, ()), ((x22.2.2.1.1, ()), ()))))
  else (
  let x23 : Int := (iadd .i64 d.2.2.2.2.2.1.1 (1 : Int))
  (T.1 (((d.1.1.1, (d.1.1.2.1, ())), ((d.1.2.1.1, (d.1.2.1.2.1, ())), ((d.1.2.2.1.1, (d.1.2.2.1.2.1, ())), ()))), ((d.2.1.1, ()), ((), ((), ((), ((x23, ()), ())))))))))
  else (
  (g_ref13_Near ((), ((x17.2.1.1, (x17.2.1.2.1, ())), ((d.1.1.1, (d.1.1.2.1, ())), ((d.2.1.1, ()), ()))))).bind fun x24 =>
  bif x24.2.1.1 then (
  (g_ref01_Small ((), ((x17.2.1.1, (x17.2.1.2.1, ())), ()))).bind fun x25 =>
  some ((), ((x25.2.1.1, ()), ((x25.2.2.1.1, ()), ()))))
  else (
  let x26 : Int := (iadd .i64 d.2.2.2.2.2.1.1 (1 : Int))
  (T.1 (((d.1.1.1, (d.1.1.2.1, ())), ((d.1.2.1.1, (d.1.2.1.2.1, ())), ((d.1.2.2.1.1, (d.1.2.2.1.2.1, ())), ()))), ((d.2.1.1, ()), ((), ((), ((), ((x26, ()), ()))))))))))
  else (
  let x27 : Bool := (d.2.2.2.2.2.1.1 == (2 : Int))
  bif x27 then (
  (g_ref01_Minus ((), ((d.1.2.2.1.1, (d.1.2.2.1.2.1, ())), ()))).bind fun x28 =>
  (g_ref01_Plus ((), ((d.1.2.1.1, (d.1.2.1.2.1, ())), ((x28.2.1.1, (x28.2.1.2.1, ())), ())))).bind fun x29 =>
  (g_ref13_Near ((), ((x29.2.1.1, (x29.2.1.2.1, ())), ((d.1.1.1, (d.1.1.2.1, ())), ((d.2.1.1, ()), ()))))).bind fun x30 =>
  bif x30.2.1.1 then (
  (g_ref01_Small ((), ((x29.2.1.1, (x29.2.1.2.1, ())), ()))).bind fun x31 =>
  some ((), ((x31.2.1.1, ()), ((x31.2.2.1.1, ()), ()))))
  else (
  let x32 : Int := (iadd .i64 d.2.2.2.2.2.1.1 (1 : Int))
  (T.1 (((d.1.1.1, (d.1.1.2.1, ())), ((d.1.2.1.1, (d.1.2.1.2.1, ())), ((d.1.2.2.1.1, (d.1.2.2.1.2.1, ())), ()))), ((d.2.1.1, ()), ((), ((), ((), ((x32, ()), ())))))))))
  else (
  (g_ref13_Near ((), ((d.1.2.1.1, (d.1.2.1.2.1, ())), ((d.1.1.1, (d.1.1.2.1, ())), ((d.2.1.1, ()), ()))))).bind fun x33 =>
  bif x33.2.1.1 then (
  (g_ref01_Small ((), ((d.1.2.1.1, (d.1.2.1.2.1, ())), ()))).bind fun x34 =>
  some ((), ((x34.2.1.1, ()), ((x34.2.2.1.1, ()), ()))))
  else (
  let x35 : Int := (iadd .i64 d.2.2.2.2.2.1.1 (1 : Int))
  (T.1 (((d.1.1.1, (d.1.1.2.1, ())), ((d.1.2.1.1, (d.1.2.1.2.1, ())), ((d.1.2.2.1.1, (d.1.2.2.1.2.1, ())), ()))), ((d.2.1.1, ()), ((), ((), ((), ((x35, ()), ())))))))))))
  else (
  some ((), (((0 : Int), ()), (((5 : Int), ()), ()))))
def f_ref13_Bits_t : Nat → TT_ref13_Bits
  | 0 => (fun _ => none, ())
  | k + 1 => (f_ref13_Bits_p9 (f_ref13_Bits_t k), ())
theorem t_ref13_Bits (k : Nat) : f_ref13_Bits_t (k + 1) = (f_ref13_Bits_p9 (f_ref13_Bits_t k), ()) := rfl
def f_ref13_Bits_m (T : TT_ref13_Bits) (d : Unit × ((Int × Unit) × ((Int × Unit) × ((Int × Unit) × Unit)))) : Option (Unit × ((Int × Unit) × ((Int × Unit) × Unit))) :=
  let x1 : Bool := (decide (d.2.2.1.1 < (1 : Int)))
  bif x1 then (
  some ((), (((0 : Int), ()), (((1 : Int), ()), ()))))
  else (
  let x2 : Bool := (decide (d.2.2.1.1 > (62 : Int)))
  bif x2 then (
  some ((), (((0 : Int), ()), (((1 : Int), ()), ()))))
  else (
  let x3 : Int := (iconv .u64 d.2.2.1.1)
  bif decide (x3 < 0) then (
  none)
  else (
  let x4 : Int := (ishl .u64 (1 : Int) x3)
  let x5 : Bool := (decide (d.2.1.1 ≥ x4))
  bif x5 then (
  some ((), (((0 : Int), ()), (((1 : Int), ()), ()))))
  else (
  (g_ref01_Of ((), ((d.2.2.2.1.1, ()), ()))).bind fun x6 =>
  (g_ref13_Fold ((), ((d.2.2.2.1.1, ()), ((d.2.2.1.1, ()), ())))).bind fun x7 =>
  (g_ref01_Of ((), ((x7.2.1.1, ()), ()))).bind fun x8 =>
  (g_ref01_Minus ((), ((x8.2.1.1, (x8.1.1, ())), ()))).bind fun x9 =>
  (g_ref01_Plus ((), ((x6.2.1.1, (x6.1.1, ())), ((x9.2.1.1, (x9.2.1.2.1, ())), ())))).bind fun x10 =>
  let x11 : Int := (iconv .i64 d.2.1.1)
  (g_ref01_Of ((), ((x11, ()), ()))).bind fun x12 =>
  (g_ref01_Plus ((), ((x10.2.1.1, (x10.2.1.2.1, ())), ((x12.2.1.1, (x12.1.1, ())), ())))).bind fun x13 =>
  (g_ref13_Power ((), ((d.2.2.1.1, ()), ()))).bind fun x14 =>
  (T.1 (((x6.2.1.1, (x6.1.1, ())), ((x13.2.1.1, (x13.2.1.2.1, ())), ((x14.2.1.1, (x14.2.1.2.1, ())), ()))), ((d.2.2.1.1, ()), ((), ((), ((), (((0 : Int), ()), ())))))))))))
def c_ref13_Bits : List Nat := []
def L_ref13_Bits (k : Nat) : Pts po_ref13_Bits.den := [(9, ⟨sh_ref13_Bits_9, (f_ref13_Bits_t k).1⟩)]
def E_ref13_Bits : Env := ((((((((E0.add 30 (typedSem pi_ref13_Fold po_ref13_Fold g_ref13_Fold)).add 79 (typedSem pi_ref01_Of po_ref01_Of g_ref01_Of)).add 80 (typedSem pi_ref01_Plus po_ref01_Plus g_ref01_Plus)).add 81 (typedSem pi_ref01_Minus po_ref01_Minus g_ref01_Minus)).add 82 (typedSem pi_ref13_Power po_ref13_Power g_ref13_Power)).add 83 (typedSem pi_ref13_Near po_ref13_Near g_ref13_Near)).add 84 (typedSem pi_ref01_Small po_ref01_Small g_ref01_Small)).fr [(1000004, [1000008, 1000027])])
theorem q_ref13_Bits_9 (k : Nat) (d : ((Bool × ((List Int) × Unit)) × ((Bool × ((List Int) × Unit)) × ((Bool × ((List Int) × Unit)) × Unit))) × ((Int × Unit) × (Unit × (Unit × (Unit × ((Int × Unit) × Unit)))))) : evAt E_ref13_Bits (tab (L_ref13_Bits k)) c_ref13_Bits 9 (bodyOf Try.f32) 0 (finK E_ref13_Bits po_ref13_Bits [.tmp 6, .tmp 7]) (ptSt sh_ref13_Bits_9 d) = f_ref13_Bits_p9 (f_ref13_Bits_t k) d := by kernel_rfl
theorem q_ref13_Bits_m (k : Nat) (d : Unit × ((Int × Unit) × ((Int × Unit) × ((Int × Unit) × Unit)))) : evCode E_ref13_Bits (tab (L_ref13_Bits k)) c_ref13_Bits (bodyOf Try.f32) 0 (finK E_ref13_Bits po_ref13_Bits [.tmp 6, .tmp 7]) (startSt pi_ref13_Bits 65 d) = f_ref13_Bits_m (f_ref13_Bits_t k) d := by kernel_rfl
theorem go_ref13_Bits (G : Unit × ((Int × Unit) × ((Int × Unit) × ((Int × Unit) × Unit))) → Option (Unit × ((Int × Unit) × ((Int × Unit) × Unit)))) (hG : ∀ d out, G d = some out → ∃ k, f_ref13_Bits_m (f_ref13_Bits_t k) d = some out) : FnOk Try.prog ET0 32 pi_ref13_Bits po_ref13_Bits G :=
  fn_of_body (E := E_ref13_Bits) (envOk_fr (envOk_add (envOk_add (envOk_add (envOk_add (envOk_add (envOk_add (envOk_add e0_ok (typed_ok ok_ref13_Fold)) (typed_ok ok_ref01_Of)) (typed_ok ok_ref01_Plus)) (typed_ok ok_ref01_Minus)) (typed_ok ok_ref13_Power)) (typed_ok ok_ref13_Near)) (typed_ok ok_ref01_Small))) (fn := Try.f32) Try.func32 (by kernel_rfl) (by kernel_rfl) [.tmp 6, .tmp 7] (by kernel_rfl) (by kernel_rfl) (by decide) rfl c_ref13_Bits L_ref13_Bits
    (by intro x hx d; simp only [L_ref13_Bits, List.mem_cons, List.not_mem_nil, or_false] at hx; subst hx; rfl)
    (by intro k x hx d out h; simp only [L_ref13_Bits, List.mem_cons, List.not_mem_nil, or_false] at hx; subst hx; exact (q_ref13_Bits_9 k d).trans h)
    (by intro d out h; obtain ⟨k, hk⟩ := hG d out h; exact ⟨k, (q_ref13_Bits_m k d).trans hk⟩)
def g_ref13_Bits (d : Unit × ((Int × Unit) × ((Int × Unit) × ((Int × Unit) × Unit)))) : Option (Unit × ((Int × Unit) × ((Int × Unit) × Unit))) := lim fun k => f_ref13_Bits_m (f_ref13_Bits_t k) d
theorem ok_ref13_Bits : FnOk Try.prog ET0 32 pi_ref13_Bits po_ref13_Bits g_ref13_Bits := go_ref13_Bits g_ref13_Bits fun d out h => lim_some h

/- horologe/stamp.FromPosix -/
@[reducible] def pi_stamp_FromPosix : PSh := ⟨[], [.mk false [.v (.int .i64)]]⟩
@[reducible] def po_stamp_FromPosix : PSh := ⟨[], [.mk false [.v (.int .i64)], .mk false [.v .err]]⟩
def f_stamp_FromPosix_m (T : Unit) (d : Unit × ((Int × Unit) × Unit)) : Option (Unit × ((Int × Unit) × (((Option Int) × Unit) × Unit))) :=
  (g_num_Add ((), ((d.2.1.1, ()), (((2208988800 : Int), ()), ())))).bind fun x1 =>
  some ((), ((x1.2.1.1, ()), ((x1.2.2.1.1, ()), ())))
def c_stamp_FromPosix : List Nat := []
def L_stamp_FromPosix (_ : Nat) : Pts po_stamp_FromPosix.den := []
def E_stamp_FromPosix : Env := (E0.add 85 (typedSem pi_num_Add po_num_Add g_num_Add))
theorem q_stamp_FromPosix_m (k : Nat) (d : Unit × ((Int × Unit) × Unit)) : evCode E_stamp_FromPosix (tab (L_stamp_FromPosix k)) c_stamp_FromPosix (bodyOf Try.f33) 0 (finK E_stamp_FromPosix po_stamp_FromPosix [.tmp 2, .tmp 3]) (startSt pi_stamp_FromPosix 8 d) = f_stamp_FromPosix_m () d := by kernel_rfl
def g_stamp_FromPosix (d : Unit × ((Int × Unit) × Unit)) : Option (Unit × ((Int × Unit) × (((Option Int) × Unit) × Unit))) := f_stamp_FromPosix_m () d
theorem ok_stamp_FromPosix : FnOk Try.prog ET0 33 pi_stamp_FromPosix po_stamp_FromPosix g_stamp_FromPosix :=
  fn_of_body (E := E_stamp_FromPosix) (envOk_add e0_ok (typed_ok ok_num_Add)) (fn := Try.f33) Try.func33 (by kernel_rfl) (by kernel_rfl) [.tmp 2, .tmp 3] (by kernel_rfl) (by kernel_rfl) (by decide) rfl c_stamp_FromPosix L_stamp_FromPosix
    (by intro x hx; cases hx) (by intro k x hx; cases hx) (fun d out h => ⟨0, (q_stamp_FromPosix_m 0 d).trans h⟩)

/- horologe/num.Sub -/
@[reducible] def pi_num_Sub : PSh := ⟨[], [.mk false [.v (.int .i64)], .mk false [.v (.int .i64)]]⟩
@[reducible] def po_num_Sub : PSh := ⟨[], [.mk false [.v (.int .i64)], .mk false [.v .err]]⟩
def f_num_Sub_m (T : Unit) (d : Unit × ((Int × Unit) × ((Int × Unit) × Unit))) : Option (Unit × ((Int × Unit) × (((Option Int) × Unit) × Unit))) :=
  let x1 : Int := (isub .i64 d.2.1.1 d.2.2.1.1)
  let x2 : Bool := (decide (d.2.2.1.1 > (0 : Int)))
  bif x2 then (
  let x3 : Bool := (decide (x1 > d.2.1.1))
  bif x3 then (
  let x4 : (Option Int) := (some (5 : Int))
  some ((), (((0 : Int), ()), ((x4, ()), ()))))
  else (
  let x5 : Bool := (decide (d.2.2.1.1 < (0 : Int)))
  bif x5 then (
  let x6 : Bool := (decide (x1 < d.2.1.1))
  bif x6 then (
  let x7 : (Option Int) := (some (5 : Int))
  some ((), (((0 : Int), ()), ((x7, ()), ()))))
  else (
  some ((), ((x1, ()), (((none : Option Int), ()), ())))))
  else (
  some ((), ((x1, ()), (((none : Option Int), ()), ()))))))
  else (
  let x8 : Bool := (decide (d.2.2.1.1 < (0 : Int)))
  bif x8 then (
  let x9 : Bool := (decide (x1 < d.2.1.1))
  bif x9 then (
  let x10 : (Option Int) := (some (5 : Int))
  some ((), (((0 : Int), ()), ((x10, ()), ()))))
  else (
  some ((), ((x1, ()), (((none : Option Int), ()), ())))))
  else (
  some ((), ((x1, ()), (((none : Option Int), ()), ())))))
def c_num_Sub : List Nat := []
def L_num_Sub (_ : Nat) : Pts po_num_Sub.den := []
def E_num_Sub : Env := E0
theorem q_num_Sub_m (k : Nat) (d : Unit × ((Int × Unit) × ((Int × Unit) × Unit))) : evCode E_num_Sub (tab (L_num_Sub k)) c_num_Sub (bodyOf Try.f86) 0 (finK E_num_Sub po_num_Sub [.tmp 4, .tmp 5]) (startSt pi_num_Sub 28 d) = f_num_Sub_m () d := by kernel_rfl
def g_num_Sub (d : Unit × ((Int × Unit) × ((Int × Unit) × Unit))) : Option (Unit × ((Int × Unit) × (((Option Int) × Unit) × Unit))) := f_num_Sub_m () d
theorem ok_num_Sub : FnOk Try.prog ET0 86 pi_num_Sub po_num_Sub g_num_Sub :=
  fn_of_body (E := E_num_Sub) e0_ok (fn := Try.f86) Try.func86 (by kernel_rfl) (by kernel_rfl) [.tmp 4, .tmp 5] (by kernel_rfl) (by kernel_rfl) (by decide) rfl c_num_Sub L_num_Sub
    (by intro x hx; cases hx) (by intro k x hx; cases hx) (fun d out h => ⟨0, (q_num_Sub_m 0 d).trans h⟩)

/- horologe/stamp.ToPosix -/
@[reducible] def pi_stamp_ToPosix : PSh := ⟨[], [.mk false [.v (.int .i64)]]⟩
@[reducible] def po_stamp_ToPosix : PSh := ⟨[], [.mk false [.v (.int .i64)], .mk false [.v .err]]⟩
def f_stamp_ToPosix_m (T : Unit) (d : Unit × ((Int × Unit) × Unit)) : Option (Unit × ((Int × Unit) × (((Option Int) × Unit) × Unit))) :=
  (g_num_Sub ((), ((d.2.1.1, ()), (((2208988800 : Int), ()), ())))).bind fun x1 =>
  some ((), ((x1.2.1.1, ()), ((x1.2.2.1.1, ()), ())))
def c_stamp_ToPosix : List Nat := []
def L_stamp_ToPosix (_ : Nat) : Pts po_stamp_ToPosix.den := []
def E_stamp_ToPosix : Env := (E0.add 86 (typedSem pi_num_Sub po_num_Sub g_num_Sub))
theorem q_stamp_ToPosix_m (k : Nat) (d : Unit × ((Int × Unit) × Unit)) : evCode E_stamp_ToPosix (tab (L_stamp_ToPosix k)) c_stamp_ToPosix (bodyOf Try.f34) 0 (finK E_stamp_ToPosix po_stamp_ToPosix [.tmp 2, .tmp 3]) (startSt pi_stamp_ToPosix 8 d) = f_stamp_ToPosix_m () d := by kernel_rfl
def g_stamp_ToPosix (d : Unit × ((Int × Unit) × Unit)) : Option (Unit × ((Int × Unit) × (((Option Int) × Unit) × Unit))) := f_stamp_ToPosix_m () d
theorem ok_stamp_ToPosix : FnOk Try.prog ET0 34 pi_stamp_ToPosix po_stamp_ToPosix g_stamp_ToPosix :=
  fn_of_body (E := E_stamp_ToPosix) (envOk_add e0_ok (typed_ok ok_num_Sub)) (fn := Try.f34) Try.func34 (by kernel_rfl) (by kernel_rfl) [.tmp 2, .tmp 3] (by kernel_rfl) (by kernel_rfl) (by decide) rfl c_stamp_ToPosix L_stamp_ToPosix
    (by intro x hx; cases hx) (by intro k x hx; cases hx) (fun d out h => ⟨0, (q_stamp_ToPosix_m 0 d).trans h⟩)

/- horologe/horologeref05.Leap -/
@[reducible] def pi_ref05_Leap : PSh := ⟨[], [.mk false [.v (.int .i64)]]⟩
@[reducible] def po_ref05_Leap : PSh := ⟨[], [.mk false [.v .bool]]⟩
def f_ref05_Leap_m (T : Unit) (d : Unit × ((Int × Unit) × Unit)) : Option (Unit × ((Bool × Unit) × Unit)) :=
  let x1 : Int := (Int.tmod d.2.1.1 (400 : Int))
  let x2 : Bool := (x1 == (0 : Int))
  bif x2 then (
  some ((), ((true, ()), ())))
  else (
  let x3 : Int := (Int.tmod d.2.1.1 (4 : Int))
  let x4 : Bool := (x3 == (0 : Int))
  bif x4 then (
  let x5 : Int := (Int.tmod d.2.1.1 (100 : Int))
  let x6 : Bool := (x5 != (0 : Int))
  some ((), ((x6, ()), ())))
  else (
  some ((), ((false, ()), ()))))
def c_ref05_Leap : List Nat := []
def L_ref05_Leap (_ : Nat) : Pts po_ref05_Leap.den := []
def E_ref05_Leap : Env := E0
theorem q_ref05_Leap_m (k : Nat) (d : Unit × ((Int × Unit) × Unit)) : evCode E_ref05_Leap (tab (L_ref05_Leap k)) c_ref05_Leap (bodyOf Try.f134) 0 (finK E_ref05_Leap po_ref05_Leap [.tmp 2]) (startSt pi_ref05_Leap 14 d) = f_ref05_Leap_m () d := by kernel_rfl
def g_ref05_Leap (d : Unit × ((Int × Unit) × Unit)) : Option (Unit × ((Bool × Unit) × Unit)) := f_ref05_Leap_m () d
theorem ok_ref05_Leap : FnOk Try.prog ET0 134 pi_ref05_Leap po_ref05_Leap g_ref05_Leap :=
  fn_of_body (E := E_ref05_Leap) e0_ok (fn := Try.f134) Try.func134 (by kernel_rfl) (by kernel_rfl) [.tmp 2] (by kernel_rfl) (by kernel_rfl) (by decide) rfl c_ref05_Leap L_ref05_Leap
    (by intro x hx; cases hx) (by intro k x hx; cases hx) (fun d out h => ⟨0, (q_ref05_Leap_m 0 d).trans h⟩)

/- horologe/horologeref05.Days -/
@[reducible] def pi_ref05_Days : PSh := ⟨[], [.mk false [.v (.int .i64)]]⟩
@[reducible] def po_ref05_Days : PSh := ⟨[], [.mk false [.v (.int .i64)]]⟩
def f_ref05_Days_m (T : Unit) (d : Unit × ((Int × Unit) × Unit)) : Option (Unit × ((Int × Unit) × Unit)) :=
  (g_ref05_Leap ((), ((d.2.1.1, ()), ()))).bind fun x1 =>
  bif x1.2.1.1 then (
  some ((), (((366 : Int), ()), ())))
  else (
  some ((), (((365 : Int), ()), ())))
def c_ref05_Days : List Nat := []
def L_ref05_Days (_ : Nat) : Pts po_ref05_Days.den := []
def E_ref05_Days : Env := (E0.add 134 (typedSem pi_ref05_Leap po_ref05_Leap g_ref05_Leap))
theorem q_ref05_Days_m (k : Nat) (d : Unit × ((Int × Unit) × Unit)) : evCode E_ref05_Days (tab (L_ref05_Days k)) c_ref05_Days (bodyOf Try.f133) 0 (finK E_ref05_Days po_ref05_Days [.tmp 2]) (startSt pi_ref05_Days 5 d) = f_ref05_Days_m () d := by kernel_rfl
def g_ref05_Days (d : Unit × ((Int × Unit) × Unit)) : Option (Unit × ((Int × Unit) × Unit)) := f_ref05_Days_m () d
theorem ok_ref05_Days : FnOk Try.prog ET0 133 pi_ref05_Days po_ref05_Days g_ref05_Days :=
  fn_of_body (E := E_ref05_Days) (envOk_add e0_ok (typed_ok ok_ref05_Leap)) (fn := Try.f133) Try.func133 (by kernel_rfl) (by kernel_rfl) [.tmp 2] (by kernel_rfl) (by kernel_rfl) (by decide) rfl c_ref05_Days L_ref05_Days
    (by intro x hx; cases hx) (by intro k x hx; cases hx) (fun d out h => ⟨0, (q_ref05_Days_m 0 d).trans h⟩)

/- horologe/horologeref05.Start -/
@[reducible] def pi_ref05_Start : PSh := ⟨[], [.mk false [.v (.int .i64)]]⟩
@[reducible] def po_ref05_Start : PSh := ⟨[], [.mk false [.v (.int .i64)]]⟩
@[reducible] def TT_ref05_Start : Type := (((Unit × ((Int × Unit) × ((Int × Unit) × Unit))) → Option (Unit × ((Int × Unit) × Unit))) × (((Unit × ((Int × Unit) × ((Int × Unit) × Unit))) → Option (Unit × ((Int × Unit) × Unit))) × (((Unit × ((Int × Unit) × ((Int × Unit) × ((Int × Unit) × Unit)))) → Option (Unit × ((Int × Unit) × Unit))) × Unit)))
@[reducible] def sh_ref05_Start_3 : PSh := ⟨[], [.mk false [.v (.int .i64)], .any, .any, .mk false [.v (.int .i64)], .any, .any, .any, .any, .any, .any, .any, .any, .any, .any, .any, .any, .any, .any, .any, .any, .any, .any, .any, .any, .any, .any, .any]⟩
@[reducible] def sh_ref05_Start_8 : PSh := ⟨[], [.mk false [.v (.int .i64)], .any, .any, .mk false [.v (.int .i64)], .any, .any, .any, .any, .any, .any, .any, .any, .any, .any, .any, .any, .any, .any, .any, .any, .any, .any, .any, .any, .any, .any, .any]⟩
@[reducible] def sh_ref05_Start_14 : PSh := ⟨[], [.mk false [.v (.int .i64)], .any, .any, .mk false [.v (.int .i64)], .mk false [.v (.int .i64)], .any, .any, .any, .any, .any, .any, .any, .any, .any, .any, .any, .any, .any, .any, .any, .any, .any, .any, .any, .any, .any, .any]⟩
def f_ref05_Start_p3 (T : TT_ref05_Start) (d : Unit × ((Int × Unit) × ((Int × Unit) × Unit))) : Option (Unit × ((Int × Unit) × Unit)) :=
  let x1 : Bool := (decide (d.2.1.1 < (1970 : Int)))
  bif x1 then (
  let x2 : Int := (iadd .i64 d.2.1.1 (400 : Int))
  let x3 : Int := (isub .i64 d.2.2.1.1 (146097 : Int))
  (T.1 ((), ((x2, ()), ((x3, ()), ())))))
  else (
  (T.2.1 ((), ((d.2.1.1, ()), ((d.2.2.1.1, ()), ())))))
def f_ref05_Start_p8 (T : TT_ref05_Start) (d : Unit × ((Int × Unit) × ((Int × Unit) × Unit))) : Option (Unit × ((Int × Unit) × Unit)) :=
  let x4 : Bool := (decide (d.2.1.1 ≥ (2370 : Int)))
  bif x4 then (
  let x5 : Int := (isub .i64 d.2.1.1 (400 : Int))
  let x6 : Int := (iadd .i64 d.2.2.1.1 (146097 : Int))
  (T.2.1 ((), ((x5, ()), ((x6, ()), ())))))
  else (
  (T.2.2.1 ((), ((d.2.1.1, ()), ((d.2.2.1.1, ()), (((1970 : Int), ()), ()))))))
def f_ref05_Start_p14 (T : TT_ref05_Start) (d : Unit × ((Int × Unit) × ((Int × Unit) × ((Int × Unit) × Unit)))) : Option (Unit × ((Int × Unit) × Unit)) :=
  let x7 : Bool := (decide (d.2.2.2.1.1 < d.2.1.1))
  bif x7 then (
  (g_ref05_Days ((), ((d.2.2.2.1.1, ()), ()))).bind fun x8 =>
  let x9 : Int := (iadd .i64 d.2.2.1.1 x8.2.1.1)
  let x10 : Int := (iadd .i64 d.2.2.2.1.1 (1 : Int))
  (T.2.2.1 ((), ((d.2.1.1, ()), ((x9, ()), ((x10, ()), ()))))))
  else (
  some ((), ((d.2.2.1.1, ()), ())))
def f_ref05_Start_t : Nat → TT_ref05_Start
  | 0 => (fun _ => none, (fun _ => none, (fun _ => none, ())))
  | k + 1 => (f_ref05_Start_p3 (f_ref05_Start_t k), (f_ref05_Start_p8 (f_ref05_Start_t k), (f_ref05_Start_p14 (f_ref05_Start_t k), ())))
theorem t_ref05_Start (k : Nat) : f_ref05_Start_t (k + 1) = (f_ref05_Start_p3 (f_ref05_Start_t k), (f_ref05_Start_p8 (f_ref05_Start_t k), (f_ref05_Start_p14 (f_ref05_Start_t k), ()))) := rfl
def f_ref05_Start_m (T : TT_ref05_Start) (d : Unit × ((Int × Unit) × Unit)) : Option (Unit × ((Int × Unit) × Unit)) :=
  (T.1 ((), ((d.2.1.1, ()), (((0 : Int), ()), ()))))
def c_ref05_Start : List Nat := []
def L_ref05_Start (k : Nat) : Pts po_ref05_Start.den := [(3, ⟨sh_ref05_Start_3, (f_ref05_Start_t k).1⟩), (8, ⟨sh_ref05_Start_8, (f_ref05_Start_t k).2.1⟩), (14, ⟨sh_ref05_Start_14, (f_ref05_Start_t k).2.2.1⟩)]
def E_ref05_Start : Env := (E0.add 133 (typedSem pi_ref05_Days po_ref05_Days g_ref05_Days))
theorem q_ref05_Start_3 (k : Nat) (d : Unit × ((Int × Unit) × ((Int × Unit) × Unit))) : evAt E_ref05_Start (tab (L_ref05_Start k)) c_ref05_Start 3 (bodyOf Try.f131) 0 (finK E_ref05_Start po_ref05_Start [.tmp 2]) (ptSt sh_ref05_Start_3 d) = f_ref05_Start_p3 (f_ref05_Start_t k) d := by kernel_rfl
theorem q_ref05_Start_8 (k : Nat) (d : Unit × ((Int × Unit) × ((Int × Unit) × Unit))) : evAt E_ref05_Start (tab (L_ref05_Start k)) c_ref05_Start 8 (bodyOf Try.f131) 0 (finK E_ref05_Start po_ref05_Start [.tmp 2]) (ptSt sh_ref05_Start_8 d) = f_ref05_Start_p8 (f_ref05_Start_t k) d := by kernel_rfl
theorem q_ref05_Start_14 (k : Nat) (d : Unit × ((Int × Unit) × ((Int × Unit) × ((Int × Unit) × Unit)))) : evAt E_ref05_Start (tab (L_ref05_Start k)) c_ref05_Start 14 (bodyOf Try.f131) 0 (finK E_ref05_Start po_ref05_Start [.tmp 2]) (ptSt sh_ref05_Start_14 d) = f_ref05_Start_p14 (f_ref05_Start_t k) d := by kernel_rfl
theorem q_ref05_Start_m (k : Nat) (d : Unit × ((Int × Unit) × Unit)) : evCode E_ref05_Start (tab (L_ref05_Start k)) c_ref05_Start (bodyOf Try.f131) 0 (finK E_ref05_Start po_ref05_Start [.tmp 2]) (startSt pi_ref05_Start 27 d) = f_ref05_Start_m (f_ref05_Start_t k) d := by kernel_rfl
theorem go_ref05_Start (G : Unit × ((Int × Unit) × Unit) → Option (Unit × ((Int × Unit) × Unit))) (hG : ∀ d out, G d = some out → ∃ k, f_ref05_Start_m (f_ref05_Start_t k) d = some out) : FnOk Try.prog ET0 131 pi_ref05_Start po_ref05_Start G :=
  fn_of_body (E := E_ref05_Start) (envOk_add e0_ok (typed_ok ok_ref05_Days)) (fn := Try.f131) Try.func131 (by kernel_rfl) (by kernel_rfl) [.tmp 2] (by kernel_rfl) (by kernel_rfl) (by decide) rfl c_ref05_Start L_ref05_Start
    (by intro x hx d; simp only [L_ref05_Start, List.mem_cons, List.not_mem_nil, or_false] at hx; rcases hx with rfl | rfl | rfl; rfl; rfl; rfl)
    (by intro k x hx d out h; simp only [L_ref05_Start, List.mem_cons, List.not_mem_nil, or_false] at hx; rcases hx with rfl | rfl | rfl; exact (q_ref05_Start_3 k d).trans h; exact (q_ref05_Start_8 k d).trans h; exact (q_ref05_Start_14 k d).trans h)
    (by intro d out h; obtain ⟨k, hk⟩ := hG d out h; exact ⟨k, (q_ref05_Start_m k d).trans hk⟩)
def g_ref05_Start (d : Unit × ((Int × Unit) × Unit)) : Option (Unit × ((Int × Unit) × Unit)) := lim fun k => f_ref05_Start_m (f_ref05_Start_t k) d
theorem ok_ref05_Start : FnOk Try.prog ET0 131 pi_ref05_Start po_ref05_Start g_ref05_Start := go_ref05_Start g_ref05_Start fun d out h => lim_some h

/- horologe/horologeref05.Month -/
@[reducible] def pi_ref05_Month : PSh := ⟨[], [.mk false [.v (.int .i64)], .mk false [.v (.int .i64)]]⟩
@[reducible] def po_ref05_Month : PSh := ⟨[], [.mk false [.v (.int .i64)]]⟩
def f_ref05_Month_m (T : Unit) (d : Unit × ((Int × Unit) × ((Int × Unit) × Unit))) : Option (Unit × ((Int × Unit) × Unit)) :=
  let x1 : (List Int) := ([(31 : Int), (28 : Int), (31 : Int), (30 : Int), (31 : Int), (30 : Int), (31 : Int), (31 : Int), (30 : Int), (31 : Int), (30 : Int), (31 : Int)] : List Int)
  let x2 : Bool := (d.2.2.1.1 == (2 : Int))
  bif x2 then (
  (g_ref05_Leap ((), ((d.2.1.1, ()), ()))).bind fun x3 =>
  bif x3.2.1.1 then (
  some ((), (((29 : Int), ()), ())))
  else (
  let x4 : Int := (isub .i64 d.2.2.1.1 (1 : Int))
  bif decide ((0 : Int) ≤ x4) && decide (x4 < (x1.length : Int)) then (
  some ((), (((gd (.int .i64) x1 x4), ()), ())))
  else none))
  else (
  let x5 : Int := (isub .i64 d.2.2.1.1 (1 : Int))
  bif decide ((0 : Int) ≤ x5) && decide (x5 < (x1.length : Int)) then (
  some ((), (((gd (.int .i64) x1 x5), ()), ())))
  else none)
def c_ref05_Month : List Nat := []
def L_ref05_Month (_ : Nat) : Pts po_ref05_Month.den := []
def E_ref05_Month : Env := (E0.add 134 (typedSem pi_ref05_Leap po_ref05_Leap g_ref05_Leap))
theorem q_ref05_Month_m (k : Nat) (d : Unit × ((Int × Unit) × ((Int × Unit) × Unit))) : evCode E_ref05_Month (tab (L_ref05_Month k)) c_ref05_Month (bodyOf Try.f132) 0 (finK E_ref05_Month po_ref05_Month [.tmp 4]) (startSt pi_ref05_Month 18 d) = f_ref05_Month_m () d := by kernel_rfl
def g_ref05_Month (d : Unit × ((Int × Unit) × ((Int × Unit) × Unit))) : Option (Unit × ((Int × Unit) × Unit)) := f_ref05_Month_m () d
theorem ok_ref05_Month : FnOk Try.prog ET0 132 pi_ref05_Month po_ref05_Month g_ref05_Month :=
  fn_of_body (E := E_ref05_Month) (envOk_add e0_ok (typed_ok ok_ref05_Leap)) (fn := Try.f132) Try.func132 (by kernel_rfl) (by kernel_rfl) [.tmp 4] (by kernel_rfl) (by kernel_rfl) (by decide) rfl c_ref05_Month L_ref05_Month
    (by intro x hx; cases hx) (by intro k x hx; cases hx) (fun d out h => ⟨0, (q_ref05_Month_m 0 d).trans h⟩)

/- horologe/horologeref05.Of -/
@[reducible] def pi_ref05_Of : PSh := ⟨[], [.mk false [.v (.int .i64)], .mk false [.v (.int .i64)], .mk false [.v (.int .i64)]]⟩
@[reducible] def po_ref05_Of : PSh := ⟨[], [.mk false [.v (.int .i64)]]⟩
@[reducible] def TT_ref05_Of : Type := (((Unit × ((Int × Unit) × ((Int × Unit) × ((Int × Unit) × ((Int × Unit) × Unit))))) → Option (Unit × ((Int × Unit) × Unit))) × Unit)
@[reducible] def sh_ref05_Of_4 : PSh := ⟨[], [.mk false [.v (.int .i64)], .mk false [.v (.int .i64)], .any, .any, .any, .any, .any, .mk false [.v (.int .i64)], .mk false [.v (.int .i64)], .any, .any, .any, .any, .any, .any, .any, .any, .any, .any, .any, .any, .any, .any, .any, .any]⟩
def f_ref05_Of_p4 (T : TT_ref05_Of) (d : Unit × ((Int × Unit) × ((Int × Unit) × ((Int × Unit) × ((Int × Unit) × Unit))))) : Option (Unit × ((Int × Unit) × Unit)) :=
  let x4 : Bool := (decide (d.2.2.2.2.1.1 < d.2.2.1.1))
  bif x4 then (
  (g_ref05_Month ((), ((d.2.1.1, ()), ((d.2.2.2.2.1.1, ()), ())))).bind fun x5 =>
  let x6 : Int := (iadd .i64 d.2.2.2.1.1 x5.2.1.1)
  let x7 : Int := (iadd .i64 d.2.2.2.2.1.1 (1 : Int))
  (T.1 ((), ((d.2.1.1, ()), ((d.2.2.1.1, ()), ((x6, ()), ((x7, ()), ())))))))
  else (
  some ((), ((d.2.2.2.1.1, ()), ())))
def f_ref05_Of_t : Nat → TT_ref05_Of
  | 0 => (fun _ => none, ())
  | k + 1 => (f_ref05_Of_p4 (f_ref05_Of_t k), ())
theorem t_ref05_Of (k : Nat) : f_ref05_Of_t (k + 1) = (f_ref05_Of_p4 (f_ref05_Of_t k), ()) := rfl
def f_ref05_Of_m (T : TT_ref05_Of) (d : Unit × ((Int × Unit) × ((Int × Unit) × ((Int × Unit) × Unit)))) : Option (Unit × ((Int × Unit) × Unit)) :=
  (g_ref05_Start ((), ((d.2.1.1, ()), ()))).bind fun x1 =>
  let x2 : Int := (iadd .i64 x1.2.1.1 d.2.2.2.1.1)
  let x3 : Int := (isub .i64 x2 (1 : Int))
  (T.1 ((), ((d.2.1.1, ()), ((d.2.2.1.1, ()), ((x3, ()), (((1 : Int), ()), ()))))))
def c_ref05_Of : List Nat := []
def L_ref05_Of (k : Nat) : Pts po_ref05_Of.den := [(4, ⟨sh_ref05_Of_4, (f_ref05_Of_t k).1⟩)]
def E_ref05_Of : Env := ((E0.add 131 (typedSem pi_ref05_Start po_ref05_Start g_ref05_Start)).add 132 (typedSem pi_ref05_Month po_ref05_Month g_ref05_Month))
theorem q_ref05_Of_4 (k : Nat) (d : Unit × ((Int × Unit) × ((Int × Unit) × ((Int × Unit) × ((Int × Unit) × Unit))))) : evAt E_ref05_Of (tab (L_ref05_Of k)) c_ref05_Of 4 (bodyOf Try.f121) 0 (finK E_ref05_Of po_ref05_Of [.tmp 6]) (ptSt sh_ref05_Of_4 d) = f_ref05_Of_p4 (f_ref05_Of_t k) d := by kernel_rfl
theorem q_ref05_Of_m (k : Nat) (d : Unit × ((Int × Unit) × ((Int × Unit) × ((Int × Unit) × Unit)))) : evCode E_ref05_Of (tab (L_ref05_Of k)) c_ref05_Of (bodyOf Try.f121) 0 (finK E_ref05_Of po_ref05_Of [.tmp 6]) (startSt pi_ref05_Of 25 d) = f_ref05_Of_m (f_ref05_Of_t k) d := by kernel_rfl
theorem go_ref05_Of (G : Unit × ((Int × Unit) × ((Int × Unit) × ((Int × Unit) × Unit))) → Option (Unit × ((Int × Unit) × Unit))) (hG : ∀ d out, G d = some out → ∃ k, f_ref05_Of_m (f_ref05_Of_t k) d = some out) : FnOk Try.prog ET0 121 pi_ref05_Of po_ref05_Of G :=
  fn_of_body (E := E_ref05_Of) (envOk_add (envOk_add e0_ok (typed_ok ok_ref05_Start)) (typed_ok ok_ref05_Month)) (fn := Try.f121) Try.func121 (by kernel_rfl) (by kernel_rfl) [.tmp 6] (by kernel_rfl) (by kernel_rfl) (by decide) rfl c_ref05_Of L_ref05_Of
    (by intro x hx d; simp only [L_ref05_Of, List.mem_cons, List.not_mem_nil, or_false] at hx; subst hx; rfl)
    (by intro k x hx d out h; simp only [L_ref05_Of, List.mem_cons, List.not_mem_nil, or_false] at hx; subst hx; exact (q_ref05_Of_4 k d).trans h)
    (by intro d out h; obtain ⟨k, hk⟩ := hG d out h; exact ⟨k, (q_ref05_Of_m k d).trans hk⟩)
def g_ref05_Of (d : Unit × ((Int × Unit) × ((Int × Unit) × ((Int × Unit) × Unit)))) : Option (Unit × ((Int × Unit) × Unit)) := lim fun k => f_ref05_Of_m (f_ref05_Of_t k) d
theorem ok_ref05_Of : FnOk Try.prog ET0 121 pi_ref05_Of po_ref05_Of g_ref05_Of := go_ref05_Of g_ref05_Of fun d out h => lim_some h

/- horologe/horologeref15.Begin -/
@[reducible] def pi_ref15_Begin : PSh := ⟨[], []⟩
@[reducible] def po_ref15_Begin : PSh := ⟨[], [.mk false [.v (.int .i64)]]⟩
def f_ref15_Begin_m (T : Unit) (d : Unit × Unit) : Option (Unit × ((Int × Unit) × Unit)) :=
  (g_ref05_Of ((), (((1900 : Int), ()), (((1 : Int), ()), (((1 : Int), ()), ()))))).bind fun x1 =>
  let x2 : Int := (ineg .i64 x1.2.1.1)
  let x3 : Int := (imul .i64 x2 (86400 : Int))
  some ((), ((x3, ()), ()))
def c_ref15_Begin : List Nat := []
def L_ref15_Begin (_ : Nat) : Pts po_ref15_Begin.den := []
def E_ref15_Begin : Env := (E0.add 121 (typedSem pi_ref05_Of po_ref05_Of g_ref05_Of))
theorem q_ref15_Begin_m (k : Nat) (d : Unit × Unit) : evCode E_ref15_Begin (tab (L_ref15_Begin k)) c_ref15_Begin (bodyOf Try.f87) 0 (finK E_ref15_Begin po_ref15_Begin [.tmp 0]) (startSt pi_ref15_Begin 4 d) = f_ref15_Begin_m () d := by kernel_rfl
def g_ref15_Begin (d : Unit × Unit) : Option (Unit × ((Int × Unit) × Unit)) := f_ref15_Begin_m () d
theorem ok_ref15_Begin : FnOk Try.prog ET0 87 pi_ref15_Begin po_ref15_Begin g_ref15_Begin :=
  fn_of_body (E := E_ref15_Begin) (envOk_add e0_ok (typed_ok ok_ref05_Of)) (fn := Try.f87) Try.func87 (by kernel_rfl) (by kernel_rfl) [.tmp 0] (by kernel_rfl) (by kernel_rfl) (by decide) rfl c_ref15_Begin L_ref15_Begin
    (by intro x hx; cases hx) (by intro k x hx; cases hx) (fun d out h => ⟨0, (q_ref15_Begin_m 0 d).trans h⟩)

/- horologe/horologeref15.Ahead -/
@[reducible] def pi_ref15_Ahead : PSh := ⟨[], [.mk false [.v (.int .i64)]]⟩
@[reducible] def po_ref15_Ahead : PSh := ⟨[], [.mk false [.v (.int .i64)], .mk false [.v (.int .i64)]]⟩
def f_ref15_Ahead_m (T : Unit) (d : Unit × ((Int × Unit) × Unit)) : Option (Unit × ((Int × Unit) × ((Int × Unit) × Unit))) :=
  (g_ref01_Of ((), ((d.2.1.1, ()), ()))).bind fun x1 =>
  (g_ref15_Begin ((), ())).bind fun x2 =>
  (g_ref01_Of ((), ((x2.2.1.1, ()), ()))).bind fun x3 =>
  (g_ref01_Plus ((), ((x1.2.1.1, (x1.1.1, ())), ((x3.2.1.1, (x3.1.1, ())), ())))).bind fun x4 =>
  (g_ref01_Small ((), ((x4.2.1.1, (x4.2.1.2.1, ())), ()))).bind fun x5 =>
  some ((), ((x5.2.1.1, ()), ((x5.2.2.1.1, ()), ())))
def c_ref15_Ahead : List Nat := []
def L_ref15_Ahead (_ : Nat) : Pts po_ref15_Ahead.den := []
def E_ref15_Ahead : Env := (((((E0.add 79 (typedSem pi_ref01_Of po_ref01_Of g_ref01_Of)).add 80 (typedSem pi_ref01_Plus po_ref01_Plus g_ref01_Plus)).add 84 (typedSem pi_ref01_Small po_ref01_Small g_ref01_Small)).add 87 (typedSem pi_ref15_Begin po_ref15_Begin g_ref15_Begin)).fr [(8, [5, 7])])
theorem q_ref15_Ahead_m (k : Nat) (d : Unit × ((Int × Unit) × Unit)) : evCode E_ref15_Ahead (tab (L_ref15_Ahead k)) c_ref15_Ahead (bodyOf Try.f35) 0 (finK E_ref15_Ahead po_ref15_Ahead [.tmp 2, .tmp 3]) (startSt pi_ref15_Ahead 12 d) = f_ref15_Ahead_m () d := by kernel_rfl
def g_ref15_Ahead (d : Unit × ((Int × Unit) × Unit)) : Option (Unit × ((Int × Unit) × ((Int × Unit) × Unit))) := f_ref15_Ahead_m () d
theorem ok_ref15_Ahead : FnOk Try.prog ET0 35 pi_ref15_Ahead po_ref15_Ahead g_ref15_Ahead :=
  fn_of_body (E := E_ref15_Ahead) (envOk_fr (envOk_add (envOk_add (envOk_add (envOk_add e0_ok (typed_ok ok_ref01_Of)) (typed_ok ok_ref01_Plus)) (typed_ok ok_ref01_Small)) (typed_ok ok_ref15_Begin))) (fn := Try.f35) Try.func35 (by kernel_rfl) (by kernel_rfl) [.tmp 2, .tmp 3] (by kernel_rfl) (by kernel_rfl) (by decide) rfl c_ref15_Ahead L_ref15_Ahead
    (by intro x hx; cases hx) (by intro k x hx; cases hx) (fun d out h => ⟨0, (q_ref15_Ahead_m 0 d).trans h⟩)

/- horologe/horologeref15.Back -/
@[reducible] def pi_ref15_Back : PSh := ⟨[], [.mk false [.v (.int .i64)]]⟩
@[reducible] def po_ref15_Back : PSh := ⟨[], [.mk false [.v (.int .i64)], .mk false [.v (.int .i64)]]⟩
def f_ref15_Back_m (T : Unit) (d : Unit × ((Int × Unit) × Unit)) : Option (Unit × ((Int × Unit) × ((Int × Unit) × Unit))) :=
  (g_ref01_Of ((), ((d.2.1.1, ()), ()))).bind fun x1 =>
  (g_ref15_Begin ((), ())).bind fun x2 =>
  (g_ref01_Of ((), ((x2.2.1.1, ()), ()))).bind fun x3 =>
  (g_ref01_Minus ((), ((x3.2.1.1, (x3.1.1, ())), ()))).bind fun x4 =>
  (g_ref01_Plus ((), ((x1.2.1.1, (x1.1.1, ())), ((x4.2.1.1, (x4.2.1.2.1, ())), ())))).bind fun x5 =>
  (g_ref01_Small ((), ((x5.2.1.1, (x5.2.1.2.1, ())), ()))).bind fun x6 =>
  some ((), ((x6.2.1.1, ()), ((x6.2.2.1.1, ()), ())))
def c_ref15_Back : List Nat := []
def L_ref15_Back (_ : Nat) : Pts po_ref15_Back.den := []
def E_ref15_Back : Env := ((((((E0.add 79 (typedSem pi_ref01_Of po_ref01_Of g_ref01_Of)).add 80 (typedSem pi_ref01_Plus po_ref01_Plus g_ref01_Plus)).add 81 (typedSem pi_ref01_Minus po_ref01_Minus g_ref01_Minus)).add 84 (typedSem pi_ref01_Small po_ref01_Small g_ref01_Small)).add 87 (typedSem pi_ref15_Begin po_ref15_Begin g_ref15_Begin)).fr [(8, [7]), (9, [5])])
theorem q_ref15_Back_m (k : Nat) (d : Unit × ((Int × Unit) × Unit)) : evCode E_ref15_Back (tab (L_ref15_Back k)) c_ref15_Back (bodyOf Try.f36) 0 (finK E_ref15_Back po_ref15_Back [.tmp 2, .tmp 3]) (startSt pi_ref15_Back 13 d) = f_ref15_Back_m () d := by kernel_rfl
def g_ref15_Back (d : Unit × ((Int × Unit) × Unit)) : Option (Unit × ((Int × Unit) × ((Int × Unit) × Unit))) := f_ref15_Back_m () d
theorem ok_ref15_Back : FnOk Try.prog ET0 36 pi_ref15_Back po_ref15_Back g_ref15_Back :=
  fn_of_body (E := E_ref15_Back) (envOk_fr (envOk_add (envOk_add (envOk_add (envOk_add (envOk_add e0_ok (typed_ok ok_ref01_Of)) (typed_ok ok_ref01_Plus)) (typed_ok ok_ref01_Minus)) (typed_ok ok_ref01_Small)) (typed_ok ok_ref15_Begin))) (fn := Try.f36) Try.func36 (by kernel_rfl) (by kernel_rfl) [.tmp 2, .tmp 3] (by kernel_rfl) (by kernel_rfl) (by decide) rfl c_ref15_Back L_ref15_Back
    (by intro x hx; cases hx) (by intro k x hx; cases hx) (fun d out h => ⟨0, (q_ref15_Back_m 0 d).trans h⟩)

/- horologe/horologelaw15.StampTimes -/
@[reducible] def pi_law15_StampTimes : PSh := ⟨[], [.mk false [.v (.int .i64)], .mk false [.v (.int .i64)], .mk false [.v (.int .i64)]]⟩
@[reducible] def po_law15_StampTimes : PSh := ⟨[], [.mk false [.v .bool]]⟩
@[reducible] def TT_law15_StampTimes : Type := (((((Int × (Int × Unit)) × Unit) × ((Int × Unit) × ((Int × Unit) × (Unit × Unit)))) → Option (Unit × ((Bool × Unit) × Unit))) × (((Unit × ((Int × Unit) × ((Bool × Unit) × Unit))) → Option (Unit × ((Bool × Unit) × Unit))) × Unit))
@[reducible] def sh_law15_StampTimes_5 : PSh := ⟨[.var 51 [.v (.int .u32), .v (.int .u32)]], [.mk false [.v (.int .i64)], .mk false [.v (.int .i64)], .any, .any, .any, .any, .any, .mk false [.ref 0 0], .any, .any, .any, .any, .any, .any, .any, .any, .any, .any, .any, .any, .any, .any, .any, .any, .any, .any, .any, .any, .any, .any, .any, .any, .any, .any, .any, .any, .any, .any, .any, .any, .any, .any, .any, .any, .any, .any, .any, .any, .any, .any, .any, .any, .any, .any, .any, .any, .any, .any, .any, .any, .any, .any, .any, .any, .any, .any, .any, .any, .any, .any, .any, .any, .any, .any, .any, .any, .any, .any, .any, .any, .any, .any, .any, .any, .any, .any, .any, .any, .any, .any, .any, .any, .any, .any, .any, .any, .any, .any, .any, .any, .any, .any, .any, .any, .any, .any, .any, .any, .any, .any, .any, .any, .any, .any, .any, .any, .any, .any, .any, .any, .any, .any, .any, .any, .any, .any, .any, .any, .any, .any, .any, .any, .any, .any, .any, .any, .any, .any, .any, .any, .any, .any, .any, .any, .any, .any, .any, .any, .any]⟩
@[reducible] def sh_law15_StampTimes_14 : PSh := ⟨[], [.mk false [.v (.int .i64)], .any, .any, .any, .any, .any, .any, .any, .any, .any, .any, .any, .any, .any, .any, .any, .any, .any, .any, .any, .any, .any, .any, .any, .any, .any, .any, .any, .any, .any, .any, .any, .any, .any, .any, .any, .any, .any, .any, .any, .any, .any, .any, .any, .any, .any, .any, .any, .any, .any, .any, .any, .any, .any, .any, .any, .any, .any, .any, .any, .any, .any, .any, .any, .any, .any, .any, .any, .any, .any, .any, .any, .any, .any, .any, .any, .any, .any, .any, .any, .any, .any, .any, .any, .any, .any, .any, .any, .any, .any, .any, .any, .any, .any, .any, .any, .any, .any, .any, .any, .any, .any, .any, .any, .any, .any, .any, .any, .mk false [.v .bool], .any, .any, .any, .any, .any, .any, .any, .any, .any, .any, .any, .any, .any, .any, .any, .any, .any, .any, .any, .any, .any, .any, .any, .any, .any, .any, .any, .any, .any, .any, .any, .any, .any, .any, .any, .any, .any, .any, .any, .any]⟩
def f_law15_StampTimes_p5 (T : TT_law15_StampTimes) (d : ((Int × (Int × Unit)) × Unit) × ((Int × Unit) × ((Int × Unit) × (Unit × Unit)))) : Option (Unit × ((Bool × Unit) × Unit)) :=
  (g_stamp_Time ((), ((d.1.1.1, (d.1.1.2.1, ())), ((d.2.2.1.1, ()), ())))).bind fun x20 =>
  let x21 : Int := (iconv .u64 d.1.1.1)
  (g_ref13_Bits ((), ((x21, ()), (((32 : Int), ()), ((d.2.2.1.1, ()), ()))))).bind fun x22 =>
  let x23 : Bool := (x20.2.1.1 != x22.2.1.1)
  bif x23 then (
  (T.2.1 ((), ((d.2.1.1, ()), ((true, ()), ())))))
  else (
  (g_hnum_Num ((), ((x20.2.2.2.1.1, ()), ()))).bind fun x24 =>
  let x25 : Bool := (x24.2.1.1 != x22.2.2.1.1)
  bif x25 then (
  (T.2.1 ((), ((d.2.1.1, ()), ((true, ()), ())))))
  else (
  let x26 : Bool := (x22.2.2.1.1 != (0 : Int))
  bif x26 then (
  let x27 : Bool := (x20.2.2.1.1 != (0 : Int))
  bif x27 then (
  (T.2.1 ((), ((d.2.1.1, ()), ((true, ()), ())))))
  else (
  let x28 : Bool := (x22.2.2.1.1 == (0 : Int))
  bif x28 then (
  let x29 : Bool := (decide (x20.2.2.1.1 < (0 : Int)))
  bif x29 then (
  (T.2.1 ((), ((d.2.1.1, ()), ((true, ()), ())))))
  else (
  let x30 : Int := (iconv .u64 x20.2.2.1.1)
  let x31 : Int := (iconv .u64 d.1.1.2.1)
  (g_ref15_Whole ((), ((x30, ()), ((x31, ()), (((4294967296 : Int), ()), ()))))).bind fun x32 =>
  let x33 : Bool := (!x32.2.1.1)
  (T.2.1 ((), ((d.2.1.1, ()), ((x33, ()), ()))))))
  else (
  (T.2.1 ((), ((d.2.1.1, ()), ((false, ()), ())))))))
  else (
  let x34 : Bool := (x22.2.2.1.1 == (0 : Int))
  bif x34 then (
  let x35 : Bool := (decide (x20.2.2.1.1 < (0 : Int)))
  bif x35 then (
  (T.2.1 ((), ((d.2.1.1, ()), ((true, ()), ())))))
  else (
  let x36 : Int := (iconv .u64 x20.2.2.1.1)
  let x37 : Int := (iconv .u64 d.1.1.2.1)
  (g_ref15_Whole ((), ((x36, ()), ((x37, ()), (((4294967296 : Int), ()), ()))))).bind fun x38 =>
  let x39 : Bool := (!x38.2.1.1)
  (T.2.1 ((), ((d.2.1.1, ()), ((x39, ()), ()))))))
  else (
  (T.2.1 ((), ((d.2.1.1, ()), ((false, ()), ()))))))))
def f_law15_StampTimes_p14 (T : TT_law15_StampTimes) (d : Unit × ((Int × Unit) × ((Bool × Unit) × Unit))) : Option (Unit × ((Bool × Unit) × Unit)) :=
  bif d.2.2.1.1 then (
  some ((), ((false, ()), ())))
  else (
  (g_stamp_FromPosix ((), ((d.2.1.1, ()), ()))).bind fun x40 =>
  (g_stamp_ToPosix ((), ((d.2.1.1, ()), ()))).bind fun x41 =>
  (g_ref15_Ahead ((), ((d.2.1.1, ()), ()))).bind fun x42 =>
  (g_ref15_Back ((), ((d.2.1.1, ()), ()))).bind fun x43 =>
  let x44 : Bool := (x40.2.1.1 == x42.2.1.1)
  bif x44 then (
  let x45 : Bool := (x41.2.1.1 == x43.2.1.1)
  bif x45 then (
  (g_hnum_Num ((), ((x40.2.2.1.1, ()), ()))).bind fun x46 =>
  let x47 : Bool := (x46.2.1.1 == x42.2.2.1.1)
  bif x47 then (
  (g_hnum_Num ((), ((x41.2.2.1.1, ()), ()))).bind fun x48 =>
  let x49 : Bool := (x48.2.1.1 == x43.2.2.1.1)
  some ((), ((x49, ()), ())))
  else (
  some ((), ((false, ()), ()))))
  else (
  some ((), ((false, ()), ()))))
  else (
  some ((), ((false, ()), ()))))
def f_law15_StampTimes_t : Nat → TT_law15_StampTimes
  | 0 => (fun _ => none, (fun _ => none, ()))
  | k + 1 => (f_law15_StampTimes_p5 (f_law15_StampTimes_t k), (f_law15_StampTimes_p14 (f_law15_StampTimes_t k), ()))
theorem t_law15_StampTimes (k : Nat) : f_law15_StampTimes_t (k + 1) = (f_law15_StampTimes_p5 (f_law15_StampTimes_t k), (f_law15_StampTimes_p14 (f_law15_StampTimes_t k), ())) := rfl
def f_law15_StampTimes_m (T : TT_law15_StampTimes) (d : Unit × ((Int × Unit) × ((Int × Unit) × ((Int × Unit) × Unit)))) : Option (Unit × ((Bool × Unit) × Unit)) :=
  (g_law15_alive ((), ())).bind fun x1 =>
  let x2 : Bool := (!x1.2.1.1)
  bif x2 then (
  some ((), ((false, ()), ())))
  else (
  (g_stamp_Of ((), ((d.2.1.1, ()), ((d.2.2.2.1.1, ()), ())))).bind fun x3 =>
  let x4 : Bool := (decide (d.2.2.2.1.1 < (0 : Int)))
  bif x4 then (
  let x5 : Bool := (!((x3.2.1.1 == (0 : Int)) && ((x3.2.1.2.1 == (0 : Int)) && true)))
  bif x5 then (
  some ((), ((false, ()), ())))
  else (
  (g_hnum_Is ((), ((x3.2.2.1.1, ()), (((1 : Int), ()), ())))).bind fun x6 =>
  let x7 : Bool := (!x6.2.1.1)
  bif x7 then (
  some ((), ((false, ()), ())))
  else (
  (T.1 (((x3.2.1.1, (x3.2.1.2.1, ())), ()), ((d.2.1.1, ()), ((d.2.2.1.1, ()), ((), ()))))))))
  else (
  let x8 : Bool := (decide (d.2.2.2.1.1 > (999999999 : Int)))
  bif x8 then (
  let x9 : Bool := (!((x3.2.1.1 == (0 : Int)) && ((x3.2.1.2.1 == (0 : Int)) && true)))
  bif x9 then (
  some ((), ((false, ()), ())))
  else (
  (g_hnum_Is ((), ((x3.2.2.1.1, ()), (((1 : Int), ()), ())))).bind fun x10 =>
  let x11 : Bool := (!x10.2.1.1)
  bif x11 then (
  some ((), ((false, ()), ())))
  else (
  (T.1 (((x3.2.1.1, (x3.2.1.2.1, ())), ()), ((d.2.1.1, ()), ((d.2.2.1.1, ()), ((), ()))))))))
  else (
  let x12 : Bool := (!x3.2.2.1.1.isNone)
  bif x12 then (
  some ((), ((false, ()), ())))
  else (
  let x13 : Int := (iconv .i64 x3.2.1.1)
  (g_ref13_Fold ((), ((d.2.1.1, ()), (((32 : Int), ()), ())))).bind fun x14 =>
  let x15 : Bool := (x13 != x14.2.1.1)
  bif x15 then (
  some ((), ((false, ()), ())))
  else (
  let x16 : Int := (iconv .u64 x3.2.1.2.1)
  let x17 : Int := (iconv .u64 d.2.2.2.1.1)
  (g_ref15_Least ((), ((x16, ()), (((4294967296 : Int), ()), ((x17, ()), ()))))).bind fun x18 =>
  let x19 : Bool := (!x18.2.1.1)
  bif x19 then (
  some ((), ((false, ()), ())))
  else (
  (T.1 (((x3.2.1.1, (x3.2.1.2.1, ())), ()), ((d.2.1.1, ()), ((d.2.2.1.1, ()), ((), ())))))))))))
def c_law15_StampTimes : List Nat := [5, 14]
def L_law15_StampTimes (k : Nat) : Pts po_law15_StampTimes.den := [(5, ⟨sh_law15_StampTimes_5, (f_law15_StampTimes_t k).1⟩), (14, ⟨sh_law15_StampTimes_14, (f_law15_StampTimes_t k).2.1⟩)]
def E_law15_StampTimes : Env := (((((((((((((E0.add 15 (typedSem pi_law15_alive po_law15_alive g_law15_alive)).add 17 (typedSem pi_ref15_Whole po_ref15_Whole g_ref15_Whole)).add 21 (typedSem pi_hnum_Is po_hnum_Is g_hnum_Is)).add 22 (typedSem pi_ref15_Least po_ref15_Least g_ref15_Least)).add 27 (typedSem pi_hnum_Num po_hnum_Num g_hnum_Num)).add 29 (typedSem pi_stamp_Of po_stamp_Of g_stamp_Of)).add 30 (typedSem pi_ref13_Fold po_ref13_Fold g_ref13_Fold)).add 31 (typedSem pi_stamp_Time po_stamp_Time g_stamp_Time)).add 32 (typedSem pi_ref13_Bits po_ref13_Bits g_ref13_Bits)).add 33 (typedSem pi_stamp_FromPosix po_stamp_FromPosix g_stamp_FromPosix)).add 34 (typedSem pi_stamp_ToPosix po_stamp_ToPosix g_stamp_ToPosix)).add 35 (typedSem pi_ref15_Ahead po_ref15_Ahead g_ref15_Ahead)).add 36 (typedSem pi_ref15_Back po_ref15_Back g_ref15_Back))
theorem q_law15_StampTimes_5 (k : Nat) (d : ((Int × (Int × Unit)) × Unit) × ((Int × Unit) × ((Int × Unit) × (Unit × Unit)))) : evAt E_law15_StampTimes (tab (L_law15_StampTimes k)) c_law15_StampTimes 5 (bodyOf Try.f5) 0 (finK E_law15_StampTimes po_law15_StampTimes [.tmp 6]) (ptSt sh_law15_StampTimes_5 d) = f_law15_StampTimes_p5 (f_law15_StampTimes_t k) d := by kernel_rfl
theorem q_law15_StampTimes_14 (k : Nat) (d : Unit × ((Int × Unit) × ((Bool × Unit) × Unit))) : evAt E_law15_StampTimes (tab (L_law15_StampTimes k)) c_law15_StampTimes 14 (bodyOf Try.f5) 0 (finK E_law15_StampTimes po_law15_StampTimes [.tmp 6]) (ptSt sh_law15_StampTimes_14 d) = f_law15_StampTimes_p14 (f_law15_StampTimes_t k) d := by kernel_rfl
theorem q_law15_StampTimes_m (k : Nat) (d : Unit × ((Int × Unit) × ((Int × Unit) × ((Int × Unit) × Unit)))) : evCode E_law15_StampTimes (tab (L_law15_StampTimes k)) c_law15_StampTimes (bodyOf Try.f5) 0 (finK E_law15_StampTimes po_law15_StampTimes [.tmp 6]) (startSt pi_law15_StampTimes 149 d) = f_law15_StampTimes_m (f_law15_StampTimes_t k) d := by kernel_rfl
theorem go_law15_StampTimes (G : Unit × ((Int × Unit) × ((Int × Unit) × ((Int × Unit) × Unit))) → Option (Unit × ((Bool × Unit) × Unit))) (hG : ∀ d out, G d = some out → ∃ k, f_law15_StampTimes_m (f_law15_StampTimes_t k) d = some out) : FnOk Try.prog ET0 5 pi_law15_StampTimes po_law15_StampTimes G :=
  fn_of_body (E := E_law15_StampTimes) (envOk_add (envOk_add (envOk_add (envOk_add (envOk_add (envOk_add (envOk_add (envOk_add (envOk_add (envOk_add (envOk_add (envOk_add (envOk_add e0_ok (typed_ok ok_law15_alive)) (typed_ok ok_ref15_Whole)) (typed_ok ok_hnum_Is)) (typed_ok ok_ref15_Least)) (typed_ok ok_hnum_Num)) (typed_ok ok_stamp_Of)) (typed_ok ok_ref13_Fold)) (typed_ok ok_stamp_Time)) (typed_ok ok_ref13_Bits)) (typed_ok ok_stamp_FromPosix)) (typed_ok ok_stamp_ToPosix)) (typed_ok ok_ref15_Ahead)) (typed_ok ok_ref15_Back)) (fn := Try.f5) Try.func5 (by kernel_rfl) (by kernel_rfl) [.tmp 6] (by kernel_rfl) (by kernel_rfl) (by decide) rfl c_law15_StampTimes L_law15_StampTimes
    (by intro x hx d; simp only [L_law15_StampTimes, List.mem_cons, List.not_mem_nil, or_false] at hx; rcases hx with rfl | rfl; rfl; rfl)
    (by intro k x hx d out h; simp only [L_law15_StampTimes, List.mem_cons, List.not_mem_nil, or_false] at hx; rcases hx with rfl | rfl; exact (q_law15_StampTimes_5 k d).trans h; exact (q_law15_StampTimes_14 k d).trans h)
    (by intro d out h; obtain ⟨k, hk⟩ := hG d out h; exact ⟨k, (q_law15_StampTimes_m k d).trans hk⟩)
def g_law15_StampTimes (d : Unit × ((Int × Unit) × ((Int × Unit) × ((Int × Unit) × Unit)))) : Option (Unit × ((Bool × Unit) × Unit)) := lim fun k => f_law15_StampTimes_m (f_law15_StampTimes_t k) d
theorem ok_law15_StampTimes : FnOk Try.prog ET0 5 pi_law15_StampTimes po_law15_StampTimes g_law15_StampTimes := go_law15_StampTimes g_law15_StampTimes fun d out h => lim_some h

/- horologe/horologenum.Bytes -/
@[reducible] def pi_hnum_Bytes : PSh := ⟨[], [.mk false [.v (.sl (.int .u8))], .mk false [.v (.sl (.int .u8))]]⟩
@[reducible] def po_hnum_Bytes : PSh := ⟨[], [.mk false [.v .bool]]⟩
def f_hnum_Bytes_m (T : Unit) (d : Unit × (((List Int) × Unit) × (((List Int) × Unit) × Unit))) : Option (Unit × ((Bool × Unit) × Unit)) :=
  let x1 : ByteArray := (strOf d.2.1.1)
  let x2 : ByteArray := (strOf d.2.2.1.1)
  let x3 : Bool := (x1.toList == x2.toList)
  some ((), ((x3, ()), ()))
def c_hnum_Bytes : List Nat := []
def L_hnum_Bytes (_ : Nat) : Pts po_hnum_Bytes.den := []
def E_hnum_Bytes : Env := E0
theorem q_hnum_Bytes_m (k : Nat) (d : Unit × (((List Int) × Unit) × (((List Int) × Unit) × Unit))) : evCode E_hnum_Bytes (tab (L_hnum_Bytes k)) c_hnum_Bytes (bodyOf Try.f28) 0 (finK E_hnum_Bytes po_hnum_Bytes [.tmp 4]) (startSt pi_hnum_Bytes 10 d) = f_hnum_Bytes_m () d := by kernel_rfl
def g_hnum_Bytes (d : Unit × (((List Int) × Unit) × (((List Int) × Unit) × Unit))) : Option (Unit × ((Bool × Unit) × Unit)) := f_hnum_Bytes_m () d
theorem ok_hnum_Bytes : FnOk Try.prog ET0 28 pi_hnum_Bytes po_hnum_Bytes g_hnum_Bytes :=
  fn_of_body (E := E_hnum_Bytes) e0_ok (fn := Try.f28) Try.func28 (by kernel_rfl) (by kernel_rfl) [.tmp 4] (by kernel_rfl) (by kernel_rfl) (by decide) rfl c_hnum_Bytes L_hnum_Bytes
    (by intro x hx; cases hx) (by intro k x hx; cases hx) (fun d out h => ⟨0, (q_hnum_Bytes_m 0 d).trans h⟩)

/- horologe/head.in -/
@[reducible] def pi_head_in : PSh := ⟨[], [.mk false [.v (.int .i64)], .mk false [.v (.int .i64)]]⟩
@[reducible] def po_head_in : PSh := ⟨[], [.mk false [.v .bool]]⟩
def f_head_in_m (T : Unit) (d : Unit × ((Int × Unit) × ((Int × Unit) × Unit))) : Option (Unit × ((Bool × Unit) × Unit)) :=
  let x1 : Bool := (decide (d.2.1.1 ≥ (0 : Int)))
  bif x1 then (
  let x2 : Bool := (decide (d.2.1.1 ≤ d.2.2.1.1))
  some ((), ((x2, ()), ())))
  else (
  some ((), ((false, ()), ())))
def c_head_in : List Nat := []
def L_head_in (_ : Nat) : Pts po_head_in.den := []
def E_head_in : Env := E0
theorem q_head_in_m (k : Nat) (d : Unit × ((Int × Unit) × ((Int × Unit) × Unit))) : evCode E_head_in (tab (L_head_in k)) c_head_in (bodyOf Try.f90) 0 (finK E_head_in po_head_in [.tmp 4]) (startSt pi_head_in 12 d) = f_head_in_m () d := by kernel_rfl
def g_head_in (d : Unit × ((Int × Unit) × ((Int × Unit) × Unit))) : Option (Unit × ((Bool × Unit) × Unit)) := f_head_in_m () d
theorem ok_head_in : FnOk Try.prog ET0 90 pi_head_in po_head_in g_head_in :=
  fn_of_body (E := E_head_in) e0_ok (fn := Try.f90) Try.func90 (by kernel_rfl) (by kernel_rfl) [.tmp 4] (by kernel_rfl) (by kernel_rfl) (by decide) rfl c_head_in L_head_in
    (by intro x hx; cases hx) (by intro k x hx; cases hx) (fun d out h => ⟨0, (q_head_in_m 0 d).trans h⟩)

/- horologe/head.Check -/
@[reducible] def pi_head_Check : PSh := ⟨[], [.mk true [.v (.int .i64), .v (.int .i64), .v (.int .i64), .v (.int .u8), .v (.int .i8), .v (.int .i8), .v (.int .u16), .v (.int .u16), .v (.int .u16), .v (.int .u16), .v (.int .u8), .v (.int .u8), .v (.int .u8), .v (.int .u8), .v (.int .u32), .v (.int .u32), .v (.int .u32), .v (.int .u32), .v (.int .u32), .v (.int .u32), .v (.int .u32), .v (.int .u32)]]⟩
@[reducible] def po_head_Check : PSh := ⟨[], [.mk false [.v .err]]⟩
def f_head_Check_m (T : Unit) (d : Unit × ((Int × (Int × (Int × (Int × (Int × (Int × (Int × (Int × (Int × (Int × (Int × (Int × (Int × (Int × (Int × (Int × (Int × (Int × (Int × (Int × (Int × (Int × Unit)))))))))))))))))))))) × Unit)) : Option (Unit × (((Option Int) × Unit) × Unit)) :=
  (g_head_in ((), ((d.2.1.1, ()), (((3 : Int), ()), ())))).bind fun x1 =>
  let x2 : Bool := (!x1.2.1.1)
  bif x2 then (
  let x3 : (Option Int) := (some (1 : Int))
  some ((), ((x3, ()), ())))
  else (
  (g_head_in ((), ((d.2.1.2.1, ()), (((7 : Int), ()), ())))).bind fun x4 =>
  let x5 : Bool := (!x4.2.1.1)
  bif x5 then (
  let x6 : (Option Int) := (some (1 : Int))
  some ((), ((x6, ()), ())))
  else (
  (g_head_in ((), ((d.2.1.2.2.1, ()), (((7 : Int), ()), ())))).bind fun x7 =>
  let x8 : Bool := (!x7.2.1.1)
  bif x8 then (
  let x9 : (Option Int) := (some (1 : Int))
  some ((), ((x9, ()), ())))
  else (
  some ((), (((none : Option Int), ()), ())))))
def c_head_Check : List Nat := []
def L_head_Check (_ : Nat) : Pts po_head_Check.den := []
def E_head_Check : Env := (E0.add 90 (typedSem pi_head_in po_head_in g_head_in))
theorem q_head_Check_m (k : Nat) (d : Unit × ((Int × (Int × (Int × (Int × (Int × (Int × (Int × (Int × (Int × (Int × (Int × (Int × (Int × (Int × (Int × (Int × (Int × (Int × (Int × (Int × (Int × (Int × Unit)))))))))))))))))))))) × Unit)) : evCode E_head_Check (tab (L_head_Check k)) c_head_Check (bodyOf Try.f41) 0 (finK E_head_Check po_head_Check [.tmp 2]) (startSt pi_head_Check 20 d) = f_head_Check_m () d := by kernel_rfl
def g_head_Check (d : Unit × ((Int × (Int × (Int × (Int × (Int × (Int × (Int × (Int × (Int × (Int × (Int × (Int × (Int × (Int × (Int × (Int × (Int × (Int × (Int × (Int × (Int × (Int × Unit)))))))))))))))))))))) × Unit)) : Option (Unit × (((Option Int) × Unit) × Unit)) := f_head_Check_m () d
theorem ok_head_Check : FnOk Try.prog ET0 41 pi_head_Check po_head_Check g_head_Check :=
  fn_of_body (E := E_head_Check) (envOk_add e0_ok (typed_ok ok_head_in)) (fn := Try.f41) Try.func41 (by kernel_rfl) (by kernel_rfl) [.tmp 2] (by kernel_rfl) (by kernel_rfl) (by decide) rfl c_head_Check L_head_Check
    (by intro x hx; cases hx) (by intro k x hx; cases hx) (fun d out h => ⟨0, (q_head_Check_m 0 d).trans h⟩)

/- slices.Clone[[]byte,byte] -/
@[reducible] def pi_slices_Clone_byte_byte : PSh := ⟨[], [.mk false [.v (.sl (.int .u8))]]⟩
@[reducible] def po_slices_Clone_byte_byte : PSh := ⟨[.row 5 (.int .u8)], [.mk false [.osl 0]]⟩
def f_slices_Clone_byte_byte_m (T : Unit) (d : Unit × (((List Int) × Unit) × Unit)) : Option (((List Int) × Unit) × (Unit × Unit)) :=
  bif d.2.1.1.isEmpty then (
  agree (
  some ((([] : List Int), ()), ((), ()))) (
  let x1 : (List Int) := ([] : List Int)
  bif decide (((x1.length + d.2.1.1.length) * 1 : Nat) ≤ 140737488355328) && decide (x1.length + d.2.1.1.length ≤ 9223372036854775807) then (
  let x2 : (List Int) := (x1 ++ d.2.1.1)
  some ((x2, ()), ((), ())))
  else none))
  else (
  let x3 : (List Int) := ([] : List Int)
  bif decide (((x3.length + d.2.1.1.length) * 1 : Nat) ≤ 140737488355328) && decide (x3.length + d.2.1.1.length ≤ 9223372036854775807) then (
  let x4 : (List Int) := (x3 ++ d.2.1.1)
  some ((x4, ()), ((), ())))
  else none)
def c_slices_Clone_byte_byte : List Nat := []
def L_slices_Clone_byte_byte (_ : Nat) : Pts po_slices_Clone_byte_byte.den := []
def E_slices_Clone_byte_byte : Env := E0
theorem q_slices_Clone_byte_byte_m (k : Nat) (d : Unit × (((List Int) × Unit) × Unit)) : evCode E_slices_Clone_byte_byte (tab (L_slices_Clone_byte_byte k)) c_slices_Clone_byte_byte (bodyOf Try.f76) 0 (finK E_slices_Clone_byte_byte po_slices_Clone_byte_byte [.tmp 2]) (startSt pi_slices_Clone_byte_byte 8 d) = f_slices_Clone_byte_byte_m () d := by kernel_rfl
def g_slices_Clone_byte_byte (d : Unit × (((List Int) × Unit) × Unit)) : Option (((List Int) × Unit) × (Unit × Unit)) := f_slices_Clone_byte_byte_m () d
theorem ok_slices_Clone_byte_byte : FnOk Try.prog ET0 76 pi_slices_Clone_byte_byte po_slices_Clone_byte_byte g_slices_Clone_byte_byte :=
  fn_of_body (E := E_slices_Clone_byte_byte) e0_ok (fn := Try.f76) Try.func76 (by kernel_rfl) (by kernel_rfl) [.tmp 2] (by kernel_rfl) (by kernel_rfl) (by decide) rfl c_slices_Clone_byte_byte L_slices_Clone_byte_byte
    (by intro x hx; cases hx) (by intro k x hx; cases hx) (fun d out h => ⟨0, (q_slices_Clone_byte_byte_m 0 d).trans h⟩)

/- horologe/octets.Put[uint32] -/
@[reducible] def pi_octets_Put_u32 : PSh := ⟨[], [.mk false [.v (.sl (.int .u8))], .mk false [.v (.sl (.int .u32))]]⟩
@[reducible] def po_octets_Put_u32 : PSh := ⟨[.row 5 (.int .u8)], [.mk false [.osl 0]]⟩
@[reducible] def TT_octets_Put_u32 : Type := (((((List Int) × Unit) × ((Int × Unit) × (Unit × (((List Int) × Unit) × ((Int × Unit) × ((Int × Unit) × Unit)))))) → Option (((List Int) × Unit) × (Unit × Unit))) × (((((List Int) × Unit) × ((Int × Unit) × (Unit × ((Int × Unit) × ((Int × Unit) × (((List Int) × Unit) × ((Int × Unit) × ((Int × Unit) × Unit)))))))) → Option (((List Int) × Unit) × (Unit × Unit))) × Unit))
@[reducible] def sh_octets_Put_u32_5 : PSh := ⟨[.row 5 (.int .u8)], [.any, .any, .any, .any, .any, .mk false [.v (.int .i64)], .mk false [.osl 0], .any, .any, .any, .any, .any, .any, .mk false [.v (.sl (.int .u32))], .mk false [.v (.int .i64)], .mk false [.v (.int .i64)], .any, .any, .any, .any, .any, .any, .any, .any, .any, .any, .any, .any, .any, .any, .any, .any, .any, .any, .any, .any]⟩
@[reducible] def sh_octets_Put_u32_11 : PSh := ⟨[.row 5 (.int .u8)], [.any, .any, .any, .any, .any, .mk false [.v (.int .i64)], .mk false [.osl 0], .any, .mk false [.v (.int .u32)], .mk false [.v (.int .i64)], .any, .any, .any, .mk false [.v (.sl (.int .u32))], .mk false [.v (.int .i64)], .mk false [.v (.int .i64)], .any, .any, .any, .any, .any, .any, .any, .any, .any, .any, .any, .any, .any, .any, .any, .any, .any, .any, .any, .any]⟩
def f_octets_Put_u32_p5 (T : TT_octets_Put_u32) (d : ((List Int) × Unit) × ((Int × Unit) × (Unit × (((List Int) × Unit) × ((Int × Unit) × ((Int × Unit) × Unit)))))) : Option (((List Int) × Unit) × (Unit × Unit)) :=
  let x4 : Bool := (decide (d.2.2.2.2.2.1.1 < d.2.2.2.2.1.1))
  bif x4 then (
  bif decide ((0 : Int) ≤ d.2.2.2.2.2.1.1) && decide (d.2.2.2.2.2.1.1 < (d.2.2.2.1.1.length : Int)) then (
  let x5 : Int := (isub .i64 d.2.1.1 (1 : Int))
  (T.2.1 ((d.1.1, ()), ((d.2.1.1, ()), ((), (((gd (.int .u32) d.2.2.2.1.1 d.2.2.2.2.2.1.1), ()), ((x5, ()), ((d.2.2.2.1.1, ()), ((d.2.2.2.2.1.1, ()), ((d.2.2.2.2.2.1.1, ()), ()))))))))))
  else none)
  else (
  some ((d.1.1, ()), ((), ())))
def f_octets_Put_u32_p11 (T : TT_octets_Put_u32) (d : ((List Int) × Unit) × ((Int × Unit) × (Unit × ((Int × Unit) × ((Int × Unit) × (((List Int) × Unit) × ((Int × Unit) × ((Int × Unit) × Unit)))))))) : Option (((List Int) × Unit) × (Unit × Unit)) :=
  let x6 : Bool := (decide (d.2.2.2.2.1.1 ≥ (0 : Int)))
  bif x6 then (
  let x7 : Int := (iconv .u64 d.2.2.2.1.1)
  let x8 : Int := (imul .i64 (8 : Int) d.2.2.2.2.1.1)
  bif decide (x8 < 0) then (
  none)
  else (
  let x9 : Int := (ishr .u64 x7 x8)
  let x10 : Int := (iconv .u8 x9)
  let x11 : (List Int) := ([x10] : List Int)
  bif decide (((d.1.1.length + x11.length) * 1 : Nat) ≤ 140737488355328) && decide (d.1.1.length + x11.length ≤ 9223372036854775807) then (
  let x12 : (List Int) := (d.1.1 ++ x11)
  let x13 : Int := (isub .i64 d.2.2.2.2.1.1 (1 : Int))
  (T.2.1 ((x12, ()), ((d.2.1.1, ()), ((), ((d.2.2.2.1.1, ()), ((x13, ()), ((d.2.2.2.2.2.1.1, ()), ((d.2.2.2.2.2.2.1.1, ()), ((d.2.2.2.2.2.2.2.1.1, ()), ()))))))))))
  else none))
  else (
  let x14 : Int := (iadd .i64 d.2.2.2.2.2.2.2.1.1 (1 : Int))
  (T.1 ((d.1.1, ()), ((d.2.1.1, ()), ((), ((d.2.2.2.2.2.1.1, ()), ((d.2.2.2.2.2.2.1.1, ()), ((x14, ()), ()))))))))
def f_octets_Put_u32_t : Nat → TT_octets_Put_u32
  | 0 => (fun _ => none, (fun _ => none, ()))
  | k + 1 => (f_octets_Put_u32_p5 (f_octets_Put_u32_t k), (f_octets_Put_u32_p11 (f_octets_Put_u32_t k), ()))
theorem t_octets_Put_u32 (k : Nat) : f_octets_Put_u32_t (k + 1) = (f_octets_Put_u32_p5 (f_octets_Put_u32_t k), (f_octets_Put_u32_p11 (f_octets_Put_u32_t k), ())) := rfl
def f_octets_Put_u32_m (T : TT_octets_Put_u32) (d : Unit × (((List Int) × Unit) × (((List Int) × Unit) × Unit))) : Option (((List Int) × Unit) × (Unit × Unit)) :=
  (g_octets_Size_u32 ((), ())).bind fun x1 =>
  (g_slices_Clone_byte_byte ((), ((d.2.1.1, ()), ()))).bind fun x2 =>
  let x3 : Int := (d.2.2.1.1.length : Int)
  (T.1 ((x2.1.1, ()), ((x1.2.1.1, ()), ((), ((d.2.2.1.1, ()), ((x3, ()), (((0 : Int), ()), ())))))))
def c_octets_Put_u32 : List Nat := []
def L_octets_Put_u32 (k : Nat) : Pts po_octets_Put_u32.den := [(5, ⟨sh_octets_Put_u32_5, (f_octets_Put_u32_t k).1⟩), (11, ⟨sh_octets_Put_u32_11, (f_octets_Put_u32_t k).2.1⟩)]
def E_octets_Put_u32 : Env := ((E0.add 76 (typedSem pi_slices_Clone_byte_byte po_slices_Clone_byte_byte g_slices_Clone_byte_byte)).add 91 (typedSem pi_octets_Size_u32 po_octets_Size_u32 g_octets_Size_u32))
theorem q_octets_Put_u32_5 (k : Nat) (d : ((List Int) × Unit) × ((Int × Unit) × (Unit × (((List Int) × Unit) × ((Int × Unit) × ((Int × Unit) × Unit)))))) : evAt E_octets_Put_u32 (tab (L_octets_Put_u32 k)) c_octets_Put_u32 5 (bodyOf Try.f43) 0 (finK E_octets_Put_u32 po_octets_Put_u32 [.tmp 4]) (ptSt sh_octets_Put_u32_5 d) = f_octets_Put_u32_p5 (f_octets_Put_u32_t k) d := by kernel_rfl
theorem q_octets_Put_u32_11 (k : Nat) (d : ((List Int) × Unit) × ((Int × Unit) × (Unit × ((Int × Unit) × ((Int × Unit) × (((List Int) × Unit) × ((Int × Unit) × ((Int × Unit) × Unit)))))))) : evAt E_octets_Put_u32 (tab (L_octets_Put_u32 k)) c_octets_Put_u32 11 (bodyOf Try.f43) 0 (finK E_octets_Put_u32 po_octets_Put_u32 [.tmp 4]) (ptSt sh_octets_Put_u32_11 d) = f_octets_Put_u32_p11 (f_octets_Put_u32_t k) d := by kernel_rfl
theorem q_octets_Put_u32_m (k : Nat) (d : Unit × (((List Int) × Unit) × (((List Int) × Unit) × Unit))) : evCode E_octets_Put_u32 (tab (L_octets_Put_u32 k)) c_octets_Put_u32 (bodyOf Try.f43) 0 (finK E_octets_Put_u32 po_octets_Put_u32 [.tmp 4]) (startSt pi_octets_Put_u32 36 d) = f_octets_Put_u32_m (f_octets_Put_u32_t k) d := by kernel_rfl
theorem go_octets_Put_u32 (G : Unit × (((List Int) × Unit) × (((List Int) × Unit) × Unit)) → Option (((List Int) × Unit) × (Unit × Unit))) (hG : ∀ d out, G d = some out → ∃ k, f_octets_Put_u32_m (f_octets_Put_u32_t k) d = some out) : FnOk Try.prog ET0 43 pi_octets_Put_u32 po_octets_Put_u32 G :=
  fn_of_body (E := E_octets_Put_u32) (envOk_add (envOk_add e0_ok (typed_ok ok_slices_Clone_byte_byte)) (typed_ok ok_octets_Size_u32)) (fn := Try.f43) Try.func43 (by kernel_rfl) (by kernel_rfl) [.tmp 4] (by kernel_rfl) (by kernel_rfl) (by decide) rfl c_octets_Put_u32 L_octets_Put_u32
    (by intro x hx d; simp only [L_octets_Put_u32, List.mem_cons, List.not_mem_nil, or_false] at hx; rcases hx with rfl | rfl; rfl; rfl)
    (by intro k x hx d out h; simp only [L_octets_Put_u32, List.mem_cons, List.not_mem_nil, or_false] at hx; rcases hx with rfl | rfl; exact (q_octets_Put_u32_5 k d).trans h; exact (q_octets_Put_u32_11 k d).trans h)
    (by intro d out h; obtain ⟨k, hk⟩ := hG d out h; exact ⟨k, (q_octets_Put_u32_m k d).trans hk⟩)
def g_octets_Put_u32 (d : Unit × (((List Int) × Unit) × (((List Int) × Unit) × Unit))) : Option (((List Int) × Unit) × (Unit × Unit)) := lim fun k => f_octets_Put_u32_m (f_octets_Put_u32_t k) d
theorem ok_octets_Put_u32 : FnOk Try.prog ET0 43 pi_octets_Put_u32 po_octets_Put_u32 g_octets_Put_u32 := go_octets_Put_u32 g_octets_Put_u32 fun d out h => lim_some h

/- horologe/stamp.Bytes -/
@[reducible] def pi_stamp_Bytes : PSh := ⟨[], [.mk true [.v (.int .u32), .v (.int .u32)]]⟩
@[reducible] def po_stamp_Bytes : PSh := ⟨[.row 5 (.int .u8)], [.mk false [.osl 0]]⟩
def f_stamp_Bytes_m (T : Unit) (d : Unit × ((Int × (Int × Unit)) × Unit)) : Option (((List Int) × Unit) × (Unit × Unit)) :=
  let x1 : (List Int) := ([d.2.1.1, d.2.1.2.1] : List Int)
  (g_octets_Put_u32 ((), ((([] : List Int), ()), ((x1, ()), ())))).bind fun x2 =>
  some ((x2.1.1, ()), ((), ()))
def c_stamp_Bytes : List Nat := []
def L_stamp_Bytes (_ : Nat) : Pts po_stamp_Bytes.den := []
def E_stamp_Bytes : Env := (E0.add 43 (typedSem pi_octets_Put_u32 po_octets_Put_u32 g_octets_Put_u32))
theorem q_stamp_Bytes_m (k : Nat) (d : Unit × ((Int × (Int × Unit)) × Unit)) : evCode E_stamp_Bytes (tab (L_stamp_Bytes k)) c_stamp_Bytes (bodyOf Try.f55) 0 (finK E_stamp_Bytes po_stamp_Bytes [.tmp 2]) (startSt pi_stamp_Bytes 9 d) = f_stamp_Bytes_m () d := by kernel_rfl
def g_stamp_Bytes (d : Unit × ((Int × (Int × Unit)) × Unit)) : Option (((List Int) × Unit) × (Unit × Unit)) := f_stamp_Bytes_m () d
theorem ok_stamp_Bytes : FnOk Try.prog ET0 55 pi_stamp_Bytes po_stamp_Bytes g_stamp_Bytes :=
  fn_of_body (E := E_stamp_Bytes) (envOk_add e0_ok (typed_ok ok_octets_Put_u32)) (fn := Try.f55) Try.func55 (by kernel_rfl) (by kernel_rfl) [.tmp 2] (by kernel_rfl) (by kernel_rfl) (by decide) rfl c_stamp_Bytes L_stamp_Bytes
    (by intro x hx; cases hx) (by intro k x hx; cases hx) (fun d out h => ⟨0, (q_stamp_Bytes_m 0 d).trans h⟩)

/- horologe/octets.Size[uint16] -/
@[reducible] def pi_octets_Size_u16 : PSh := ⟨[], []⟩
@[reducible] def po_octets_Size_u16 : PSh := ⟨[], [.mk false [.v (.int .i64)]]⟩
@[reducible] def TT_octets_Size_u16 : Type := (((Unit × ((Int × Unit) × ((Int × Unit) × Unit))) → Option (Unit × ((Int × Unit) × Unit))) × Unit)
@[reducible] def sh_octets_Size_u16_4 : PSh := ⟨[], [.any, .mk false [.v (.int .i64)], .mk false [.v (.int .u16)], .any, .any, .any, .any, .any, .any, .any, .any, .any, .any, .any]⟩
def f_octets_Size_u16_p4 (T : TT_octets_Size_u16) (d : Unit × ((Int × Unit) × ((Int × Unit) × Unit))) : Option (Unit × ((Int × Unit) × Unit)) :=
  let x3 : Bool := (decide (d.2.2.1.1 > (0 : Int)))
  bif x3 then (
  let x4 : Int := (iadd .i64 d.2.1.1 (1 : Int))
  let x5 : Int := (iconv .u64 d.2.2.1.1)
  let x6 : Int := (ishr .u64 x5 (8 : Int))
  let x7 : Int := (iconv .u16 x6)
  (T.1 ((), ((x4, ()), ((x7, ()), ())))))
  else (
  some ((), ((d.2.1.1, ()), ())))
def f_octets_Size_u16_t : Nat → TT_octets_Size_u16
  | 0 => (fun _ => none, ())
  | k + 1 => (f_octets_Size_u16_p4 (f_octets_Size_u16_t k), ())
theorem t_octets_Size_u16 (k : Nat) : f_octets_Size_u16_t (k + 1) = (f_octets_Size_u16_p4 (f_octets_Size_u16_t k), ()) := rfl
def f_octets_Size_u16_m (T : TT_octets_Size_u16) (d : Unit × Unit) : Option (Unit × ((Int × Unit) × Unit)) :=
  let x1 : Int := (iconv .u16 (0 : Int))
  let x2 : Int := (inot .u16 x1)
  (T.1 ((), (((0 : Int), ()), ((x2, ()), ()))))
def c_octets_Size_u16 : List Nat := []
def L_octets_Size_u16 (k : Nat) : Pts po_octets_Size_u16.den := [(4, ⟨sh_octets_Size_u16_4, (f_octets_Size_u16_t k).1⟩)]
def E_octets_Size_u16 : Env := E0
theorem q_octets_Size_u16_4 (k : Nat) (d : Unit × ((Int × Unit) × ((Int × Unit) × Unit))) : evAt E_octets_Size_u16 (tab (L_octets_Size_u16 k)) c_octets_Size_u16 4 (bodyOf Try.f92) 0 (finK E_octets_Size_u16 po_octets_Size_u16 [.tmp 0]) (ptSt sh_octets_Size_u16_4 d) = f_octets_Size_u16_p4 (f_octets_Size_u16_t k) d := by kernel_rfl
theorem q_octets_Size_u16_m (k : Nat) (d : Unit × Unit) : evCode E_octets_Size_u16 (tab (L_octets_Size_u16 k)) c_octets_Size_u16 (bodyOf Try.f92) 0 (finK E_octets_Size_u16 po_octets_Size_u16 [.tmp 0]) (startSt pi_octets_Size_u16 14 d) = f_octets_Size_u16_m (f_octets_Size_u16_t k) d := by kernel_rfl
theorem go_octets_Size_u16 (G : Unit × Unit → Option (Unit × ((Int × Unit) × Unit))) (hG : ∀ d out, G d = some out → ∃ k, f_octets_Size_u16_m (f_octets_Size_u16_t k) d = some out) : FnOk Try.prog ET0 92 pi_octets_Size_u16 po_octets_Size_u16 G :=
  fn_of_body (E := E_octets_Size_u16) e0_ok (fn := Try.f92) Try.func92 (by kernel_rfl) (by kernel_rfl) [.tmp 0] (by kernel_rfl) (by kernel_rfl) (by decide) rfl c_octets_Size_u16 L_octets_Size_u16
    (by intro x hx d; simp only [L_octets_Size_u16, List.mem_cons, List.not_mem_nil, or_false] at hx; subst hx; rfl)
    (by intro k x hx d out h; simp only [L_octets_Size_u16, List.mem_cons, List.not_mem_nil, or_false] at hx; subst hx; exact (q_octets_Size_u16_4 k d).trans h)
    (by intro d out h; obtain ⟨k, hk⟩ := hG d out h; exact ⟨k, (q_octets_Size_u16_m k d).trans hk⟩)
def g_octets_Size_u16 (d : Unit × Unit) : Option (Unit × ((Int × Unit) × Unit)) := lim fun k => f_octets_Size_u16_m (f_octets_Size_u16_t k) d
theorem ok_octets_Size_u16 : FnOk Try.prog ET0 92 pi_octets_Size_u16 po_octets_Size_u16 g_octets_Size_u16 := go_octets_Size_u16 g_octets_Size_u16 fun d out h => lim_some h

/- horologe/octets.Put[uint16] -/
@[reducible] def pi_octets_Put_u16 : PSh := ⟨[], [.mk false [.v (.sl (.int .u8))], .mk false [.v (.sl (.int .u16))]]⟩
@[reducible] def po_octets_Put_u16 : PSh := ⟨[.row 5 (.int .u8)], [.mk false [.osl 0]]⟩
@[reducible] def TT_octets_Put_u16 : Type := (((((List Int) × Unit) × ((Int × Unit) × (Unit × (((List Int) × Unit) × ((Int × Unit) × ((Int × Unit) × Unit)))))) → Option (((List Int) × Unit) × (Unit × Unit))) × (((((List Int) × Unit) × ((Int × Unit) × (Unit × ((Int × Unit) × ((Int × Unit) × (((List Int) × Unit) × ((Int × Unit) × ((Int × Unit) × Unit)))))))) → Option (((List Int) × Unit) × (Unit × Unit))) × Unit))
@[reducible] def sh_octets_Put_u16_5 : PSh := ⟨[.row 5 (.int .u8)], [.any, .any, .any, .any, .any, .mk false [.v (.int .i64)], .mk false [.osl 0], .any, .any, .any, .any, .any, .any, .mk false [.v (.sl (.int .u16))], .mk false [.v (.int .i64)], .mk false [.v (.int .i64)], .any, .any, .any, .any, .any, .any, .any, .any, .any, .any, .any, .any, .any, .any, .any, .any, .any, .any, .any, .any]⟩
@[reducible] def sh_octets_Put_u16_11 : PSh := ⟨[.row 5 (.int .u8)], [.any, .any, .any, .any, .any, .mk false [.v (.int .i64)], .mk false [.osl 0], .any, .mk false [.v (.int .u16)], .mk false [.v (.int .i64)], .any, .any, .any, .mk false [.v (.sl (.int .u16))], .mk false [.v (.int .i64)], .mk false [.v (.int .i64)], .any, .any, .any, .any, .any, .any, .any, .any, .any, .any, .any, .any, .any, .any, .any, .any, .any, .any, .any, .any]⟩
def f_octets_Put_u16_p5 (T : TT_octets_Put_u16) (d : ((List Int) × Unit) × ((Int × Unit) × (Unit × (((List Int) × Unit) × ((Int × Unit) × ((Int × Unit) × Unit)))))) : Option (((List Int) × Unit) × (Unit × Unit)) :=
  let x4 : Bool := (decide (d.2.2.2.2.2.1.1 < d.2.2.2.2.1.1))
  bif x4 then (
  bif decide ((0 : Int) ≤ d.2.2.2.2.2.1.1) && decide (d.2.2.2.2.2.1.1 < (d.2.2.2.1.1.length : Int)) then (
  let x5 : Int := (isub .i64 d.2.1.1 (1 : Int))
  (T.2.1 ((d.1.1, ()), ((d.2.1.1, ()), ((), (((gd (.int .u16) d.2.2.2.1.1 d.2.2.2.2.2.1.1), ()), ((x5, ()), ((d.2.2.2.1.1, ()), ((d.2.2.2.2.1.1, ()), ((d.2.2.2.2.2.1.1, ()), ()))))))))))
  else none)
  else (
  some ((d.1.1, ()), ((), ())))
def f_octets_Put_u16_p11 (T : TT_octets_Put_u16) (d : ((List Int) × Unit) × ((Int × Unit) × (Unit × ((Int × Unit) × ((Int × Unit) × (((List Int) × Unit) × ((Int × Unit) × ((Int × Unit) × Unit)))))))) : Option (((List Int) × Unit) × (Unit × Unit)) :=
  let x6 : Bool := (decide (d.2.2.2.2.1.1 ≥ (0 : Int)))
  bif x6 then (
  let x7 : Int := (iconv .u64 d.2.2.2.1.1)
  let x8 : Int := (imul .i64 (8 : Int) d.2.2.2.2.1.1)
  bif decide (x8 < 0) then (
  none)
  else (
  let x9 : Int := (ishr .u64 x7 x8)
  let x10 : Int := (iconv .u8 x9)
  let x11 : (List Int) := ([x10] : List Int)
  bif decide (((d.1.1.length + x11.length) * 1 : Nat) ≤ 140737488355328) && decide (d.1.1.length + x11.length ≤ 9223372036854775807) then (
  let x12 : (List Int) := (d.1.1 ++ x11)
  let x13 : Int := (isub .i64 d.2.2.2.2.1.1 (1 : Int))
  (T.2.1 ((x12, ()), ((d.2.1.1, ()), ((), ((d.2.2.2.1.1, ()), ((x13, ()), ((d.2.2.2.2.2.1.1, ()), ((d.2.2.2.2.2.2.1.1, ()), ((d.2.2.2.2.2.2.2.1.1, ()), ()))))))))))
  else none))
  else (
  let x14 : Int := (iadd .i64 d.2.2.2.2.2.2.2.1.1 (1 : Int))
  (T.1 ((d.1.1, ()), ((d.2.1.1, ()), ((), ((d.2.2.2.2.2.1.1, ()), ((d.2.2.2.2.2.2.1.1, ()), ((x14, ()), ()))))))))
def f_octets_Put_u16_t : Nat → TT_octets_Put_u16
  | 0 => (fun _ => none, (fun _ => none, ()))
  | k + 1 => (f_octets_Put_u16_p5 (f_octets_Put_u16_t k), (f_octets_Put_u16_p11 (f_octets_Put_u16_t k), ()))
theorem t_octets_Put_u16 (k : Nat) : f_octets_Put_u16_t (k + 1) = (f_octets_Put_u16_p5 (f_octets_Put_u16_t k), (f_octets_Put_u16_p11 (f_octets_Put_u16_t k), ())) := rfl
def f_octets_Put_u16_m (T : TT_octets_Put_u16) (d : Unit × (((List Int) × Unit) × (((List Int) × Unit) × Unit))) : Option (((List Int) × Unit) × (Unit × Unit)) :=
  (g_octets_Size_u16 ((), ())).bind fun x1 =>
  (g_slices_Clone_byte_byte ((), ((d.2.1.1, ()), ()))).bind fun x2 =>
  let x3 : Int := (d.2.2.1.1.length : Int)
  (T.1 ((x2.1.1, ()), ((x1.2.1.1, ()), ((), ((d.2.2.1.1, ()), ((x3, ()), (((0 : Int), ()), ())))))))
def c_octets_Put_u16 : List Nat := []
def L_octets_Put_u16 (k : Nat) : Pts po_octets_Put_u16.den := [(5, ⟨sh_octets_Put_u16_5, (f_octets_Put_u16_t k).1⟩), (11, ⟨sh_octets_Put_u16_11, (f_octets_Put_u16_t k).2.1⟩)]
def E_octets_Put_u16 : Env := ((E0.add 76 (typedSem pi_slices_Clone_byte_byte po_slices_Clone_byte_byte g_slices_Clone_byte_byte)).add 92 (typedSem pi_octets_Size_u16 po_octets_Size_u16 g_octets_Size_u16))
theorem q_octets_Put_u16_5 (k : Nat) (d : ((List Int) × Unit) × ((Int × Unit) × (Unit × (((List Int) × Unit) × ((Int × Unit) × ((Int × Unit) × Unit)))))) : evAt E_octets_Put_u16 (tab (L_octets_Put_u16 k)) c_octets_Put_u16 5 (bodyOf Try.f44) 0 (finK E_octets_Put_u16 po_octets_Put_u16 [.tmp 4]) (ptSt sh_octets_Put_u16_5 d) = f_octets_Put_u16_p5 (f_octets_Put_u16_t k) d := by kernel_rfl
theorem q_octets_Put_u16_11 (k : Nat) (d : ((List Int) × Unit) × ((Int × Unit) × (Unit × ((Int × Unit) × ((Int × Unit) × (((List Int) × Unit) × ((Int × Unit) × ((Int × Unit) × Unit)))))))) : evAt E_octets_Put_u16 (tab (L_octets_Put_u16 k)) c_octets_Put_u16 11 (bodyOf Try.f44) 0 (finK E_octets_Put_u16 po_octets_Put_u16 [.tmp 4]) (ptSt sh_octets_Put_u16_11 d) = f_octets_Put_u16_p11 (f_octets_Put_u16_t k) d := by kernel_rfl
theorem q_octets_Put_u16_m (k : Nat) (d : Unit × (((List Int) × Unit) × (((List Int) × Unit) × Unit))) : evCode E_octets_Put_u16 (tab (L_octets_Put_u16 k)) c_octets_Put_u16 (bodyOf Try.f44) 0 (finK E_octets_Put_u16 po_octets_Put_u16 [.tmp 4]) (startSt pi_octets_Put_u16 36 d) = f_octets_Put_u16_m (f_octets_Put_u16_t k) d := by kernel_rfl
theorem go_octets_Put_u16 (G : Unit × (((List Int) × Unit) × (((List Int) × Unit) × Unit)) → Option (((List Int) × Unit) × (Unit × Unit))) (hG : ∀ d out, G d = some out → ∃ k, f_octets_Put_u16_m (f_octets_Put_u16_t k) d = some out) : FnOk Try.prog ET0 44 pi_octets_Put_u16 po_octets_Put_u16 G :=
  fn_of_body (E := E_octets_Put_u16) (envOk_add (envOk_add e0_ok (typed_ok ok_slices_Clone_byte_byte)) (typed_ok ok_octets_Size_u16)) (fn := Try.f44) Try.func44 (by kernel_rfl) (by kernel_rfl) [.tmp 4] (by kernel_rfl) (by kernel_rfl) (by decide) rfl c_octets_Put_u16 L_octets_Put_u16
    (by intro x hx d; simp only [L_octets_Put_u16, List.mem_cons, List.not_mem_nil, or_false] at hx; rcases hx with rfl | rfl; rfl; rfl)
    (by intro k x hx d out h; simp only [L_octets_Put_u16, List.mem_cons, List.not_mem_nil, or_false] at hx; rcases hx with rfl | rfl; exact (q_octets_Put_u16_5 k d).trans h; exact (q_octets_Put_u16_11 k d).trans h)
    (by intro d out h; obtain ⟨k, hk⟩ := hG d out h; exact ⟨k, (q_octets_Put_u16_m k d).trans hk⟩)
def g_octets_Put_u16 (d : Unit × (((List Int) × Unit) × (((List Int) × Unit) × Unit))) : Option (((List Int) × Unit) × (Unit × Unit)) := lim fun k => f_octets_Put_u16_m (f_octets_Put_u16_t k) d
theorem ok_octets_Put_u16 : FnOk Try.prog ET0 44 pi_octets_Put_u16 po_octets_Put_u16 g_octets_Put_u16 := go_octets_Put_u16 g_octets_Put_u16 fun d out h => lim_some h

/- horologe/stamp.ShortBytes -/
@[reducible] def pi_stamp_ShortBytes : PSh := ⟨[], [.mk true [.v (.int .u16), .v (.int .u16)]]⟩
@[reducible] def po_stamp_ShortBytes : PSh := ⟨[.row 5 (.int .u8)], [.mk false [.osl 0]]⟩
def f_stamp_ShortBytes_m (T : Unit) (d : Unit × ((Int × (Int × Unit)) × Unit)) : Option (((List Int) × Unit) × (Unit × Unit)) :=
  let x1 : (List Int) := ([d.2.1.1, d.2.1.2.1] : List Int)
  (g_octets_Put_u16 ((), ((([] : List Int), ()), ((x1, ()), ())))).bind fun x2 =>
  some ((x2.1.1, ()), ((), ()))
def c_stamp_ShortBytes : List Nat := []
def L_stamp_ShortBytes (_ : Nat) : Pts po_stamp_ShortBytes.den := []
def E_stamp_ShortBytes : Env := (E0.add 44 (typedSem pi_octets_Put_u16 po_octets_Put_u16 g_octets_Put_u16))
theorem q_stamp_ShortBytes_m (k : Nat) (d : Unit × ((Int × (Int × Unit)) × Unit)) : evCode E_stamp_ShortBytes (tab (L_stamp_ShortBytes k)) c_stamp_ShortBytes (bodyOf Try.f57) 0 (finK E_stamp_ShortBytes po_stamp_ShortBytes [.tmp 2]) (startSt pi_stamp_ShortBytes 9 d) = f_stamp_ShortBytes_m () d := by kernel_rfl
def g_stamp_ShortBytes (d : Unit × ((Int × (Int × Unit)) × Unit)) : Option (((List Int) × Unit) × (Unit × Unit)) := f_stamp_ShortBytes_m () d
theorem ok_stamp_ShortBytes : FnOk Try.prog ET0 57 pi_stamp_ShortBytes po_stamp_ShortBytes g_stamp_ShortBytes :=
  fn_of_body (E := E_stamp_ShortBytes) (envOk_add e0_ok (typed_ok ok_octets_Put_u16)) (fn := Try.f57) Try.func57 (by kernel_rfl) (by kernel_rfl) [.tmp 2] (by kernel_rfl) (by kernel_rfl) (by decide) rfl c_stamp_ShortBytes L_stamp_ShortBytes
    (by intro x hx; cases hx) (by intro k x hx; cases hx) (fun d out h => ⟨0, (q_stamp_ShortBytes_m 0 d).trans h⟩)

/- (*horologe/head.Head).longs -/
@[reducible] def pi_head_Head_longs : PSh := ⟨[], [.mk false [.v (.nptr (.pair (.int .i64) (.pair (.int .i64) (.pair (.int .i64) (.pair (.int .u8) (.pair (.int .i8) (.pair (.int .i8) (.pair (.pair (.int .u16) (.int .u16)) (.pair (.pair (.int .u16) (.int .u16)) (.pair (.pair (.int .u8) (.pair (.int .u8) (.pair (.int .u8) (.int .u8)))) (.pair (.pair (.int .u32) (.int .u32)) (.pair (.pair (.int .u32) (.int .u32)) (.pair (.pair (.int .u32) (.int .u32)) (.pair (.int .u32) (.int .u32)))))))))))))))]]⟩
@[reducible] def po_head_Head_longs : PSh := ⟨[], [.mk true [.v (.nptr (.pair (.int .u32) (.int .u32))), .v (.nptr (.pair (.int .u32) (.int .u32))), .v (.nptr (.pair (.int .u32) (.int .u32))), .v (.nptr (.pair (.int .u32) (.int .u32)))]]⟩
def f_head_Head_longs_m (T : Unit) (d : Unit × (((Option (Int × (Int × (Int × (Int × (Int × (Int × ((Int × Int) × ((Int × Int) × ((Int × (Int × (Int × Int))) × ((Int × Int) × ((Int × Int) × ((Int × Int) × (Int × Int)))))))))))))) × Unit) × Unit)) : Option (Unit × (((Option (Int × Int)) × ((Option (Int × Int)) × ((Option (Int × Int)) × ((Option (Int × Int)) × Unit)))) × Unit)) :=
  d.2.1.1.bind fun x1 =>
  d.2.1.1.bind fun x2 =>
  d.2.1.1.bind fun x3 =>
  d.2.1.1.bind fun x4 =>
  some ((), (((some x1.2.2.2.2.2.2.2.2.2.1), ((some x2.2.2.2.2.2.2.2.2.2.2.1), ((some x3.2.2.2.2.2.2.2.2.2.2.2.1), ((some x4.2.2.2.2.2.2.2.2.2.2.2.2), ())))), ()))
def c_head_Head_longs : List Nat := []
def L_head_Head_longs (_ : Nat) : Pts po_head_Head_longs.den := []
def E_head_Head_longs : Env := E0
theorem q_head_Head_longs_m (k : Nat) (d : Unit × (((Option (Int × (Int × (Int × (Int × (Int × (Int × ((Int × Int) × ((Int × Int) × ((Int × (Int × (Int × Int))) × ((Int × Int) × ((Int × Int) × ((Int × Int) × (Int × Int)))))))))))))) × Unit) × Unit)) : evCode E_head_Head_longs (tab (L_head_Head_longs k)) c_head_Head_longs (bodyOf Try.f88) 0 (finK E_head_Head_longs po_head_Head_longs [.cell 2 139]) (startSt pi_head_Head_longs 16 d) = f_head_Head_longs_m () d := by kernel_rfl
def g_head_Head_longs (d : Unit × (((Option (Int × (Int × (Int × (Int × (Int × (Int × ((Int × Int) × ((Int × Int) × ((Int × (Int × (Int × Int))) × ((Int × Int) × ((Int × Int) × ((Int × Int) × (Int × Int)))))))))))))) × Unit) × Unit)) : Option (Unit × (((Option (Int × Int)) × ((Option (Int × Int)) × ((Option (Int × Int)) × ((Option (Int × Int)) × Unit)))) × Unit)) := f_head_Head_longs_m () d
theorem ok_head_Head_longs : FnOk Try.prog ET0 88 pi_head_Head_longs po_head_Head_longs g_head_Head_longs :=
  fn_of_body (E := E_head_Head_longs) e0_ok (fn := Try.f88) Try.func88 (by kernel_rfl) (by kernel_rfl) [.cell 2 139] (by kernel_rfl) (by kernel_rfl) (by decide) rfl c_head_Head_longs L_head_Head_longs
    (by intro x hx; cases hx) (by intro k x hx; cases hx) (fun d out h => ⟨0, (q_head_Head_longs_m 0 d).trans h⟩)

/- horologe/head.Put -/
@[reducible] def pi_head_Put : PSh := ⟨[], [.mk true [.v (.int .i64), .v (.int .i64), .v (.int .i64), .v (.int .u8), .v (.int .i8), .v (.int .i8), .v (.int .u16), .v (.int .u16), .v (.int .u16), .v (.int .u16), .v (.int .u8), .v (.int .u8), .v (.int .u8), .v (.int .u8), .v (.int .u32), .v (.int .u32), .v (.int .u32), .v (.int .u32), .v (.int .u32), .v (.int .u32), .v (.int .u32), .v (.int .u32)]]⟩
@[reducible] def po_head_Put : PSh := ⟨[.row 5 (.int .u8)], [.mk false [.osl 0], .mk false [.v .err]]⟩
@[reducible] def TT_head_Put : Type := (((((List Int) × Unit) × (Unit × (((Option (Int × Int)) × ((Option (Int × Int)) × ((Option (Int × Int)) × ((Option (Int × Int)) × Unit)))) × ((Int × Unit) × Unit)))) → Option (((List Int) × Unit) × (Unit × (((Option Int) × Unit) × Unit)))) × Unit)
@[reducible] def sh_head_Put_10 : PSh := ⟨[.row 5 (.int .u8)], [.any, .any, .any, .any, .any, .mk false [.osl 0], .any, .any, .any, .any, .any, .any, .any, .any, .any, .any, .any, .any, .any, .any, .any, .any, .any, .any, .any, .any, .any, .any, .any, .any, .any, .any, .any, .any, .any, .any, .any, .any, .any, .any, .any, .any, .any, .any, .any, .any, .mk true [.v (.nptr (.pair (.int .u32) (.int .u32))), .v (.nptr (.pair (.int .u32) (.int .u32))), .v (.nptr (.pair (.int .u32) (.int .u32))), .v (.nptr (.pair (.int .u32) (.int .u32)))], .mk false [.v (.int .i64)], .any, .any, .any, .any, .any, .any, .any, .any, .any, .any]⟩
def f_head_Put_p10 (T : TT_head_Put) (d : ((List Int) × Unit) × (Unit × (((Option (Int × Int)) × ((Option (Int × Int)) × ((Option (Int × Int)) × ((Option (Int × Int)) × Unit)))) × ((Int × Unit) × Unit)))) : Option (((List Int) × Unit) × (Unit × (((Option Int) × Unit) × Unit))) :=
  let x19 : Bool := (decide (d.2.2.2.1.1 < (4 : Int)))
  bif x19 then (
  bif decide ((0 : Int) ≤ d.2.2.2.1.1) && decide (d.2.2.2.1.1 < (4 : Int)) then (
  bif decide (d.2.2.2.1.1 = (0 : Int)) then (
  d.2.2.1.1.bind fun x32 =>
  (g_stamp_Bytes ((), ((x32.1, (x32.2, ())), ()))).bind fun x33 =>
  bif decide (((d.1.1.length + x33.1.1.length) * 1 : Nat) ≤ 140737488355328) && decide (d.1.1.length + x33.1.1.length ≤ 9223372036854775807) then (
  let x34 : (List Int) := (d.1.1 ++ x33.1.1)
  let x35 : Int := (iadd .i64 d.2.2.2.1.1 (1 : Int))
  (T.1 ((x34, ()), ((), ((d.2.2.1.1, (d.2.2.1.2.1, (d.2.2.1.2.2.1, (d.2.2.1.2.2.2.1, ())))), ((x35, ()), ()))))))
  else none)
  else (
  bif decide (d.2.2.2.1.1 = (1 : Int)) then (
  d.2.2.1.2.1.bind fun x28 =>
  (g_stamp_Bytes ((), ((x28.1, (x28.2, ())), ()))).bind fun x29 =>
  bif decide (((d.1.1.length + x29.1.1.length) * 1 : Nat) ≤ 140737488355328) && decide (d.1.1.length + x29.1.1.length ≤ 9223372036854775807) then (
  let x30 : (List Int) := (d.1.1 ++ x29.1.1)
  let x31 : Int := (iadd .i64 d.2.2.2.1.1 (1 : Int))
  (T.1 ((x30, ()), ((), ((d.2.2.1.1, (d.2.2.1.2.1, (d.2.2.1.2.2.1, (d.2.2.1.2.2.2.1, ())))), ((x31, ()), ()))))))
  else none)
  else (
  bif decide (d.2.2.2.1.1 = (2 : Int)) then (
  d.2.2.1.2.2.1.bind fun x24 =>
  (g_stamp_Bytes ((), ((x24.1, (x24.2, ())), ()))).bind fun x25 =>
  bif decide (((d.1.1.length + x25.1.1.length) * 1 : Nat) ≤ 140737488355328) && decide (d.1.1.length + x25.1.1.length ≤ 9223372036854775807) then (
  let x26 : (List Int) := (d.1.1 ++ x25.1.1)
  let x27 : Int := (iadd .i64 d.2.2.2.1.1 (1 : Int))
  (T.1 ((x26, ()), ((), ((d.2.2.1.1, (d.2.2.1.2.1, (d.2.2.1.2.2.1, (d.2.2.1.2.2.2.1, ())))), ((x27, ()), ()))))))
  else none)
  else (
  bif decide (d.2.2.2.1.1 = (3 : Int)) then (
  d.2.2.1.2.2.2.1.bind fun x20 =>
  (g_stamp_Bytes ((), ((x20.1, (x20.2, ())), ()))).bind fun x21 =>
  bif decide (((d.1.1.length + x21.1.1.length) * 1 : Nat) ≤ 140737488355328) && decide (d.1.1.length + x21.1.1.length ≤ 9223372036854775807) then (
  let x22 : (List Int) := (d.1.1 ++ x21.1.1)
  let x23 : Int := (iadd .i64 d.2.2.2.1.1 (1 : Int))
  (T.1 ((x22, ()), ((), ((d.2.2.1.1, (d.2.2.1.2.1, (d.2.2.1.2.2.1, (d.2.2.1.2.2.2.1, ())))), ((x23, ()), ()))))))
  else none)
  else (
  none)))))
  else none)
  else (
  some ((d.1.1, ()), ((), (((none : Option Int), ()), ()))))
def f_head_Put_t : Nat → TT_head_Put
  | 0 => (fun _ => none, ())
  | k + 1 => (f_head_Put_p10 (f_head_Put_t k), ())
theorem t_head_Put (k : Nat) : f_head_Put_t (k + 1) = (f_head_Put_p10 (f_head_Put_t k), ()) := rfl
def f_head_Put_m (T : TT_head_Put) (d : Unit × ((Int × (Int × (Int × (Int × (Int × (Int × (Int × (Int × (Int × (Int × (Int × (Int × (Int × (Int × (Int × (Int × (Int × (Int × (Int × (Int × (Int × (Int × Unit)))))))))))))))))))))) × Unit)) : Option (((List Int) × Unit) × (Unit × (((Option Int) × Unit) × Unit))) :=
  (g_head_Check ((), ((d.2.1.1, (d.2.1.2.1, (d.2.1.2.2.1, (d.2.1.2.2.2.1, (d.2.1.2.2.2.2.1, (d.2.1.2.2.2.2.2.1, (d.2.1.2.2.2.2.2.2.1, (d.2.1.2.2.2.2.2.2.2.1, (d.2.1.2.2.2.2.2.2.2.2.1, (d.2.1.2.2.2.2.2.2.2.2.2.1, (d.2.1.2.2.2.2.2.2.2.2.2.2.1, (d.2.1.2.2.2.2.2.2.2.2.2.2.2.1, (d.2.1.2.2.2.2.2.2.2.2.2.2.2.2.1, (d.2.1.2.2.2.2.2.2.2.2.2.2.2.2.2.1, (d.2.1.2.2.2.2.2.2.2.2.2.2.2.2.2.2.1, (d.2.1.2.2.2.2.2.2.2.2.2.2.2.2.2.2.2.1, (d.2.1.2.2.2.2.2.2.2.2.2.2.2.2.2.2.2.2.1, (d.2.1.2.2.2.2.2.2.2.2.2.2.2.2.2.2.2.2.2.1, (d.2.1.2.2.2.2.2.2.2.2.2.2.2.2.2.2.2.2.2.2.1, (d.2.1.2.2.2.2.2.2.2.2.2.2.2.2.2.2.2.2.2.2.2.1, (d.2.1.2.2.2.2.2.2.2.2.2.2.2.2.2.2.2.2.2.2.2.2.1, (d.2.1.2.2.2.2.2.2.2.2.2.2.2.2.2.2.2.2.2.2.2.2.2.1, ())))))))))))))))))))))), ()))).bind fun x1 =>
  let x2 : Bool := (!x1.2.1.1.isNone)
  bif x2 then (
  some ((([] : List Int), ()), ((), ((x1.2.1.1, ()), ()))))
  else (
  let x3 : Int := (ishl .i64 d.2.1.1 (6 : Int))
  let x4 : Int := (ishl .i64 d.2.1.2.1 (3 : Int))
  let x5 : Int := (ior .i64 x3 x4)
  let x6 : Int := (ior .i64 x5 d.2.1.2.2.1)
  let x7 : Int := (iconv .u8 x6)
  let x8 : Int := (iconv .u8 d.2.1.2.2.2.2.1)
  let x9 : Int := (iconv .u8 d.2.1.2.2.2.2.2.1)
  let x10 : (List Int) := ([x7, d.2.1.2.2.2.1, x8, x9] : List Int)
  (g_stamp_ShortBytes ((), ((d.2.1.2.2.2.2.2.2.1, (d.2.1.2.2.2.2.2.2.2.1, ())), ()))).bind fun x11 =>
  bif decide (((x10.length + x11.1.1.length) * 1 : Nat) ≤ 140737488355328) && decide (x10.length + x11.1.1.length ≤ 9223372036854775807) then (
  let x12 : (List Int) := (x10 ++ x11.1.1)
  (g_stamp_ShortBytes ((), ((d.2.1.2.2.2.2.2.2.2.2.1, (d.2.1.2.2.2.2.2.2.2.2.2.1, ())), ()))).bind fun x13 =>
  bif decide (((x12.length + x13.1.1.length) * 1 : Nat) ≤ 140737488355328) && decide (x12.length + x13.1.1.length ≤ 9223372036854775807) then (
  let x14 : (List Int) := (x12 ++ x13.1.1)
  let x15 : (Int × (Int × (Int × (Int × (Int × (Int × ((Int × Int) × ((Int × Int) × ((Int × (Int × (Int × Int))) × ((Int × Int) × ((Int × Int) × ((Int × Int) × (Int × Int))))))))))))) := (d.2.1.1, (d.2.1.2.1, (d.2.1.2.2.1, (d.2.1.2.2.2.1, (d.2.1.2.2.2.2.1, (d.2.1.2.2.2.2.2.1, ((d.2.1.2.2.2.2.2.2.1, d.2.1.2.2.2.2.2.2.2.1), ((d.2.1.2.2.2.2.2.2.2.2.1, d.2.1.2.2.2.2.2.2.2.2.2.1), ((d.2.1.2.2.2.2.2.2.2.2.2.2.1, (d.2.1.2.2.2.2.2.2.2.2.2.2.2.1, (d.2.1.2.2.2.2.2.2.2.2.2.2.2.2.1, d.2.1.2.2.2.2.2.2.2.2.2.2.2.2.2.1))), ((d.2.1.2.2.2.2.2.2.2.2.2.2.2.2.2.2.1, d.2.1.2.2.2.2.2.2.2.2.2.2.2.2.2.2.2.1), ((d.2.1.2.2.2.2.2.2.2.2.2.2.2.2.2.2.2.2.1, d.2.1.2.2.2.2.2.2.2.2.2.2.2.2.2.2.2.2.2.1), ((d.2.1.2.2.2.2.2.2.2.2.2.2.2.2.2.2.2.2.2.2.1, d.2.1.2.2.2.2.2.2.2.2.2.2.2.2.2.2.2.2.2.2.2.1), (d.2.1.2.2.2.2.2.2.2.2.2.2.2.2.2.2.2.2.2.2.2.2.1, d.2.1.2.2.2.2.2.2.2.2.2.2.2.2.2.2.2.2.2.2.2.2.2.1)))))))))))))
  let x16 : (List Int) := ([x15.2.2.2.2.2.2.2.2.1.1, x15.2.2.2.2.2.2.2.2.1.2.1, x15.2.2.2.2.2.2.2.2.1.2.2.1, x15.2.2.2.2.2.2.2.2.1.2.2.2] : List Int)
  bif decide (((x14.length + x16.length) * 1 : Nat) ≤ 140737488355328) && decide (x14.length + x16.length ≤ 9223372036854775807) then (
  let x17 : (List Int) := (x14 ++ x16)
  (g_head_Head_longs ((), (((some x15), ()), ()))).bind fun x18 =>
  (T.1 ((x17, ()), ((), ((x18.2.1.1, (x18.2.1.2.1, (x18.2.1.2.2.1, (x18.2.1.2.2.2.1, ())))), (((0 : Int), ()), ()))))))
  else none)
  else none)
  else none)
def c_head_Put : List Nat := []
def L_head_Put (k : Nat) : Pts po_head_Put.den := [(10, ⟨sh_head_Put_10, (f_head_Put_t k).1⟩)]
def E_head_Put : Env := (((((E0.add 41 (typedSem pi_head_Check po_head_Check g_head_Check)).add 55 (typedSem pi_stamp_Bytes po_stamp_Bytes g_stamp_Bytes)).add 57 (typedSem pi_stamp_ShortBytes po_stamp_ShortBytes g_stamp_ShortBytes)).add 88 (typedSem pi_head_Head_longs po_head_Head_longs g_head_Head_longs)).fr [(44, [43])])
theorem q_head_Put_10 (k : Nat) (d : ((List Int) × Unit) × (Unit × (((Option (Int × Int)) × ((Option (Int × Int)) × ((Option (Int × Int)) × ((Option (Int × Int)) × Unit)))) × ((Int × Unit) × Unit)))) : evAt E_head_Put (tab (L_head_Put k)) c_head_Put 10 (bodyOf Try.f38) 0 (finK E_head_Put po_head_Put [.tmp 2, .tmp 3]) (ptSt sh_head_Put_10 d) = f_head_Put_p10 (f_head_Put_t k) d := by kernel_rfl
theorem q_head_Put_m (k : Nat) (d : Unit × ((Int × (Int × (Int × (Int × (Int × (Int × (Int × (Int × (Int × (Int × (Int × (Int × (Int × (Int × (Int × (Int × (Int × (Int × (Int × (Int × (Int × (Int × Unit)))))))))))))))))))))) × Unit)) : evCode E_head_Put (tab (L_head_Put k)) c_head_Put (bodyOf Try.f38) 0 (finK E_head_Put po_head_Put [.tmp 2, .tmp 3]) (startSt pi_head_Put 58 d) = f_head_Put_m (f_head_Put_t k) d := by kernel_rfl
theorem go_head_Put (G : Unit × ((Int × (Int × (Int × (Int × (Int × (Int × (Int × (Int × (Int × (Int × (Int × (Int × (Int × (Int × (Int × (Int × (Int × (Int × (Int × (Int × (Int × (Int × Unit)))))))))))))))))))))) × Unit) → Option (((List Int) × Unit) × (Unit × (((Option Int) × Unit) × Unit)))) (hG : ∀ d out, G d = some out → ∃ k, f_head_Put_m (f_head_Put_t k) d = some out) : FnOk Try.prog ET0 38 pi_head_Put po_head_Put G :=
  fn_of_body (E := E_head_Put) (envOk_fr (envOk_add (envOk_add (envOk_add (envOk_add e0_ok (typed_ok ok_head_Check)) (typed_ok ok_stamp_Bytes)) (typed_ok ok_stamp_ShortBytes)) (typed_ok ok_head_Head_longs))) (fn := Try.f38) Try.func38 (by kernel_rfl) (by kernel_rfl) [.tmp 2, .tmp 3] (by kernel_rfl) (by kernel_rfl) (by decide) rfl c_head_Put L_head_Put
    (by intro x hx d; simp only [L_head_Put, List.mem_cons, List.not_mem_nil, or_false] at hx; subst hx; rfl)
    (by intro k x hx d out h; simp only [L_head_Put, List.mem_cons, List.not_mem_nil, or_false] at hx; subst hx; exact (q_head_Put_10 k d).trans h)
    (by intro d out h; obtain ⟨k, hk⟩ := hG d out h; exact ⟨k, (q_head_Put_m k d).trans hk⟩)
def g_head_Put (d : Unit × ((Int × (Int × (Int × (Int × (Int × (Int × (Int × (Int × (Int × (Int × (Int × (Int × (Int × (Int × (Int × (Int × (Int × (Int × (Int × (Int × (Int × (Int × Unit)))))))))))))))))))))) × Unit)) : Option (((List Int) × Unit) × (Unit × (((Option Int) × Unit) × Unit))) := lim fun k => f_head_Put_m (f_head_Put_t k) d
theorem ok_head_Put : FnOk Try.prog ET0 38 pi_head_Put po_head_Put g_head_Put := go_head_Put g_head_Put fun d out h => lim_some h

/- horologe/octets.from -/
@[reducible] def pi_octets_from : PSh := ⟨[], [.mk false [.v (.sl (.int .u8))], .mk false [.v (.int .i64)], .mk false [.v (.int .i64)]]⟩
@[reducible] def po_octets_from : PSh := ⟨[], [.mk false [.v (.sl (.int .u8))], .mk false [.v .err]]⟩
def f_octets_from_m (T : Unit) (d : Unit × (((List Int) × Unit) × ((Int × Unit) × ((Int × Unit) × Unit)))) : Option (Unit × (((List Int) × Unit) × (((Option Int) × Unit) × Unit))) :=
  let x1 : Bool := (decide (d.2.2.1.1 < (0 : Int)))
  bif x1 then (
  let x2 : (Option Int) := (some (1 : Int))
  some ((), ((([] : List Int), ()), ((x2, ()), ()))))
  else (
  let x3 : Int := (d.2.1.1.length : Int)
  let x4 : Bool := (decide (d.2.2.1.1 > x3))
  bif x4 then (
  let x5 : (Option Int) := (some (1 : Int))
  some ((), ((([] : List Int), ()), ((x5, ()), ()))))
  else (
  let x6 : Bool := (decide (d.2.2.2.1.1 < (0 : Int)))
  bif x6 then (
  let x7 : (Option Int) := (some (1 : Int))
  some ((), ((([] : List Int), ()), ((x7, ()), ()))))
  else (
  let x8 : Int := (d.2.1.1.length : Int)
  let x9 : Int := (isub .i64 x8 d.2.2.1.1)
  let x10 : Bool := (decide (d.2.2.2.1.1 > x9))
  bif x10 then (
  let x11 : (Option Int) := (some (4 : Int))
  some ((), ((([] : List Int), ()), ((x11, ()), ()))))
  else (
  let x12 : Int := (iadd .i64 d.2.2.1.1 d.2.2.2.1.1)
  bif decide ((0 : Int) ≤ d.2.2.1.1) && decide (d.2.2.1.1 ≤ x12) && decide (x12 ≤ (d.2.1.1.length : Int)) then (
  let x13 : (List Int) := (List.drop (Int.toNat d.2.2.1.1) (List.take (Int.toNat x12) d.2.1.1))
  some ((), ((x13, ()), (((none : Option Int), ()), ()))))
  else none))))
def c_octets_from : List Nat := []
def L_octets_from (_ : Nat) : Pts po_octets_from.den := []
def E_octets_from : Env := E0
theorem q_octets_from_m (k : Nat) (d : Unit × (((List Int) × Unit) × ((Int × Unit) × ((Int × Unit) × Unit)))) : evCode E_octets_from (tab (L_octets_from k)) c_octets_from (bodyOf Try.f75) 0 (finK E_octets_from po_octets_from [.tmp 6, .tmp 7]) (startSt pi_octets_from 36 d) = f_octets_from_m () d := by kernel_rfl
def g_octets_from (d : Unit × (((List Int) × Unit) × ((Int × Unit) × ((Int × Unit) × Unit)))) : Option (Unit × (((List Int) × Unit) × (((Option Int) × Unit) × Unit))) := f_octets_from_m () d
theorem ok_octets_from : FnOk Try.prog ET0 75 pi_octets_from po_octets_from g_octets_from :=
  fn_of_body (E := E_octets_from) e0_ok (fn := Try.f75) Try.func75 (by kernel_rfl) (by kernel_rfl) [.tmp 6, .tmp 7] (by kernel_rfl) (by kernel_rfl) (by decide) rfl c_octets_from L_octets_from
    (by intro x hx; cases hx) (by intro k x hx; cases hx) (fun d out h => ⟨0, (q_octets_from_m 0 d).trans h⟩)

/- horologe/octets.Size[uint8] -/
@[reducible] def pi_octets_Size_u8 : PSh := ⟨[], []⟩
@[reducible] def po_octets_Size_u8 : PSh := ⟨[], [.mk false [.v (.int .i64)]]⟩
@[reducible] def TT_octets_Size_u8 : Type := (((Unit × ((Int × Unit) × ((Int × Unit) × Unit))) → Option (Unit × ((Int × Unit) × Unit))) × Unit)
@[reducible] def sh_octets_Size_u8_4 : PSh := ⟨[], [.any, .mk false [.v (.int .i64)], .mk false [.v (.int .u8)], .any, .any, .any, .any, .any, .any, .any, .any, .any, .any, .any]⟩
def f_octets_Size_u8_p4 (T : TT_octets_Size_u8) (d : Unit × ((Int × Unit) × ((Int × Unit) × Unit))) : Option (Unit × ((Int × Unit) × Unit)) :=
  let x3 : Bool := (decide (d.2.2.1.1 > (0 : Int)))
  bif x3 then (
  let x4 : Int := (iadd .i64 d.2.1.1 (1 : Int))
  let x5 : Int := (iconv .u64 d.2.2.1.1)
  let x6 : Int := (ishr .u64 x5 (8 : Int))
  let x7 : Int := (iconv .u8 x6)
  (T.1 ((), ((x4, ()), ((x7, ()), ())))))
  else (
  some ((), ((d.2.1.1, ()), ())))
def f_octets_Size_u8_t : Nat → TT_octets_Size_u8
  | 0 => (fun _ => none, ())
  | k + 1 => (f_octets_Size_u8_p4 (f_octets_Size_u8_t k), ())
theorem t_octets_Size_u8 (k : Nat) : f_octets_Size_u8_t (k + 1) = (f_octets_Size_u8_p4 (f_octets_Size_u8_t k), ()) := rfl
def f_octets_Size_u8_m (T : TT_octets_Size_u8) (d : Unit × Unit) : Option (Unit × ((Int × Unit) × Unit)) :=
  let x1 : Int := (iconv .u8 (0 : Int))
  let x2 : Int := (inot .u8 x1)
  (T.1 ((), (((0 : Int), ()), ((x2, ()), ()))))
def c_octets_Size_u8 : List Nat := []
def L_octets_Size_u8 (k : Nat) : Pts po_octets_Size_u8.den := [(4, ⟨sh_octets_Size_u8_4, (f_octets_Size_u8_t k).1⟩)]
def E_octets_Size_u8 : Env := E0
theorem q_octets_Size_u8_4 (k : Nat) (d : Unit × ((Int × Unit) × ((Int × Unit) × Unit))) : evAt E_octets_Size_u8 (tab (L_octets_Size_u8 k)) c_octets_Size_u8 4 (bodyOf Try.f98) 0 (finK E_octets_Size_u8 po_octets_Size_u8 [.tmp 0]) (ptSt sh_octets_Size_u8_4 d) = f_octets_Size_u8_p4 (f_octets_Size_u8_t k) d := by kernel_rfl
theorem q_octets_Size_u8_m (k : Nat) (d : Unit × Unit) : evCode E_octets_Size_u8 (tab (L_octets_Size_u8 k)) c_octets_Size_u8 (bodyOf Try.f98) 0 (finK E_octets_Size_u8 po_octets_Size_u8 [.tmp 0]) (startSt pi_octets_Size_u8 14 d) = f_octets_Size_u8_m (f_octets_Size_u8_t k) d := by kernel_rfl
theorem go_octets_Size_u8 (G : Unit × Unit → Option (Unit × ((Int × Unit) × Unit))) (hG : ∀ d out, G d = some out → ∃ k, f_octets_Size_u8_m (f_octets_Size_u8_t k) d = some out) : FnOk Try.prog ET0 98 pi_octets_Size_u8 po_octets_Size_u8 G :=
  fn_of_body (E := E_octets_Size_u8) e0_ok (fn := Try.f98) Try.func98 (by kernel_rfl) (by kernel_rfl) [.tmp 0] (by kernel_rfl) (by kernel_rfl) (by decide) rfl c_octets_Size_u8 L_octets_Size_u8
    (by intro x hx d; simp only [L_octets_Size_u8, List.mem_cons, List.not_mem_nil, or_false] at hx; subst hx; rfl)
    (by intro k x hx d out h; simp only [L_octets_Size_u8, List.mem_cons, List.not_mem_nil, or_false] at hx; subst hx; exact (q_octets_Size_u8_4 k d).trans h)
    (by intro d out h; obtain ⟨k, hk⟩ := hG d out h; exact ⟨k, (q_octets_Size_u8_m k d).trans hk⟩)
def g_octets_Size_u8 (d : Unit × Unit) : Option (Unit × ((Int × Unit) × Unit)) := lim fun k => f_octets_Size_u8_m (f_octets_Size_u8_t k) d
theorem ok_octets_Size_u8 : FnOk Try.prog ET0 98 pi_octets_Size_u8 po_octets_Size_u8 g_octets_Size_u8 := go_octets_Size_u8 g_octets_Size_u8 fun d out h => lim_some h

/- horologe/octets.word[uint8] -/
@[reducible] def pi_octets_word_u8 : PSh := ⟨[], [.mk false [.v (.sl (.int .u8))]]⟩
@[reducible] def po_octets_word_u8 : PSh := ⟨[], [.mk false [.v (.int .u8)]]⟩
@[reducible] def TT_octets_word_u8 : Type := (((Unit × ((Int × Unit) × (((List Int) × Unit) × ((Int × Unit) × ((Int × Unit) × Unit))))) → Option (Unit × ((Int × Unit) × Unit))) × Unit)
@[reducible] def sh_octets_word_u8_4 : PSh := ⟨[], [.any, .any, .any, .mk false [.v (.int .u64)], .any, .any, .mk false [.v (.sl (.int .u8))], .mk false [.v (.int .i64)], .mk false [.v (.int .i64)], .any, .any, .any, .any, .any, .any, .any, .any, .any, .any, .any]⟩
def f_octets_word_u8_p4 (T : TT_octets_word_u8) (d : Unit × ((Int × Unit) × (((List Int) × Unit) × ((Int × Unit) × ((Int × Unit) × Unit))))) : Option (Unit × ((Int × Unit) × Unit)) :=
  let x2 : Bool := (decide (d.2.2.2.2.1.1 < d.2.2.2.1.1))
  bif x2 then (
  bif decide ((0 : Int) ≤ d.2.2.2.2.1.1) && decide (d.2.2.2.2.1.1 < (d.2.2.1.1.length : Int)) then (
  let x3 : Int := (ishl .u64 d.2.1.1 (8 : Int))
  let x4 : Int := (iconv .u64 (gd (.int .u8) d.2.2.1.1 d.2.2.2.2.1.1))
  let x5 : Int := (ior .u64 x3 x4)
  let x6 : Int := (iadd .i64 d.2.2.2.2.1.1 (1 : Int))
  (T.1 ((), ((x5, ()), ((d.2.2.1.1, ()), ((d.2.2.2.1.1, ()), ((x6, ()), ())))))))
  else none)
  else (
  let x7 : Int := (iconv .u8 d.2.1.1)
  some ((), ((x7, ()), ())))
def f_octets_word_u8_t : Nat → TT_octets_word_u8
  | 0 => (fun _ => none, ())
  | k + 1 => (f_octets_word_u8_p4 (f_octets_word_u8_t k), ())
theorem t_octets_word_u8 (k : Nat) : f_octets_word_u8_t (k + 1) = (f_octets_word_u8_p4 (f_octets_word_u8_t k), ()) := rfl
def f_octets_word_u8_m (T : TT_octets_word_u8) (d : Unit × (((List Int) × Unit) × Unit)) : Option (Unit × ((Int × Unit) × Unit)) :=
  let x1 : Int := (d.2.1.1.length : Int)
  (T.1 ((), (((0 : Int), ()), ((d.2.1.1, ()), ((x1, ()), (((0 : Int), ()), ()))))))
def c_octets_word_u8 : List Nat := []
def L_octets_word_u8 (k : Nat) : Pts po_octets_word_u8.den := [(4, ⟨sh_octets_word_u8_4, (f_octets_word_u8_t k).1⟩)]
def E_octets_word_u8 : Env := E0
theorem q_octets_word_u8_4 (k : Nat) (d : Unit × ((Int × Unit) × (((List Int) × Unit) × ((Int × Unit) × ((Int × Unit) × Unit))))) : evAt E_octets_word_u8 (tab (L_octets_word_u8 k)) c_octets_word_u8 4 (bodyOf Try.f123) 0 (finK E_octets_word_u8 po_octets_word_u8 [.tmp 2]) (ptSt sh_octets_word_u8_4 d) = f_octets_word_u8_p4 (f_octets_word_u8_t k) d := by kernel_rfl
theorem q_octets_word_u8_m (k : Nat) (d : Unit × (((List Int) × Unit) × Unit)) : evCode E_octets_word_u8 (tab (L_octets_word_u8 k)) c_octets_word_u8 (bodyOf Try.f123) 0 (finK E_octets_word_u8 po_octets_word_u8 [.tmp 2]) (startSt pi_octets_word_u8 20 d) = f_octets_word_u8_m (f_octets_word_u8_t k) d := by kernel_rfl
theorem go_octets_word_u8 (G : Unit × (((List Int) × Unit) × Unit) → Option (Unit × ((Int × Unit) × Unit))) (hG : ∀ d out, G d = some out → ∃ k, f_octets_word_u8_m (f_octets_word_u8_t k) d = some out) : FnOk Try.prog ET0 123 pi_octets_word_u8 po_octets_word_u8 G :=
  fn_of_body (E := E_octets_word_u8) e0_ok (fn := Try.f123) Try.func123 (by kernel_rfl) (by kernel_rfl) [.tmp 2] (by kernel_rfl) (by kernel_rfl) (by decide) rfl c_octets_word_u8 L_octets_word_u8
    (by intro x hx d; simp only [L_octets_word_u8, List.mem_cons, List.not_mem_nil, or_false] at hx; subst hx; rfl)
    (by intro k x hx d out h; simp only [L_octets_word_u8, List.mem_cons, List.not_mem_nil, or_false] at hx; subst hx; exact (q_octets_word_u8_4 k d).trans h)
    (by intro d out h; obtain ⟨k, hk⟩ := hG d out h; exact ⟨k, (q_octets_word_u8_m k d).trans hk⟩)
def g_octets_word_u8 (d : Unit × (((List Int) × Unit) × Unit)) : Option (Unit × ((Int × Unit) × Unit)) := lim fun k => f_octets_word_u8_m (f_octets_word_u8_t k) d
theorem ok_octets_word_u8 : FnOk Try.prog ET0 123 pi_octets_word_u8 po_octets_word_u8 g_octets_word_u8 := go_octets_word_u8 g_octets_word_u8 fun d out h => lim_some h

/- horologe/octets.Get[uint8] -/
@[reducible] def pi_octets_Get_u8 : PSh := ⟨[], [.mk false [.v (.sl (.int .u8))], .mk false [.v (.int .i64)]]⟩
@[reducible] def po_octets_Get_u8 : PSh := ⟨[], [.mk false [.v (.int .u8)], .mk false [.v .err]]⟩
def f_octets_Get_u8_m (T : Unit) (d : Unit × (((List Int) × Unit) × ((Int × Unit) × Unit))) : Option (Unit × ((Int × Unit) × (((Option Int) × Unit) × Unit))) :=
  (g_octets_Size_u8 ((), ())).bind fun x1 =>
  (g_octets_from ((), ((d.2.1.1, ()), ((d.2.2.1.1, ()), ((x1.2.1.1, ()), ()))))).bind fun x2 =>
  let x3 : Bool := (!x2.2.2.1.1.isNone)
  bif x3 then (
  some ((), (((0 : Int), ()), ((x2.2.2.1.1, ()), ()))))
  else (
  (g_octets_word_u8 ((), ((x2.2.1.1, ()), ()))).bind fun x4 =>
  some ((), ((x4.2.1.1, ()), (((none : Option Int), ()), ()))))
def c_octets_Get_u8 : List Nat := []
def L_octets_Get_u8 (_ : Nat) : Pts po_octets_Get_u8.den := []
def E_octets_Get_u8 : Env := (((E0.add 75 (typedSem pi_octets_from po_octets_from g_octets_from)).add 98 (typedSem pi_octets_Size_u8 po_octets_Size_u8 g_octets_Size_u8)).add 123 (typedSem pi_octets_word_u8 po_octets_word_u8 g_octets_word_u8))
theorem q_octets_Get_u8_m (k : Nat) (d : Unit × (((List Int) × Unit) × ((Int × Unit) × Unit))) : evCode E_octets_Get_u8 (tab (L_octets_Get_u8 k)) c_octets_Get_u8 (bodyOf Try.f99) 0 (finK E_octets_Get_u8 po_octets_Get_u8 [.tmp 4, .tmp 5]) (startSt pi_octets_Get_u8 20 d) = f_octets_Get_u8_m () d := by kernel_rfl
def g_octets_Get_u8 (d : Unit × (((List Int) × Unit) × ((Int × Unit) × Unit))) : Option (Unit × ((Int × Unit) × (((Option Int) × Unit) × Unit))) := f_octets_Get_u8_m () d
theorem ok_octets_Get_u8 : FnOk Try.prog ET0 99 pi_octets_Get_u8 po_octets_Get_u8 g_octets_Get_u8 :=
  fn_of_body (E := E_octets_Get_u8) (envOk_add (envOk_add (envOk_add e0_ok (typed_ok ok_octets_from)) (typed_ok ok_octets_Size_u8)) (typed_ok ok_octets_word_u8)) (fn := Try.f99) Try.func99 (by kernel_rfl) (by kernel_rfl) [.tmp 4, .tmp 5] (by kernel_rfl) (by kernel_rfl) (by decide) rfl c_octets_Get_u8 L_octets_Get_u8
    (by intro x hx; cases hx) (by intro k x hx; cases hx) (fun d out h => ⟨0, (q_octets_Get_u8_m 0 d).trans h⟩)

/- horologe/head.First -/
@[reducible] def pi_head_First : PSh := ⟨[], [.mk false [.v (.sl (.int .u8))]]⟩
@[reducible] def po_head_First : PSh := ⟨[], [.mk false [.v (.int .i64)], .mk false [.v (.int .i64)], .mk false [.v (.int .i64)], .mk false [.v .err]]⟩
def f_head_First_m (T : Unit) (d : Unit × (((List Int) × Unit) × Unit)) : Option (Unit × ((Int × Unit) × ((Int × Unit) × ((Int × Unit) × (((Option Int) × Unit) × Unit))))) :=
  (g_octets_Get_u8 ((), ((d.2.1.1, ()), (((0 : Int), ()), ())))).bind fun x1 =>
  let x2 : Bool := (!x1.2.2.1.1.isNone)
  bif x2 then (
  some ((), (((0 : Int), ()), (((0 : Int), ()), (((0 : Int), ()), ((x1.2.2.1.1, ()), ()))))))
  else (
  let x3 : Int := (ishr .u8 x1.2.1.1 (6 : Int))
  let x4 : Int := (iconv .i64 x3)
  let x5 : Int := (ishr .u8 x1.2.1.1 (3 : Int))
  let x6 : Int := (iand .u8 x5 (7 : Int))
  let x7 : Int := (iconv .i64 x6)
  let x8 : Int := (iand .u8 x1.2.1.1 (7 : Int))
  let x9 : Int := (iconv .i64 x8)
  some ((), ((x4, ()), ((x7, ()), ((x9, ()), (((none : Option Int), ()), ()))))))
def c_head_First : List Nat := []
def L_head_First (_ : Nat) : Pts po_head_First.den := []
def E_head_First : Env := (E0.add 99 (typedSem pi_octets_Get_u8 po_octets_Get_u8 g_octets_Get_u8))
theorem q_head_First_m (k : Nat) (d : Unit × (((List Int) × Unit) × Unit)) : evCode E_head_First (tab (L_head_First k)) c_head_First (bodyOf Try.f66) 0 (finK E_head_First po_head_First [.tmp 2, .tmp 3, .tmp 4, .tmp 5]) (startSt pi_head_First 25 d) = f_head_First_m () d := by kernel_rfl
def g_head_First (d : Unit × (((List Int) × Unit) × Unit)) : Option (Unit × ((Int × Unit) × ((Int × Unit) × ((Int × Unit) × (((Option Int) × Unit) × Unit))))) := f_head_First_m () d
theorem ok_head_First : FnOk Try.prog ET0 66 pi_head_First po_head_First g_head_First :=
  fn_of_body (E := E_head_First) (envOk_add e0_ok (typed_ok ok_octets_Get_u8)) (fn := Try.f66) Try.func66 (by kernel_rfl) (by kernel_rfl) [.tmp 2, .tmp 3, .tmp 4, .tmp 5] (by kernel_rfl) (by kernel_rfl) (by decide) rfl c_head_First L_head_First
    (by intro x hx; cases hx) (by intro k x hx; cases hx) (fun d out h => ⟨0, (q_head_First_m 0 d).trans h⟩)

/- horologe/horologelaw28.alive -/
@[reducible] def pi_law28_alive : PSh := ⟨[], []⟩
@[reducible] def po_law28_alive : PSh := ⟨[], [.mk false [.v .bool]]⟩
def f_law28_alive_m (T : Unit) (d : Unit × Unit) : Option (Unit × ((Bool × Unit) × Unit)) :=
  let x1 : (List Int) := ([(35 : Int)] : List Int)
  (g_head_First ((), ((x1, ()), ()))).bind fun x2 =>
  (g_head_Put ((), (((0 : Int), ((4 : Int), ((3 : Int), ((9 : Int), ((0 : Int), ((0 : Int), ((0 : Int), ((0 : Int), ((0 : Int), ((0 : Int), ((0 : Int), ((0 : Int), ((0 : Int), ((0 : Int), ((0 : Int), ((0 : Int), ((0 : Int), ((0 : Int), ((0 : Int), ((0 : Int), ((0 : Int), ((0 : Int), ())))))))))))))))))))))), ()))).bind fun x3 =>
  bif x2.2.2.2.2.1.1.isNone then (
  bif x3.2.2.1.1.isNone then (
  let x4 : Bool := (x2.2.1.1 == (0 : Int))
  bif x4 then (
  let x5 : Bool := (x2.2.2.1.1 == (4 : Int))
  bif x5 then (
  let x6 : Bool := (x2.2.2.2.1.1 == (3 : Int))
  bif x6 then (
  let x7 : Int := (x3.1.1.length : Int)
  let x8 : Bool := (x7 == (48 : Int))
  bif x8 then (
  bif decide ((0 : Int) ≤ (0 : Int)) && decide ((0 : Int) < (x3.1.1.length : Int)) then (
  let x9 : Bool := ((gd (.int .u8) x3.1.1 (0 : Int)) == (35 : Int))
  bif x9 then (
  bif decide ((0 : Int) ≤ (1 : Int)) && decide ((1 : Int) < (x3.1.1.length : Int)) then (
  let x10 : Bool := ((gd (.int .u8) x3.1.1 (1 : Int)) == (9 : Int))
  some ((), ((x10, ()), ())))
  else none)
  else (
  some ((), ((false, ()), ()))))
  else none)
  else (
  some ((), ((false, ()), ()))))
  else (
  some ((), ((false, ()), ()))))
  else (
  some ((), ((false, ()), ()))))
  else (
  some ((), ((false, ()), ()))))
  else (
  some ((), ((false, ()), ()))))
  else (
  some ((), ((false, ()), ())))
def c_law28_alive : List Nat := []
def L_law28_alive (_ : Nat) : Pts po_law28_alive.den := []
def E_law28_alive : Env := ((E0.add 38 (typedSem pi_head_Put po_head_Put g_head_Put)).add 66 (typedSem pi_head_First po_head_First g_head_First))
theorem q_law28_alive_m (k : Nat) (d : Unit × Unit) : evCode E_law28_alive (tab (L_law28_alive k)) c_law28_alive (bodyOf Try.f37) 0 (finK E_law28_alive po_law28_alive [.tmp 0]) (startSt pi_law28_alive 54 d) = f_law28_alive_m () d := by kernel_rfl
def g_law28_alive (d : Unit × Unit) : Option (Unit × ((Bool × Unit) × Unit)) := f_law28_alive_m () d
theorem ok_law28_alive : FnOk Try.prog ET0 37 pi_law28_alive po_law28_alive g_law28_alive :=
  fn_of_body (E := E_law28_alive) (envOk_add (envOk_add e0_ok (typed_ok ok_head_Put)) (typed_ok ok_head_First)) (fn := Try.f37) Try.func37 (by kernel_rfl) (by kernel_rfl) [.tmp 0] (by kernel_rfl) (by kernel_rfl) (by decide) rfl c_law28_alive L_law28_alive
    (by intro x hx; cases hx) (by intro k x hx; cases hx) (fun d out h => ⟨0, (q_law28_alive_m 0 d).trans h⟩)

/- horologe/horologeref28.Check -/
@[reducible] def pi_ref28_Check : PSh := ⟨[], [.mk true [.v (.int .i64), .v (.int .i64), .v (.int .i64), .v (.int .i64), .v (.int .i64), .v (.int .i64), .v (.int .u64), .v (.int .u64), .v (.int .u8), .v (.int .u8), .v (.int .u8), .v (.int .u8), .v (.int .u64), .v (.int .u64), .v (.int .u64), .v (.int .u64)]]⟩
@[reducible] def po_ref28_Check : PSh := ⟨[], [.mk false [.v (.int .i64)]]⟩
def f_ref28_Check_m (T : Unit) (d : Unit × ((Int × (Int × (Int × (Int × (Int × (Int × (Int × (Int × (Int × (Int × (Int × (Int × (Int × (Int × (Int × (Int × Unit)))))))))))))))) × Unit)) : Option (Unit × ((Int × Unit) × Unit)) :=
  let x1 : Bool := (decide (d.2.1.1 < (0 : Int)))
  bif x1 then (
  some ((), (((1 : Int), ()), ())))
  else (
  let x2 : Bool := (decide (d.2.1.1 > (3 : Int)))
  bif x2 then (
  some ((), (((1 : Int), ()), ())))
  else (
  let x3 : Bool := (decide (d.2.1.2.1 < (0 : Int)))
  bif x3 then (
  some ((), (((1 : Int), ()), ())))
  else (
  let x4 : Bool := (decide (d.2.1.2.1 > (7 : Int)))
  bif x4 then (
  some ((), (((1 : Int), ()), ())))
  else (
  let x5 : Bool := (decide (d.2.1.2.2.1 < (0 : Int)))
  bif x5 then (
  some ((), (((1 : Int), ()), ())))
  else (
  let x6 : Bool := (decide (d.2.1.2.2.1 > (7 : Int)))
  bif x6 then (
  some ((), (((1 : Int), ()), ())))
  else (
  some ((), (((0 : Int), ()), ()))))))))
def c_ref28_Check : List Nat := []
def L_ref28_Check (_ : Nat) : Pts po_ref28_Check.den := []
def E_ref28_Check : Env := E0
theorem q_ref28_Check_m (k : Nat) (d : Unit × ((Int × (Int × (Int × (Int × (Int × (Int × (Int × (Int × (Int × (Int × (Int × (Int × (Int × (Int × (Int × (Int × Unit)))))))))))))))) × Unit)) : evCode E_ref28_Check (tab (L_ref28_Check k)) c_ref28_Check (bodyOf Try.f39) 0 (finK E_ref28_Check po_ref28_Check [.tmp 2]) (startSt pi_ref28_Check 31 d) = f_ref28_Check_m () d := by kernel_rfl
def g_ref28_Check (d : Unit × ((Int × (Int × (Int × (Int × (Int × (Int × (Int × (Int × (Int × (Int × (Int × (Int × (Int × (Int × (Int × (Int × Unit)))))))))))))))) × Unit)) : Option (Unit × ((Int × Unit) × Unit)) := f_ref28_Check_m () d
theorem ok_ref28_Check : FnOk Try.prog ET0 39 pi_ref28_Check po_ref28_Check g_ref28_Check :=
  fn_of_body (E := E_ref28_Check) e0_ok (fn := Try.f39) Try.func39 (by kernel_rfl) (by kernel_rfl) [.tmp 2] (by kernel_rfl) (by kernel_rfl) (by decide) rfl c_ref28_Check L_ref28_Check
    (by intro x hx; cases hx) (by intro k x hx; cases hx) (fun d out h => ⟨0, (q_ref28_Check_m 0 d).trans h⟩)

/- horologe/horologelaw28.bits -/
@[reducible] def pi_law28_bits : PSh := ⟨[], [.mk true [.v (.int .u32), .v (.int .u32)]]⟩
@[reducible] def po_law28_bits : PSh := ⟨[], [.mk false [.v (.int .u64)]]⟩
def f_law28_bits_m (T : Unit) (d : Unit × ((Int × (Int × Unit)) × Unit)) : Option (Unit × ((Int × Unit) × Unit)) :=
  let x1 : Int := (iconv .u64 d.2.1.1)
  let x2 : Int := (ishl .u64 x1 (32 : Int))
  let x3 : Int := (iconv .u64 d.2.1.2.1)
  let x4 : Int := (ior .u64 x2 x3)
  some ((), ((x4, ()), ()))
def c_law28_bits : List Nat := []
def L_law28_bits (_ : Nat) : Pts po_law28_bits.den := []
def E_law28_bits : Env := E0
theorem q_law28_bits_m (k : Nat) (d : Unit × ((Int × (Int × Unit)) × Unit)) : evCode E_law28_bits (tab (L_law28_bits k)) c_law28_bits (bodyOf Try.f64) 0 (finK E_law28_bits po_law28_bits [.tmp 2]) (startSt pi_law28_bits 11 d) = f_law28_bits_m () d := by kernel_rfl
def g_law28_bits (d : Unit × ((Int × (Int × Unit)) × Unit)) : Option (Unit × ((Int × Unit) × Unit)) := f_law28_bits_m () d
theorem ok_law28_bits : FnOk Try.prog ET0 64 pi_law28_bits po_law28_bits g_law28_bits :=
  fn_of_body (E := E_law28_bits) e0_ok (fn := Try.f64) Try.func64 (by kernel_rfl) (by kernel_rfl) [.tmp 2] (by kernel_rfl) (by kernel_rfl) (by decide) rfl c_law28_bits L_law28_bits
    (by intro x hx; cases hx) (by intro k x hx; cases hx) (fun d out h => ⟨0, (q_law28_bits_m 0 d).trans h⟩)

/- horologe/horologelaw28.short -/
@[reducible] def pi_law28_short : PSh := ⟨[], [.mk true [.v (.int .u16), .v (.int .u16)]]⟩
@[reducible] def po_law28_short : PSh := ⟨[], [.mk false [.v (.int .u64)]]⟩
def f_law28_short_m (T : Unit) (d : Unit × ((Int × (Int × Unit)) × Unit)) : Option (Unit × ((Int × Unit) × Unit)) :=
  let x1 : Int := (iconv .u64 d.2.1.1)
  let x2 : Int := (ishl .u64 x1 (16 : Int))
  let x3 : Int := (iconv .u64 d.2.1.2.1)
  let x4 : Int := (ior .u64 x2 x3)
  some ((), ((x4, ()), ()))
def c_law28_short : List Nat := []
def L_law28_short (_ : Nat) : Pts po_law28_short.den := []
def E_law28_short : Env := E0
theorem q_law28_short_m (k : Nat) (d : Unit × ((Int × (Int × Unit)) × Unit)) : evCode E_law28_short (tab (L_law28_short k)) c_law28_short (bodyOf Try.f89) 0 (finK E_law28_short po_law28_short [.tmp 2]) (startSt pi_law28_short 11 d) = f_law28_short_m () d := by kernel_rfl
def g_law28_short (d : Unit × ((Int × (Int × Unit)) × Unit)) : Option (Unit × ((Int × Unit) × Unit)) := f_law28_short_m () d
theorem ok_law28_short : FnOk Try.prog ET0 89 pi_law28_short po_law28_short g_law28_short :=
  fn_of_body (E := E_law28_short) e0_ok (fn := Try.f89) Try.func89 (by kernel_rfl) (by kernel_rfl) [.tmp 2] (by kernel_rfl) (by kernel_rfl) (by decide) rfl c_law28_short L_law28_short
    (by intro x hx; cases hx) (by intro k x hx; cases hx) (fun d out h => ⟨0, (q_law28_short_m 0 d).trans h⟩)

/- horologe/horologelaw28.Document -/
@[reducible] def pi_law28_Document : PSh := ⟨[], [.mk true [.v (.int .i64), .v (.int .i64), .v (.int .i64), .v (.int .u8), .v (.int .i8), .v (.int .i8), .v (.int .u16), .v (.int .u16), .v (.int .u16), .v (.int .u16), .v (.int .u8), .v (.int .u8), .v (.int .u8), .v (.int .u8), .v (.int .u32), .v (.int .u32), .v (.int .u32), .v (.int .u32), .v (.int .u32), .v (.int .u32), .v (.int .u32), .v (.int .u32)]]⟩
@[reducible] def po_law28_Document : PSh := ⟨[], [.mk true [.v (.int .i64), .v (.int .i64), .v (.int .i64), .v (.int .i64), .v (.int .i64), .v (.int .i64), .v (.int .u64), .v (.int .u64), .v (.int .u8), .v (.int .u8), .v (.int .u8), .v (.int .u8), .v (.int .u64), .v (.int .u64), .v (.int .u64), .v (.int .u64)]]⟩
def f_law28_Document_m (T : Unit) (d : Unit × ((Int × (Int × (Int × (Int × (Int × (Int × (Int × (Int × (Int × (Int × (Int × (Int × (Int × (Int × (Int × (Int × (Int × (Int × (Int × (Int × (Int × (Int × Unit)))))))))))))))))))))) × Unit)) : Option (Unit × ((Int × (Int × (Int × (Int × (Int × (Int × (Int × (Int × (Int × (Int × (Int × (Int × (Int × (Int × (Int × (Int × Unit)))))))))))))))) × Unit)) :=
  let x1 : Int := (iconv .i64 d.2.1.2.2.2.1)
  let x2 : Int := (iconv .i64 d.2.1.2.2.2.2.1)
  let x3 : Int := (iconv .i64 d.2.1.2.2.2.2.2.1)
  (g_law28_short ((), ((d.2.1.2.2.2.2.2.2.1, (d.2.1.2.2.2.2.2.2.2.1, ())), ()))).bind fun x4 =>
  (g_law28_short ((), ((d.2.1.2.2.2.2.2.2.2.2.1, (d.2.1.2.2.2.2.2.2.2.2.2.1, ())), ()))).bind fun x5 =>
  (g_law28_bits ((), ((d.2.1.2.2.2.2.2.2.2.2.2.2.2.2.2.2.1, (d.2.1.2.2.2.2.2.2.2.2.2.2.2.2.2.2.2.1, ())), ()))).bind fun x6 =>
  (g_law28_bits ((), ((d.2.1.2.2.2.2.2.2.2.2.2.2.2.2.2.2.2.2.1, (d.2.1.2.2.2.2.2.2.2.2.2.2.2.2.2.2.2.2.2.1, ())), ()))).bind fun x7 =>
  (g_law28_bits ((), ((d.2.1.2.2.2.2.2.2.2.2.2.2.2.2.2.2.2.2.2.2.1, (d.2.1.2.2.2.2.2.2.2.2.2.2.2.2.2.2.2.2.2.2.2.1, ())), ()))).bind fun x8 =>
  (g_law28_bits ((), ((d.2.1.2.2.2.2.2.2.2.2.2.2.2.2.2.2.2.2.2.2.2.2.1, (d.2.1.2.2.2.2.2.2.2.2.2.2.2.2.2.2.2.2.2.2.2.2.2.1, ())), ()))).bind fun x9 =>
  some ((), ((d.2.1.1, (d.2.1.2.1, (d.2.1.2.2.1, (x1, (x2, (x3, (x4.2.1.1, (x5.2.1.1, (d.2.1.2.2.2.2.2.2.2.2.2.2.1, (d.2.1.2.2.2.2.2.2.2.2.2.2.2.1, (d.2.1.2.2.2.2.2.2.2.2.2.2.2.2.1, (d.2.1.2.2.2.2.2.2.2.2.2.2.2.2.2.1, (x6.2.1.1, (x7.2.1.1, (x8.2.1.1, (x9.2.1.1, ())))))))))))))))), ()))
def c_law28_Document : List Nat := []
def L_law28_Document (_ : Nat) : Pts po_law28_Document.den := []
def E_law28_Document : Env := ((E0.add 64 (typedSem pi_law28_bits po_law28_bits g_law28_bits)).add 89 (typedSem pi_law28_short po_law28_short g_law28_short))
theorem q_law28_Document_m (k : Nat) (d : Unit × ((Int × (Int × (Int × (Int × (Int × (Int × (Int × (Int × (Int × (Int × (Int × (Int × (Int × (Int × (Int × (Int × (Int × (Int × (Int × (Int × (Int × (Int × Unit)))))))))))))))))))))) × Unit)) : evCode E_law28_Document (tab (L_law28_Document k)) c_law28_Document (bodyOf Try.f40) 0 (finK E_law28_Document po_law28_Document [.cell 2 70]) (startSt pi_law28_Document 39 d) = f_law28_Document_m () d := by kernel_rfl
def g_law28_Document (d : Unit × ((Int × (Int × (Int × (Int × (Int × (Int × (Int × (Int × (Int × (Int × (Int × (Int × (Int × (Int × (Int × (Int × (Int × (Int × (Int × (Int × (Int × (Int × Unit)))))))))))))))))))))) × Unit)) : Option (Unit × ((Int × (Int × (Int × (Int × (Int × (Int × (Int × (Int × (Int × (Int × (Int × (Int × (Int × (Int × (Int × (Int × Unit)))))))))))))))) × Unit)) := f_law28_Document_m () d
theorem ok_law28_Document : FnOk Try.prog ET0 40 pi_law28_Document po_law28_Document g_law28_Document :=
  fn_of_body (E := E_law28_Document) (envOk_add (envOk_add e0_ok (typed_ok ok_law28_bits)) (typed_ok ok_law28_short)) (fn := Try.f40) Try.func40 (by kernel_rfl) (by kernel_rfl) [.cell 2 70] (by kernel_rfl) (by kernel_rfl) (by decide) rfl c_law28_Document L_law28_Document
    (by intro x hx; cases hx) (by intro k x hx; cases hx) (fun d out h => ⟨0, (q_law28_Document_m 0 d).trans h⟩)

/- horologe/horologeref03.Number -/
@[reducible] def pi_ref03_Number : PSh := ⟨[], [.mk false [.v (.int .u64)], .mk false [.v (.int .i64)]]⟩
@[reducible] def po_ref03_Number : PSh := ⟨[.row 5 (.int .u8)], [.mk false [.osl 0]]⟩
@[reducible] def TT_ref03_Number : Type := (((((List Int) × Unit) × ((Int × Unit) × (Unit × ((Int × Unit) × Unit)))) → Option (((List Int) × Unit) × (Unit × Unit))) × Unit)
@[reducible] def sh_ref03_Number_4 : PSh := ⟨[.row 5 (.int .u8)], [.mk false [.v (.int .u64)], .any, .any, .any, .any, .mk false [.osl 0], .mk false [.v (.int .i64)], .any, .any, .any, .any, .any, .any, .any, .any, .any, .any, .any, .any, .any, .any, .any, .any, .any]⟩
def f_ref03_Number_p4 (T : TT_ref03_Number) (d : ((List Int) × Unit) × ((Int × Unit) × (Unit × ((Int × Unit) × Unit)))) : Option (((List Int) × Unit) × (Unit × Unit)) :=
  let x3 : Bool := (decide (d.2.2.2.1.1 ≥ (0 : Int)))
  bif x3 then (
  let x4 : Int := (Int.tmod d.2.1.1 (256 : Int))
  let x5 : Int := (iconv .u8 x4)
  bif decide ((0 : Int) ≤ d.2.2.2.1.1) && decide (d.2.2.2.1.1 < (d.1.1.length : Int)) then (
  let x6 : (List Int) := (List.set d.1.1 (Int.toNat d.2.2.2.1.1) x5)
  let x7 : Int := (iquo .u64 d.2.1.1 (256 : Int))
  let x8 : Int := (isub .i64 d.2.2.2.1.1 (1 : Int))
  (T.1 ((x6, ()), ((x7, ()), ((), ((x8, ()), ()))))))
  else none)
  else (
  some ((d.1.1, ()), ((), ())))
def f_ref03_Number_t : Nat → TT_ref03_Number
  | 0 => (fun _ => none, ())
  | k + 1 => (f_ref03_Number_p4 (f_ref03_Number_t k), ())
theorem t_ref03_Number (k : Nat) : f_ref03_Number_t (k + 1) = (f_ref03_Number_p4 (f_ref03_Number_t k), ()) := rfl
def f_ref03_Number_m (T : TT_ref03_Number) (d : Unit × ((Int × Unit) × ((Int × Unit) × Unit))) : Option (((List Int) × Unit) × (Unit × Unit)) :=
  bif decide ((0 : Int) ≤ d.2.2.1.1) && decide (d.2.2.1.1 ≤ d.2.2.1.1) && decide (d.2.2.1.1 * (1 : Int) ≤ 140737488355328) && decide (d.2.2.1.1 ≤ 9223372036854775807) then (
  let x1 : (List Int) := (List.replicate (Int.toNat d.2.2.1.1) (0 : Int))
  let x2 : Int := (isub .i64 d.2.2.1.1 (1 : Int))
  (T.1 ((x1, ()), ((d.2.1.1, ()), ((), ((x2, ()), ()))))))
  else none
def c_ref03_Number : List Nat := []
def L_ref03_Number (k : Nat) : Pts po_ref03_Number.den := [(4, ⟨sh_ref03_Number_4, (f_ref03_Number_t k).1⟩)]
def E_ref03_Number : Env := E0
theorem q_ref03_Number_4 (k : Nat) (d : ((List Int) × Unit) × ((Int × Unit) × (Unit × ((Int × Unit) × Unit)))) : evAt E_ref03_Number (tab (L_ref03_Number k)) c_ref03_Number 4 (bodyOf Try.f56) 0 (finK E_ref03_Number po_ref03_Number [.tmp 4]) (ptSt sh_ref03_Number_4 d) = f_ref03_Number_p4 (f_ref03_Number_t k) d := by kernel_rfl
theorem q_ref03_Number_m (k : Nat) (d : Unit × ((Int × Unit) × ((Int × Unit) × Unit))) : evCode E_ref03_Number (tab (L_ref03_Number k)) c_ref03_Number (bodyOf Try.f56) 0 (finK E_ref03_Number po_ref03_Number [.tmp 4]) (startSt pi_ref03_Number 24 d) = f_ref03_Number_m (f_ref03_Number_t k) d := by kernel_rfl
theorem go_ref03_Number (G : Unit × ((Int × Unit) × ((Int × Unit) × Unit)) → Option (((List Int) × Unit) × (Unit × Unit))) (hG : ∀ d out, G d = some out → ∃ k, f_ref03_Number_m (f_ref03_Number_t k) d = some out) : FnOk Try.prog ET0 56 pi_ref03_Number po_ref03_Number G :=
  fn_of_body (E := E_ref03_Number) e0_ok (fn := Try.f56) Try.func56 (by kernel_rfl) (by kernel_rfl) [.tmp 4] (by kernel_rfl) (by kernel_rfl) (by decide) rfl c_ref03_Number L_ref03_Number
    (by intro x hx d; simp only [L_ref03_Number, List.mem_cons, List.not_mem_nil, or_false] at hx; subst hx; rfl)
    (by intro k x hx d out h; simp only [L_ref03_Number, List.mem_cons, List.not_mem_nil, or_false] at hx; subst hx; exact (q_ref03_Number_4 k d).trans h)
    (by intro d out h; obtain ⟨k, hk⟩ := hG d out h; exact ⟨k, (q_ref03_Number_m k d).trans hk⟩)
def g_ref03_Number (d : Unit × ((Int × Unit) × ((Int × Unit) × Unit))) : Option (((List Int) × Unit) × (Unit × Unit)) := lim fun k => f_ref03_Number_m (f_ref03_Number_t k) d
theorem ok_ref03_Number : FnOk Try.prog ET0 56 pi_ref03_Number po_ref03_Number g_ref03_Number := go_ref03_Number g_ref03_Number fun d out h => lim_some h

/- horologe/horologeref28.Put -/
@[reducible] def pi_ref28_Put : PSh := ⟨[], [.mk true [.v (.int .i64), .v (.int .i64), .v (.int .i64), .v (.int .i64), .v (.int .i64), .v (.int .i64), .v (.int .u64), .v (.int .u64), .v (.int .u8), .v (.int .u8), .v (.int .u8), .v (.int .u8), .v (.int .u64), .v (.int .u64), .v (.int .u64), .v (.int .u64)]]⟩
@[reducible] def po_ref28_Put : PSh := ⟨[.row 5 (.int .u8)], [.mk false [.osl 0]]⟩
@[reducible] def TT_ref28_Put : Type := (((((List Int) × ((List Int) × Unit)) × (Unit × (Unit × ((Int × Unit) × ((Int × Unit) × Unit))))) → Option (((List Int) × Unit) × (Unit × Unit))) × Unit)
@[reducible] def sh_ref28_Put_7 : PSh := ⟨[.row 5 (.int .u8), .row 26 (.int .u64)], [.any, .any, .any, .mk false [.osl 0], .any, .any, .any, .any, .any, .any, .any, .any, .any, .any, .any, .any, .any, .any, .any, .any, .any, .any, .any, .any, .any, .any, .any, .any, .any, .any, .any, .any, .any, .any, .any, .any, .any, .any, .any, .any, .any, .any, .any, .any, .any, .any, .any, .any, .any, .mk false [.osl 1], .mk false [.v (.int .i64)], .mk false [.v (.int .i64)], .any, .any, .any, .any, .any, .any, .any, .any, .any]⟩
def f_ref28_Put_p7 (T : TT_ref28_Put) (d : ((List Int) × ((List Int) × Unit)) × (Unit × (Unit × ((Int × Unit) × ((Int × Unit) × Unit))))) : Option (((List Int) × Unit) × (Unit × Unit)) :=
  let x19 : Bool := (decide (d.2.2.2.2.1.1 < d.2.2.2.1.1))
  bif x19 then (
  bif decide ((0 : Int) ≤ d.2.2.2.2.1.1) && decide (d.2.2.2.2.1.1 < (d.1.2.1.length : Int)) then (
  (g_ref03_Number ((), (((gd (.int .u64) d.1.2.1 d.2.2.2.2.1.1), ()), (((8 : Int), ()), ())))).bind fun x20 =>
  bif decide (((d.1.1.length + x20.1.1.length) * 1 : Nat) ≤ 140737488355328) && decide (d.1.1.length + x20.1.1.length ≤ 9223372036854775807) then (
  let x21 : (List Int) := (d.1.1 ++ x20.1.1)
  let x22 : Int := (iadd .i64 d.2.2.2.2.1.1 (1 : Int))
  (T.1 ((x21, (d.1.2.1, ())), ((), ((), ((d.2.2.2.1.1, ()), ((x22, ()), ())))))))
  else none)
  else none)
  else (
  some ((d.1.1, ()), ((), ())))
def f_ref28_Put_t : Nat → TT_ref28_Put
  | 0 => (fun _ => none, ())
  | k + 1 => (f_ref28_Put_p7 (f_ref28_Put_t k), ())
theorem t_ref28_Put (k : Nat) : f_ref28_Put_t (k + 1) = (f_ref28_Put_p7 (f_ref28_Put_t k), ()) := rfl
def f_ref28_Put_m (T : TT_ref28_Put) (d : Unit × ((Int × (Int × (Int × (Int × (Int × (Int × (Int × (Int × (Int × (Int × (Int × (Int × (Int × (Int × (Int × (Int × Unit)))))))))))))))) × Unit)) : Option (((List Int) × Unit) × (Unit × Unit)) :=
  let x1 : Int := (imul .i64 d.2.1.1 (64 : Int))
  let x2 : Int := (imul .i64 d.2.1.2.1 (8 : Int))
  let x3 : Int := (iadd .i64 x1 x2)
  let x4 : Int := (iadd .i64 x3 d.2.1.2.2.1)
  let x5 : Int := (iconv .u8 x4)
  let x6 : Int := (iconv .u8 d.2.1.2.2.2.1)
  let x7 : Int := (iconv .u8 d.2.1.2.2.2.2.1)
  let x8 : Int := (iconv .u8 d.2.1.2.2.2.2.2.1)
  let x9 : (List Int) := ([x5, x6, x7, x8] : List Int)
  (g_ref03_Number ((), ((d.2.1.2.2.2.2.2.2.1, ()), (((4 : Int), ()), ())))).bind fun x10 =>
  bif decide (((x9.length + x10.1.1.length) * 1 : Nat) ≤ 140737488355328) && decide (x9.length + x10.1.1.length ≤ 9223372036854775807) then (
  let x11 : (List Int) := (x9 ++ x10.1.1)
  (g_ref03_Number ((), ((d.2.1.2.2.2.2.2.2.2.1, ()), (((4 : Int), ()), ())))).bind fun x12 =>
  bif decide (((x11.length + x12.1.1.length) * 1 : Nat) ≤ 140737488355328) && decide (x11.length + x12.1.1.length ≤ 9223372036854775807) then (
  let x13 : (List Int) := (x11 ++ x12.1.1)
  let x14 : (Int × (Int × (Int × (Int × (Int × (Int × (Int × (Int × ((Int × (Int × (Int × Int))) × (Int × (Int × (Int × Int)))))))))))) := (d.2.1.1, (d.2.1.2.1, (d.2.1.2.2.1, (d.2.1.2.2.2.1, (d.2.1.2.2.2.2.1, (d.2.1.2.2.2.2.2.1, (d.2.1.2.2.2.2.2.2.1, (d.2.1.2.2.2.2.2.2.2.1, ((d.2.1.2.2.2.2.2.2.2.2.1, (d.2.1.2.2.2.2.2.2.2.2.2.1, (d.2.1.2.2.2.2.2.2.2.2.2.2.1, d.2.1.2.2.2.2.2.2.2.2.2.2.2.1))), (d.2.1.2.2.2.2.2.2.2.2.2.2.2.2.1, (d.2.1.2.2.2.2.2.2.2.2.2.2.2.2.2.1, (d.2.1.2.2.2.2.2.2.2.2.2.2.2.2.2.2.1, d.2.1.2.2.2.2.2.2.2.2.2.2.2.2.2.2.2.1))))))))))))
  let x15 : (List Int) := ([x14.2.2.2.2.2.2.2.2.1.1, x14.2.2.2.2.2.2.2.2.1.2.1, x14.2.2.2.2.2.2.2.2.1.2.2.1, x14.2.2.2.2.2.2.2.2.1.2.2.2] : List Int)
  bif decide (((x13.length + x15.length) * 1 : Nat) ≤ 140737488355328) && decide (x13.length + x15.length ≤ 9223372036854775807) then (
  let x16 : (List Int) := (x13 ++ x15)
  let x17 : (List Int) := ([x14.2.2.2.2.2.2.2.2.2.1, x14.2.2.2.2.2.2.2.2.2.2.1, x14.2.2.2.2.2.2.2.2.2.2.2.1, x14.2.2.2.2.2.2.2.2.2.2.2.2] : List Int)
  let x18 : Int := (x17.length : Int)
  (T.1 ((x16, (x17, ())), ((), ((), ((x18, ()), (((0 : Int), ()), ())))))))
  else none)
  else none)
  else none
def c_ref28_Put : List Nat := []
def L_ref28_Put (k : Nat) : Pts po_ref28_Put.den := [(7, ⟨sh_ref28_Put_7, (f_ref28_Put_t k).1⟩)]
def E_ref28_Put : Env := ((E0.add 56 (typedSem pi_ref03_Number po_ref03_Number g_ref03_Number)).fr [(39, [38])])
theorem q_ref28_Put_7 (k : Nat) (d : ((List Int) × ((List Int) × Unit)) × (Unit × (Unit × ((Int × Unit) × ((Int × Unit) × Unit))))) : evAt E_ref28_Put (tab (L_ref28_Put k)) c_ref28_Put 7 (bodyOf Try.f42) 0 (finK E_ref28_Put po_ref28_Put [.tmp 2]) (ptSt sh_ref28_Put_7 d) = f_ref28_Put_p7 (f_ref28_Put_t k) d := by kernel_rfl
theorem q_ref28_Put_m (k : Nat) (d : Unit × ((Int × (Int × (Int × (Int × (Int × (Int × (Int × (Int × (Int × (Int × (Int × (Int × (Int × (Int × (Int × (Int × Unit)))))))))))))))) × Unit)) : evCode E_ref28_Put (tab (L_ref28_Put k)) c_ref28_Put (bodyOf Try.f42) 0 (finK E_ref28_Put po_ref28_Put [.tmp 2]) (startSt pi_ref28_Put 61 d) = f_ref28_Put_m (f_ref28_Put_t k) d := by kernel_rfl
theorem go_ref28_Put (G : Unit × ((Int × (Int × (Int × (Int × (Int × (Int × (Int × (Int × (Int × (Int × (Int × (Int × (Int × (Int × (Int × (Int × Unit)))))))))))))))) × Unit) → Option (((List Int) × Unit) × (Unit × Unit))) (hG : ∀ d out, G d = some out → ∃ k, f_ref28_Put_m (f_ref28_Put_t k) d = some out) : FnOk Try.prog ET0 42 pi_ref28_Put po_ref28_Put G :=
  fn_of_body (E := E_ref28_Put) (envOk_fr (envOk_add e0_ok (typed_ok ok_ref03_Number))) (fn := Try.f42) Try.func42 (by kernel_rfl) (by kernel_rfl) [.tmp 2] (by kernel_rfl) (by kernel_rfl) (by decide) rfl c_ref28_Put L_ref28_Put
    (by intro x hx d; simp only [L_ref28_Put, List.mem_cons, List.not_mem_nil, or_false] at hx; subst hx; rfl)
    (by intro k x hx d out h; simp only [L_ref28_Put, List.mem_cons, List.not_mem_nil, or_false] at hx; subst hx; exact (q_ref28_Put_7 k d).trans h)
    (by intro d out h; obtain ⟨k, hk⟩ := hG d out h; exact ⟨k, (q_ref28_Put_m k d).trans hk⟩)
def g_ref28_Put (d : Unit × ((Int × (Int × (Int × (Int × (Int × (Int × (Int × (Int × (Int × (Int × (Int × (Int × (Int × (Int × (Int × (Int × Unit)))))))))))))))) × Unit)) : Option (((List Int) × Unit) × (Unit × Unit)) := lim fun k => f_ref28_Put_m (f_ref28_Put_t k) d
theorem ok_ref28_Put : FnOk Try.prog ET0 42 pi_ref28_Put po_ref28_Put g_ref28_Put := go_ref28_Put g_ref28_Put fun d out h => lim_some h

/- horologe/horologelaw28.HeadPuts -/
@[reducible] def pi_law28_HeadPuts : PSh := ⟨[], [.mk true [.v (.int .i64), .v (.int .i64), .v (.int .i64), .v (.int .u8), .v (.int .i8), .v (.int .i8), .v (.int .u16), .v (.int .u16), .v (.int .u16), .v (.int .u16), .v (.int .u8), .v (.int .u8), .v (.int .u8), .v (.int .u8), .v (.int .u32), .v (.int .u32), .v (.int .u32), .v (.int .u32), .v (.int .u32), .v (.int .u32), .v (.int .u32), .v (.int .u32)]]⟩
@[reducible] def po_law28_HeadPuts : PSh := ⟨[], [.mk false [.v .bool]]⟩
def f_law28_HeadPuts_m (T : Unit) (d : Unit × ((Int × (Int × (Int × (Int × (Int × (Int × (Int × (Int × (Int × (Int × (Int × (Int × (Int × (Int × (Int × (Int × (Int × (Int × (Int × (Int × (Int × (Int × Unit)))))))))))))))))))))) × Unit)) : Option (Unit × ((Bool × Unit) × Unit)) :=
  (g_law28_alive ((), ())).bind fun x1 =>
  let x2 : Bool := (!x1.2.1.1)
  bif x2 then (
  some ((), ((false, ()), ())))
  else (
  (g_head_Put ((), ((d.2.1.1, (d.2.1.2.1, (d.2.1.2.2.1, (d.2.1.2.2.2.1, (d.2.1.2.2.2.2.1, (d.2.1.2.2.2.2.2.1, (d.2.1.2.2.2.2.2.2.1, (d.2.1.2.2.2.2.2.2.2.1, (d.2.1.2.2.2.2.2.2.2.2.1, (d.2.1.2.2.2.2.2.2.2.2.2.1, (d.2.1.2.2.2.2.2.2.2.2.2.2.1, (d.2.1.2.2.2.2.2.2.2.2.2.2.2.1, (d.2.1.2.2.2.2.2.2.2.2.2.2.2.2.1, (d.2.1.2.2.2.2.2.2.2.2.2.2.2.2.2.1, (d.2.1.2.2.2.2.2.2.2.2.2.2.2.2.2.2.1, (d.2.1.2.2.2.2.2.2.2.2.2.2.2.2.2.2.2.1, (d.2.1.2.2.2.2.2.2.2.2.2.2.2.2.2.2.2.2.1, (d.2.1.2.2.2.2.2.2.2.2.2.2.2.2.2.2.2.2.2.1, (d.2.1.2.2.2.2.2.2.2.2.2.2.2.2.2.2.2.2.2.2.1, (d.2.1.2.2.2.2.2.2.2.2.2.2.2.2.2.2.2.2.2.2.2.1, (d.2.1.2.2.2.2.2.2.2.2.2.2.2.2.2.2.2.2.2.2.2.2.1, (d.2.1.2.2.2.2.2.2.2.2.2.2.2.2.2.2.2.2.2.2.2.2.2.1, ())))))))))))))))))))))), ()))).bind fun x3 =>
  (g_law28_Document ((), ((d.2.1.1, (d.2.1.2.1, (d.2.1.2.2.1, (d.2.1.2.2.2.1, (d.2.1.2.2.2.2.1, (d.2.1.2.2.2.2.2.1, (d.2.1.2.2.2.2.2.2.1, (d.2.1.2.2.2.2.2.2.2.1, (d.2.1.2.2.2.2.2.2.2.2.1, (d.2.1.2.2.2.2.2.2.2.2.2.1, (d.2.1.2.2.2.2.2.2.2.2.2.2.1, (d.2.1.2.2.2.2.2.2.2.2.2.2.2.1, (d.2.1.2.2.2.2.2.2.2.2.2.2.2.2.1, (d.2.1.2.2.2.2.2.2.2.2.2.2.2.2.2.1, (d.2.1.2.2.2.2.2.2.2.2.2.2.2.2.2.2.1, (d.2.1.2.2.2.2.2.2.2.2.2.2.2.2.2.2.2.1, (d.2.1.2.2.2.2.2.2.2.2.2.2.2.2.2.2.2.2.1, (d.2.1.2.2.2.2.2.2.2.2.2.2.2.2.2.2.2.2.2.1, (d.2.1.2.2.2.2.2.2.2.2.2.2.2.2.2.2.2.2.2.2.1, (d.2.1.2.2.2.2.2.2.2.2.2.2.2.2.2.2.2.2.2.2.2.1, (d.2.1.2.2.2.2.2.2.2.2.2.2.2.2.2.2.2.2.2.2.2.2.1, (d.2.1.2.2.2.2.2.2.2.2.2.2.2.2.2.2.2.2.2.2.2.2.2.1, ())))))))))))))))))))))), ()))).bind fun x4 =>
  (g_ref28_Check ((), ((x4.2.1.1, (x4.2.1.2.1, (x4.2.1.2.2.1, (x4.2.1.2.2.2.1, (x4.2.1.2.2.2.2.1, (x4.2.1.2.2.2.2.2.1, (x4.2.1.2.2.2.2.2.2.1, (x4.2.1.2.2.2.2.2.2.2.1, (x4.2.1.2.2.2.2.2.2.2.2.1, (x4.2.1.2.2.2.2.2.2.2.2.2.1, (x4.2.1.2.2.2.2.2.2.2.2.2.2.1, (x4.2.1.2.2.2.2.2.2.2.2.2.2.2.1, (x4.2.1.2.2.2.2.2.2.2.2.2.2.2.2.1, (x4.2.1.2.2.2.2.2.2.2.2.2.2.2.2.2.1, (x4.2.1.2.2.2.2.2.2.2.2.2.2.2.2.2.2.1, (x4.2.1.2.2.2.2.2.2.2.2.2.2.2.2.2.2.2.1, ())))))))))))))))), ()))).bind fun x5 =>
  (g_head_Check ((), ((d.2.1.1, (d.2.1.2.1, (d.2.1.2.2.1, (d.2.1.2.2.2.1, (d.2.1.2.2.2.2.1, (d.2.1.2.2.2.2.2.1, (d.2.1.2.2.2.2.2.2.1, (d.2.1.2.2.2.2.2.2.2.1, (d.2.1.2.2.2.2.2.2.2.2.1, (d.2.1.2.2.2.2.2.2.2.2.2.1, (d.2.1.2.2.2.2.2.2.2.2.2.2.1, (d.2.1.2.2.2.2.2.2.2.2.2.2.2.1, (d.2.1.2.2.2.2.2.2.2.2.2.2.2.2.1, (d.2.1.2.2.2.2.2.2.2.2.2.2.2.2.2.1, (d.2.1.2.2.2.2.2.2.2.2.2.2.2.2.2.2.1, (d.2.1.2.2.2.2.2.2.2.2.2.2.2.2.2.2.2.1, (d.2.1.2.2.2.2.2.2.2.2.2.2.2.2.2.2.2.2.1, (d.2.1.2.2.2.2.2.2.2.2.2.2.2.2.2.2.2.2.2.1, (d.2.1.2.2.2.2.2.2.2.2.2.2.2.2.2.2.2.2.2.2.1, (d.2.1.2.2.2.2.2.2.2.2.2.2.2.2.2.2.2.2.2.2.2.1, (d.2.1.2.2.2.2.2.2.2.2.2.2.2.2.2.2.2.2.2.2.2.2.1, (d.2.1.2.2.2.2.2.2.2.2.2.2.2.2.2.2.2.2.2.2.2.2.2.1, ())))))))))))))))))))))), ()))).bind fun x6 =>
  (g_hnum_Num ((), ((x6.2.1.1, ()), ()))).bind fun x7 =>
  let x8 : Bool := (x7.2.1.1 != x5.2.1.1)
  bif x8 then (
  some ((), ((false, ()), ())))
  else (
  (g_hnum_Num ((), ((x3.2.2.1.1, ()), ()))).bind fun x9 =>
  let x10 : Bool := (x9.2.1.1 != x5.2.1.1)
  bif x10 then (
  some ((), ((false, ()), ())))
  else (
  let x11 : Bool := (x5.2.1.1 != (0 : Int))
  bif x11 then (
  let x12 : Int := (x3.1.1.length : Int)
  let x13 : Bool := (x12 == (0 : Int))
  some ((), ((x13, ()), ())))
  else (
  (g_law28_Document ((), ((d.2.1.1, (d.2.1.2.1, (d.2.1.2.2.1, (d.2.1.2.2.2.1, (d.2.1.2.2.2.2.1, (d.2.1.2.2.2.2.2.1, (d.2.1.2.2.2.2.2.2.1, (d.2.1.2.2.2.2.2.2.2.1, (d.2.1.2.2.2.2.2.2.2.2.1, (d.2.1.2.2.2.2.2.2.2.2.2.1, (d.2.1.2.2.2.2.2.2.2.2.2.2.1, (d.2.1.2.2.2.2.2.2.2.2.2.2.2.1, (d.2.1.2.2.2.2.2.2.2.2.2.2.2.2.1, (d.2.1.2.2.2.2.2.2.2.2.2.2.2.2.2.1, (d.2.1.2.2.2.2.2.2.2.2.2.2.2.2.2.2.1, (d.2.1.2.2.2.2.2.2.2.2.2.2.2.2.2.2.2.1, (d.2.1.2.2.2.2.2.2.2.2.2.2.2.2.2.2.2.2.1, (d.2.1.2.2.2.2.2.2.2.2.2.2.2.2.2.2.2.2.2.1, (d.2.1.2.2.2.2.2.2.2.2.2.2.2.2.2.2.2.2.2.2.1, (d.2.1.2.2.2.2.2.2.2.2.2.2.2.2.2.2.2.2.2.2.2.1, (d.2.1.2.2.2.2.2.2.2.2.2.2.2.2.2.2.2.2.2.2.2.2.1, (d.2.1.2.2.2.2.2.2.2.2.2.2.2.2.2.2.2.2.2.2.2.2.2.1, ())))))))))))))))))))))), ()))).bind fun x14 =>
  (g_ref28_Put ((), ((x14.2.1.1, (x14.2.1.2.1, (x14.2.1.2.2.1, (x14.2.1.2.2.2.1, (x14.2.1.2.2.2.2.1, (x14.2.1.2.2.2.2.2.1, (x14.2.1.2.2.2.2.2.2.1, (x14.2.1.2.2.2.2.2.2.2.1, (x14.2.1.2.2.2.2.2.2.2.2.1, (x14.2.1.2.2.2.2.2.2.2.2.2.1, (x14.2.1.2.2.2.2.2.2.2.2.2.2.1, (x14.2.1.2.2.2.2.2.2.2.2.2.2.2.1, (x14.2.1.2.2.2.2.2.2.2.2.2.2.2.2.1, (x14.2.1.2.2.2.2.2.2.2.2.2.2.2.2.2.1, (x14.2.1.2.2.2.2.2.2.2.2.2.2.2.2.2.2.1, (x14.2.1.2.2.2.2.2.2.2.2.2.2.2.2.2.2.2.1, ())))))))))))))))), ()))).bind fun x15 =>
  (g_hnum_Bytes ((), ((x3.1.1, ()), ((x15.1.1, ()), ())))).bind fun x16 =>
  some ((), ((x16.2.1.1, ()), ()))))))
def c_law28_HeadPuts : List Nat := []
def L_law28_HeadPuts (_ : Nat) : Pts po_law28_HeadPuts.den := []
def E_law28_HeadPuts : Env := ((((((((E0.add 27 (typedSem pi_hnum_Num po_hnum_Num g_hnum_Num)).add 28 (typedSem pi_hnum_Bytes po_hnum_Bytes g_hnum_Bytes)).add 37 (typedSem pi_law28_alive po_law28_alive g_law28_alive)).add 38 (typedSem pi_head_Put po_head_Put g_head_Put)).add 39 (typedSem pi_ref28_Check po_ref28_Check g_ref28_Check)).add 40 (typedSem pi_law28_Document po_law28_Document g_law28_Document)).add 41 (typedSem pi_head_Check po_head_Check g_head_Check)).add 42 (typedSem pi_ref28_Put po_ref28_Put g_ref28_Put))
theorem q_law28_HeadPuts_m (k : Nat) (d : Unit × ((Int × (Int × (Int × (Int × (Int × (Int × (Int × (Int × (Int × (Int × (Int × (Int × (Int × (Int × (Int × (Int × (Int × (Int × (Int × (Int × (Int × (Int × Unit)))))))))))))))))))))) × Unit)) : evCode E_law28_HeadPuts (tab (L_law28_HeadPuts k)) c_law28_HeadPuts (bodyOf Try.f6) 0 (finK E_law28_HeadPuts po_law28_HeadPuts [.tmp 2]) (startSt pi_law28_HeadPuts 37 d) = f_law28_HeadPuts_m () d := by kernel_rfl
def g_law28_HeadPuts (d : Unit × ((Int × (Int × (Int × (Int × (Int × (Int × (Int × (Int × (Int × (Int × (Int × (Int × (Int × (Int × (Int × (Int × (Int × (Int × (Int × (Int × (Int × (Int × Unit)))))))))))))))))))))) × Unit)) : Option (Unit × ((Bool × Unit) × Unit)) := f_law28_HeadPuts_m () d
theorem ok_law28_HeadPuts : FnOk Try.prog ET0 6 pi_law28_HeadPuts po_law28_HeadPuts g_law28_HeadPuts :=
  fn_of_body (E := E_law28_HeadPuts) (envOk_add (envOk_add (envOk_add (envOk_add (envOk_add (envOk_add (envOk_add (envOk_add e0_ok (typed_ok ok_hnum_Num)) (typed_ok ok_hnum_Bytes)) (typed_ok ok_law28_alive)) (typed_ok ok_head_Put)) (typed_ok ok_ref28_Check)) (typed_ok ok_law28_Document)) (typed_ok ok_head_Check)) (typed_ok ok_ref28_Put)) (fn := Try.f6) Try.func6 (by kernel_rfl) (by kernel_rfl) [.tmp 2] (by kernel_rfl) (by kernel_rfl) (by decide) rfl c_law28_HeadPuts L_law28_HeadPuts
    (by intro x hx; cases hx) (by intro k x hx; cases hx) (fun d out h => ⟨0, (q_law28_HeadPuts_m 0 d).trans h⟩)

/- (horologe/stamp.Long).bits -/
@[reducible] def pi_stamp_Long_bits : PSh := ⟨[], [.mk true [.v (.int .u32), .v (.int .u32)]]⟩
@[reducible] def po_stamp_Long_bits : PSh := ⟨[], [.mk false [.v (.int .u64)]]⟩
def f_stamp_Long_bits_m (T : Unit) (d : Unit × ((Int × (Int × Unit)) × Unit)) : Option (Unit × ((Int × Unit) × Unit)) :=
  let x1 : Int := (iconv .u64 d.2.1.1)
  let x2 : Int := (ishl .u64 x1 (32 : Int))
  let x3 : Int := (iconv .u64 d.2.1.2.1)
  let x4 : Int := (ior .u64 x2 x3)
  some ((), ((x4, ()), ()))
def c_stamp_Long_bits : List Nat := []
def L_stamp_Long_bits (_ : Nat) : Pts po_stamp_Long_bits.den := []
def E_stamp_Long_bits : Env := E0
theorem q_stamp_Long_bits_m (k : Nat) (d : Unit × ((Int × (Int × Unit)) × Unit)) : evCode E_stamp_Long_bits (tab (L_stamp_Long_bits k)) c_stamp_Long_bits (bodyOf Try.f111) 0 (finK E_stamp_Long_bits po_stamp_Long_bits [.tmp 2]) (startSt pi_stamp_Long_bits 11 d) = f_stamp_Long_bits_m () d := by kernel_rfl
def g_stamp_Long_bits (d : Unit × ((Int × (Int × Unit)) × Unit)) : Option (Unit × ((Int × Unit) × Unit)) := f_stamp_Long_bits_m () d
theorem ok_stamp_Long_bits : FnOk Try.prog ET0 111 pi_stamp_Long_bits po_stamp_Long_bits g_stamp_Long_bits :=
  fn_of_body (E := E_stamp_Long_bits) e0_ok (fn := Try.f111) Try.func111 (by kernel_rfl) (by kernel_rfl) [.tmp 2] (by kernel_rfl) (by kernel_rfl) (by decide) rfl c_stamp_Long_bits L_stamp_Long_bits
    (by intro x hx; cases hx) (by intro k x hx; cases hx) (fun d out h => ⟨0, (q_stamp_Long_bits_m 0 d).trans h⟩)

/- horologe/stamp.Sub -/
@[reducible] def pi_stamp_Sub : PSh := ⟨[], [.mk true [.v (.int .u32), .v (.int .u32)], .mk true [.v (.int .u32), .v (.int .u32)]]⟩
@[reducible] def po_stamp_Sub : PSh := ⟨[], [.mk false [.v (.int .i64)]]⟩
def f_stamp_Sub_m (T : Unit) (d : Unit × ((Int × (Int × Unit)) × ((Int × (Int × Unit)) × Unit))) : Option (Unit × ((Int × Unit) × Unit)) :=
  (g_stamp_Long_bits ((), ((d.2.1.1, (d.2.1.2.1, ())), ()))).bind fun x1 =>
  (g_stamp_Long_bits ((), ((d.2.2.1.1, (d.2.2.1.2.1, ())), ()))).bind fun x2 =>
  let x3 : Int := (isub .u64 x1.2.1.1 x2.2.1.1)
  let x4 : Int := (iconv .i64 x3)
  some ((), ((x4, ()), ()))
def c_stamp_Sub : List Nat := []
def L_stamp_Sub (_ : Nat) : Pts po_stamp_Sub.den := []
def E_stamp_Sub : Env := (E0.add 111 (typedSem pi_stamp_Long_bits po_stamp_Long_bits g_stamp_Long_bits))
theorem q_stamp_Sub_m (k : Nat) (d : Unit × ((Int × (Int × Unit)) × ((Int × (Int × Unit)) × Unit))) : evCode E_stamp_Sub (tab (L_stamp_Sub k)) c_stamp_Sub (bodyOf Try.f58) 0 (finK E_stamp_Sub po_stamp_Sub [.tmp 4]) (startSt pi_stamp_Sub 11 d) = f_stamp_Sub_m () d := by kernel_rfl
def g_stamp_Sub (d : Unit × ((Int × (Int × Unit)) × ((Int × (Int × Unit)) × Unit))) : Option (Unit × ((Int × Unit) × Unit)) := f_stamp_Sub_m () d
theorem ok_stamp_Sub : FnOk Try.prog ET0 58 pi_stamp_Sub po_stamp_Sub g_stamp_Sub :=
  fn_of_body (E := E_stamp_Sub) (envOk_add e0_ok (typed_ok ok_stamp_Long_bits)) (fn := Try.f58) Try.func58 (by kernel_rfl) (by kernel_rfl) [.tmp 4] (by kernel_rfl) (by kernel_rfl) (by decide) rfl c_stamp_Sub L_stamp_Sub
    (by intro x hx; cases hx) (by intro k x hx; cases hx) (fun d out h => ⟨0, (q_stamp_Sub_m 0 d).trans h⟩)

/- horologe/head.Round -/
@[reducible] def pi_head_Round : PSh := ⟨[], [.mk true [.v (.int .i64), .v (.int .i64), .v (.int .i64), .v (.int .u8), .v (.int .i8), .v (.int .i8), .v (.int .u16), .v (.int .u16), .v (.int .u16), .v (.int .u16), .v (.int .u8), .v (.int .u8), .v (.int .u8), .v (.int .u8), .v (.int .u32), .v (.int .u32), .v (.int .u32), .v (.int .u32), .v (.int .u32), .v (.int .u32), .v (.int .u32), .v (.int .u32)], .mk true [.v (.int .u32), .v (.int .u32)]]⟩
@[reducible] def po_head_Round : PSh := ⟨[], [.mk false [.v (.int .i64)], .mk false [.v (.int .i64)]]⟩
def f_head_Round_m (T : Unit) (d : Unit × ((Int × (Int × (Int × (Int × (Int × (Int × (Int × (Int × (Int × (Int × (Int × (Int × (Int × (Int × (Int × (Int × (Int × (Int × (Int × (Int × (Int × (Int × Unit)))))))))))))))))))))) × ((Int × (Int × Unit)) × Unit))) : Option (Unit × ((Int × Unit) × ((Int × Unit) × Unit))) :=
  (g_stamp_Sub ((), ((d.2.1.2.2.2.2.2.2.2.2.2.2.2.2.2.2.2.2.2.2.1, (d.2.1.2.2.2.2.2.2.2.2.2.2.2.2.2.2.2.2.2.2.2.1, ())), ((d.2.1.2.2.2.2.2.2.2.2.2.2.2.2.2.2.2.2.1, (d.2.1.2.2.2.2.2.2.2.2.2.2.2.2.2.2.2.2.2.1, ())), ())))).bind fun x1 =>
  (g_stamp_Sub ((), ((d.2.1.2.2.2.2.2.2.2.2.2.2.2.2.2.2.2.2.2.2.2.2.1, (d.2.1.2.2.2.2.2.2.2.2.2.2.2.2.2.2.2.2.2.2.2.2.2.1, ())), ((d.2.2.1.1, (d.2.2.1.2.1, ())), ())))).bind fun x2 =>
  (g_stamp_Sub ((), ((d.2.2.1.1, (d.2.2.1.2.1, ())), ((d.2.1.2.2.2.2.2.2.2.2.2.2.2.2.2.2.2.2.1, (d.2.1.2.2.2.2.2.2.2.2.2.2.2.2.2.2.2.2.2.1, ())), ())))).bind fun x3 =>
  (g_stamp_Sub ((), ((d.2.1.2.2.2.2.2.2.2.2.2.2.2.2.2.2.2.2.2.2.2.2.1, (d.2.1.2.2.2.2.2.2.2.2.2.2.2.2.2.2.2.2.2.2.2.2.2.1, ())), ((d.2.1.2.2.2.2.2.2.2.2.2.2.2.2.2.2.2.2.2.2.1, (d.2.1.2.2.2.2.2.2.2.2.2.2.2.2.2.2.2.2.2.2.2.1, ())), ())))).bind fun x4 =>
  let x5 : Int := (isub .i64 x3.2.1.1 x4.2.1.1)
  let x6 : Int := (ishr .i64 x1.2.1.1 (1 : Int))
  let x7 : Int := (ishr .i64 x2.2.1.1 (1 : Int))
  let x8 : Int := (iadd .i64 x6 x7)
  let x9 : Int := (iand .i64 x1.2.1.1 x2.2.1.1)
  let x10 : Int := (iand .i64 x9 (1 : Int))
  let x11 : Int := (iadd .i64 x8 x10)
  some ((), ((x11, ()), ((x5, ()), ())))
def c_head_Round : List Nat := []
def L_head_Round (_ : Nat) : Pts po_head_Round.den := []
def E_head_Round : Env := (E0.add 58 (typedSem pi_stamp_Sub po_stamp_Sub g_stamp_Sub))
theorem q_head_Round_m (k : Nat) (d : Unit × ((Int × (Int × (Int × (Int × (Int × (Int × (Int × (Int × (Int × (Int × (Int × (Int × (Int × (Int × (Int × (Int × (Int × (Int × (Int × (Int × (Int × (Int × Unit)))))))))))))))))))))) × ((Int × (Int × Unit)) × Unit))) : evCode E_head_Round (tab (L_head_Round k)) c_head_Round (bodyOf Try.f49) 0 (finK E_head_Round po_head_Round [.tmp 4, .tmp 5]) (startSt pi_head_Round 38 d) = f_head_Round_m () d := by kernel_rfl
def g_head_Round (d : Unit × ((Int × (Int × (Int × (Int × (Int × (Int × (Int × (Int × (Int × (Int × (Int × (Int × (Int × (Int × (Int × (Int × (Int × (Int × (Int × (Int × (Int × (Int × Unit)))))))))))))))))))))) × ((Int × (Int × Unit)) × Unit))) : Option (Unit × ((Int × Unit) × ((Int × Unit) × Unit))) := f_head_Round_m () d
theorem ok_head_Round : FnOk Try.prog ET0 49 pi_head_Round po_head_Round g_head_Round :=
  fn_of_body (E := E_head_Round) (envOk_add e0_ok (typed_ok ok_stamp_Sub)) (fn := Try.f49) Try.func49 (by kernel_rfl) (by kernel_rfl) [.tmp 4, .tmp 5] (by kernel_rfl) (by kernel_rfl) (by decide) rfl c_head_Round L_head_Round
    (by intro x hx; cases hx) (by intro k x hx; cases hx) (fun d out h => ⟨0, (q_head_Round_m 0 d).trans h⟩)

/- horologe/horologeref28.half -/
@[reducible] def pi_ref28_half : PSh := ⟨[], [.mk false [.v (.int .i64)]]⟩
@[reducible] def po_ref28_half : PSh := ⟨[], [.mk false [.v (.int .i64)], .mk false [.v (.int .i64)]]⟩
def f_ref28_half_m (T : Unit) (d : Unit × ((Int × Unit) × Unit)) : Option (Unit × ((Int × Unit) × ((Int × Unit) × Unit))) :=
  let x1 : Int := (Int.tmod d.2.1.1 (2 : Int))
  let x2 : Bool := (decide (x1 < (0 : Int)))
  bif x2 then (
  let x3 : Int := (isub .i64 d.2.1.1 (1 : Int))
  let x4 : Int := (iquo .i64 x3 (2 : Int))
  some ((), ((x4, ()), (((1 : Int), ()), ()))))
  else (
  let x5 : Int := (isub .i64 d.2.1.1 x1)
  let x6 : Int := (iquo .i64 x5 (2 : Int))
  some ((), ((x6, ()), ((x1, ()), ()))))
def c_ref28_half : List Nat := []
def L_ref28_half (_ : Nat) : Pts po_ref28_half.den := []
def E_ref28_half : Env := E0
theorem q_ref28_half_m (k : Nat) (d : Unit × ((Int × Unit) × Unit)) : evCode E_ref28_half (tab (L_ref28_half k)) c_ref28_half (bodyOf Try.f97) 0 (finK E_ref28_half po_ref28_half [.tmp 2, .tmp 3]) (startSt pi_ref28_half 14 d) = f_ref28_half_m () d := by kernel_rfl
def g_ref28_half (d : Unit × ((Int × Unit) × Unit)) : Option (Unit × ((Int × Unit) × ((Int × Unit) × Unit))) := f_ref28_half_m () d
theorem ok_ref28_half : FnOk Try.prog ET0 97 pi_ref28_half po_ref28_half g_ref28_half :=
  fn_of_body (E := E_ref28_half) e0_ok (fn := Try.f97) Try.func97 (by kernel_rfl) (by kernel_rfl) [.tmp 2, .tmp 3] (by kernel_rfl) (by kernel_rfl) (by decide) rfl c_ref28_half L_ref28_half
    (by intro x hx; cases hx) (by intro k x hx; cases hx) (fun d out h => ⟨0, (q_ref28_half_m 0 d).trans h⟩)

/- horologe/horologeref28.Round -/
@[reducible] def pi_ref28_Round : PSh := ⟨[], [.mk true [.v (.int .i64), .v (.int .i64), .v (.int .i64), .v (.int .i64), .v (.int .i64), .v (.int .i64), .v (.int .u64), .v (.int .u64), .v (.int .u8), .v (.int .u8), .v (.int .u8), .v (.int .u8), .v (.int .u64), .v (.int .u64), .v (.int .u64), .v (.int .u64)], .mk false [.v (.int .u64)]]⟩
@[reducible] def po_ref28_Round : PSh := ⟨[], [.mk false [.v (.int .i64)], .mk false [.v (.int .i64)]]⟩
def f_ref28_Round_m (T : Unit) (d : Unit × ((Int × (Int × (Int × (Int × (Int × (Int × (Int × (Int × (Int × (Int × (Int × (Int × (Int × (Int × (Int × (Int × Unit)))))))))))))))) × ((Int × Unit) × Unit))) : Option (Unit × ((Int × Unit) × ((Int × Unit) × Unit))) :=
  let x1 : Int := (isub .u64 d.2.1.2.2.2.2.2.2.2.2.2.2.2.2.2.2.1 d.2.1.2.2.2.2.2.2.2.2.2.2.2.2.2.1)
  let x2 : Int := (iconv .i64 x1)
  (g_ref28_half ((), ((x2, ()), ()))).bind fun x3 =>
  let x4 : Int := (isub .u64 d.2.1.2.2.2.2.2.2.2.2.2.2.2.2.2.2.2.1 d.2.2.1.1)
  let x5 : Int := (iconv .i64 x4)
  (g_ref28_half ((), ((x5, ()), ()))).bind fun x6 =>
  let x7 : Int := (iadd .i64 x3.2.1.1 x6.2.1.1)
  let x8 : Int := (imul .i64 x3.2.2.1.1 x6.2.2.1.1)
  let x9 : Int := (iadd .i64 x7 x8)
  let x10 : Int := (isub .u64 d.2.2.1.1 d.2.1.2.2.2.2.2.2.2.2.2.2.2.2.2.1)
  let x11 : Int := (iconv .i64 x10)
  let x12 : Int := (isub .u64 d.2.1.2.2.2.2.2.2.2.2.2.2.2.2.2.2.2.1 d.2.1.2.2.2.2.2.2.2.2.2.2.2.2.2.2.1)
  let x13 : Int := (iconv .i64 x12)
  let x14 : Int := (isub .i64 x11 x13)
  some ((), ((x9, ()), ((x14, ()), ())))
def c_ref28_Round : List Nat := []
def L_ref28_Round (_ : Nat) : Pts po_ref28_Round.den := []
def E_ref28_Round : Env := (E0.add 97 (typedSem pi_ref28_half po_ref28_half g_ref28_half))
theorem q_ref28_Round_m (k : Nat) (d : Unit × ((Int × (Int × (Int × (Int × (Int × (Int × (Int × (Int × (Int × (Int × (Int × (Int × (Int × (Int × (Int × (Int × Unit)))))))))))))))) × ((Int × Unit) × Unit))) : evCode E_ref28_Round (tab (L_ref28_Round k)) c_ref28_Round (bodyOf Try.f50) 0 (finK E_ref28_Round po_ref28_Round [.tmp 4, .tmp 5]) (startSt pi_ref28_Round 48 d) = f_ref28_Round_m () d := by kernel_rfl
def g_ref28_Round (d : Unit × ((Int × (Int × (Int × (Int × (Int × (Int × (Int × (Int × (Int × (Int × (Int × (Int × (Int × (Int × (Int × (Int × Unit)))))))))))))))) × ((Int × Unit) × Unit))) : Option (Unit × ((Int × Unit) × ((Int × Unit) × Unit))) := f_ref28_Round_m () d
theorem ok_ref28_Round : FnOk Try.prog ET0 50 pi_ref28_Round po_ref28_Round g_ref28_Round :=
  fn_of_body (E := E_ref28_Round) (envOk_add e0_ok (typed_ok ok_ref28_half)) (fn := Try.f50) Try.func50 (by kernel_rfl) (by kernel_rfl) [.tmp 4, .tmp 5] (by kernel_rfl) (by kernel_rfl) (by decide) rfl c_ref28_Round L_ref28_Round
    (by intro x hx; cases hx) (by intro k x hx; cases hx) (fun d out h => ⟨0, (q_ref28_Round_m 0 d).trans h⟩)

/- horologe/horologelaw28.HeadRounds -/
@[reducible] def pi_law28_HeadRounds : PSh := ⟨[], [.mk true [.v (.int .i64), .v (.int .i64), .v (.int .i64), .v (.int .u8), .v (.int .i8), .v (.int .i8), .v (.int .u16), .v (.int .u16), .v (.int .u16), .v (.int .u16), .v (.int .u8), .v (.int .u8), .v (.int .u8), .v (.int .u8), .v (.int .u32), .v (.int .u32), .v (.int .u32), .v (.int .u32), .v (.int .u32), .v (.int .u32), .v (.int .u32), .v (.int .u32)], .mk false [.v (.int .u64)]]⟩
@[reducible] def po_law28_HeadRounds : PSh := ⟨[], [.mk false [.v .bool]]⟩
def f_law28_HeadRounds_m (T : Unit) (d : Unit × ((Int × (Int × (Int × (Int × (Int × (Int × (Int × (Int × (Int × (Int × (Int × (Int × (Int × (Int × (Int × (Int × (Int × (Int × (Int × (Int × (Int × (Int × Unit)))))))))))))))))))))) × ((Int × Unit) × Unit))) : Option (Unit × ((Bool × Unit) × Unit)) :=
  (g_law28_alive ((), ())).bind fun x1 =>
  let x2 : Bool := (!x1.2.1.1)
  bif x2 then (
  some ((), ((false, ()), ())))
  else (
  let x3 : Int := (ishr .u64 d.2.2.1.1 (32 : Int))
  let x4 : Int := (iconv .u32 x3)
  let x5 : Int := (iconv .u32 d.2.2.1.1)
  (g_head_Round ((), ((d.2.1.1, (d.2.1.2.1, (d.2.1.2.2.1, (d.2.1.2.2.2.1, (d.2.1.2.2.2.2.1, (d.2.1.2.2.2.2.2.1, (d.2.1.2.2.2.2.2.2.1, (d.2.1.2.2.2.2.2.2.2.1, (d.2.1.2.2.2.2.2.2.2.2.1, (d.2.1.2.2.2.2.2.2.2.2.2.1, (d.2.1.2.2.2.2.2.2.2.2.2.2.1, (d.2.1.2.2.2.2.2.2.2.2.2.2.2.1, (d.2.1.2.2.2.2.2.2.2.2.2.2.2.2.1, (d.2.1.2.2.2.2.2.2.2.2.2.2.2.2.2.1, (d.2.1.2.2.2.2.2.2.2.2.2.2.2.2.2.2.1, (d.2.1.2.2.2.2.2.2.2.2.2.2.2.2.2.2.2.1, (d.2.1.2.2.2.2.2.2.2.2.2.2.2.2.2.2.2.2.1, (d.2.1.2.2.2.2.2.2.2.2.2.2.2.2.2.2.2.2.2.1, (d.2.1.2.2.2.2.2.2.2.2.2.2.2.2.2.2.2.2.2.2.1, (d.2.1.2.2.2.2.2.2.2.2.2.2.2.2.2.2.2.2.2.2.2.1, (d.2.1.2.2.2.2.2.2.2.2.2.2.2.2.2.2.2.2.2.2.2.2.1, (d.2.1.2.2.2.2.2.2.2.2.2.2.2.2.2.2.2.2.2.2.2.2.2.1, ())))))))))))))))))))))), ((x4, (x5, ())), ())))).bind fun x6 =>
  (g_law28_Document ((), ((d.2.1.1, (d.2.1.2.1, (d.2.1.2.2.1, (d.2.1.2.2.2.1, (d.2.1.2.2.2.2.1, (d.2.1.2.2.2.2.2.1, (d.2.1.2.2.2.2.2.2.1, (d.2.1.2.2.2.2.2.2.2.1, (d.2.1.2.2.2.2.2.2.2.2.1, (d.2.1.2.2.2.2.2.2.2.2.2.1, (d.2.1.2.2.2.2.2.2.2.2.2.2.1, (d.2.1.2.2.2.2.2.2.2.2.2.2.2.1, (d.2.1.2.2.2.2.2.2.2.2.2.2.2.2.1, (d.2.1.2.2.2.2.2.2.2.2.2.2.2.2.2.1, (d.2.1.2.2.2.2.2.2.2.2.2.2.2.2.2.2.1, (d.2.1.2.2.2.2.2.2.2.2.2.2.2.2.2.2.2.1, (d.2.1.2.2.2.2.2.2.2.2.2.2.2.2.2.2.2.2.1, (d.2.1.2.2.2.2.2.2.2.2.2.2.2.2.2.2.2.2.2.1, (d.2.1.2.2.2.2.2.2.2.2.2.2.2.2.2.2.2.2.2.2.1, (d.2.1.2.2.2.2.2.2.2.2.2.2.2.2.2.2.2.2.2.2.2.1, (d.2.1.2.2.2.2.2.2.2.2.2.2.2.2.2.2.2.2.2.2.2.2.1, (d.2.1.2.2.2.2.2.2.2.2.2.2.2.2.2.2.2.2.2.2.2.2.2.1, ())))))))))))))))))))))), ()))).bind fun x7 =>
  (g_ref28_Round ((), ((x7.2.1.1, (x7.2.1.2.1, (x7.2.1.2.2.1, (x7.2.1.2.2.2.1, (x7.2.1.2.2.2.2.1, (x7.2.1.2.2.2.2.2.1, (x7.2.1.2.2.2.2.2.2.1, (x7.2.1.2.2.2.2.2.2.2.1, (x7.2.1.2.2.2.2.2.2.2.2.1, (x7.2.1.2.2.2.2.2.2.2.2.2.1, (x7.2.1.2.2.2.2.2.2.2.2.2.2.1, (x7.2.1.2.2.2.2.2.2.2.2.2.2.2.1, (x7.2.1.2.2.2.2.2.2.2.2.2.2.2.2.1, (x7.2.1.2.2.2.2.2.2.2.2.2.2.2.2.2.1, (x7.2.1.2.2.2.2.2.2.2.2.2.2.2.2.2.2.1, (x7.2.1.2.2.2.2.2.2.2.2.2.2.2.2.2.2.2.1, ())))))))))))))))), ((d.2.2.1.1, ()), ())))).bind fun x8 =>
  let x9 : Bool := (x6.2.1.1 == x8.2.1.1)
  bif x9 then (
  let x10 : Bool := (x6.2.2.1.1 == x8.2.2.1.1)
  some ((), ((x10, ()), ())))
  else (
  some ((), ((false, ()), ()))))
def c_law28_HeadRounds : List Nat := []
def L_law28_HeadRounds (_ : Nat) : Pts po_law28_HeadRounds.den := []
def E_law28_HeadRounds : Env := ((((E0.add 37 (typedSem pi_law28_alive po_law28_alive g_law28_alive)).add 40 (typedSem pi_law28_Document po_law28_Document g_law28_Document)).add 49 (typedSem pi_head_Round po_head_Round g_head_Round)).add 50 (typedSem pi_ref28_Round po_ref28_Round g_ref28_Round))
theorem q_law28_HeadRounds_m (k : Nat) (d : Unit × ((Int × (Int × (Int × (Int × (Int × (Int × (Int × (Int × (Int × (Int × (Int × (Int × (Int × (Int × (Int × (Int × (Int × (Int × (Int × (Int × (Int × (Int × Unit)))))))))))))))))))))) × ((Int × Unit) × Unit))) : evCode E_law28_HeadRounds (tab (L_law28_HeadRounds k)) c_law28_HeadRounds (bodyOf Try.f8) 0 (finK E_law28_HeadRounds po_law28_HeadRounds [.tmp 4]) (startSt pi_law28_HeadRounds 37 d) = f_law28_HeadRounds_m () d := by kernel_rfl
def g_law28_HeadRounds (d : Unit × ((Int × (Int × (Int × (Int × (Int × (Int × (Int × (Int × (Int × (Int × (Int × (Int × (Int × (Int × (Int × (Int × (Int × (Int × (Int × (Int × (Int × (Int × Unit)))))))))))))))))))))) × ((Int × Unit) × Unit))) : Option (Unit × ((Bool × Unit) × Unit)) := f_law28_HeadRounds_m () d
theorem ok_law28_HeadRounds : FnOk Try.prog ET0 8 pi_law28_HeadRounds po_law28_HeadRounds g_law28_HeadRounds :=
  fn_of_body (E := E_law28_HeadRounds) (envOk_add (envOk_add (envOk_add (envOk_add e0_ok (typed_ok ok_law28_alive)) (typed_ok ok_law28_Document)) (typed_ok ok_head_Round)) (typed_ok ok_ref28_Round)) (fn := Try.f8) Try.func8 (by kernel_rfl) (by kernel_rfl) [.tmp 4] (by kernel_rfl) (by kernel_rfl) (by decide) rfl c_law28_HeadRounds L_law28_HeadRounds
    (by intro x hx; cases hx) (by intro k x hx; cases hx) (fun d out h => ⟨0, (q_law28_HeadRounds_m 0 d).trans h⟩)

/- horologe/stamp.Span -/
@[reducible] def pi_stamp_Span : PSh := ⟨[], [.mk true [.v (.int .u16), .v (.int .u16)]]⟩
@[reducible] def po_stamp_Span : PSh := ⟨[], [.mk false [.v (.int .i64)], .mk false [.v (.int .i64)]]⟩
def f_stamp_Span_m (T : Unit) (d : Unit × ((Int × (Int × Unit)) × Unit)) : Option (Unit × ((Int × Unit) × ((Int × Unit) × Unit))) :=
  let x1 : Int := (iconv .i64 d.2.1.1)
  let x2 : Int := (iconv .u64 d.2.1.2.1)
  let x3 : Int := (imul .u64 x2 (1000000000 : Int))
  let x4 : Int := (ishr .u64 x3 (16 : Int))
  let x5 : Int := (iconv .i64 x4)
  some ((), ((x1, ()), ((x5, ()), ())))
def c_stamp_Span : List Nat := []
def L_stamp_Span (_ : Nat) : Pts po_stamp_Span.den := []
def E_stamp_Span : Env := E0
theorem q_stamp_Span_m (k : Nat) (d : Unit × ((Int × (Int × Unit)) × Unit)) : evCode E_stamp_Span (tab (L_stamp_Span k)) c_stamp_Span (bodyOf Try.f18) 0 (finK E_stamp_Span po_stamp_Span [.tmp 2, .tmp 3]) (startSt pi_stamp_Span 13 d) = f_stamp_Span_m () d := by kernel_rfl
def g_stamp_Span (d : Unit × ((Int × (Int × Unit)) × Unit)) : Option (Unit × ((Int × Unit) × ((Int × Unit) × Unit))) := f_stamp_Span_m () d
theorem ok_stamp_Span : FnOk Try.prog ET0 18 pi_stamp_Span po_stamp_Span g_stamp_Span :=
  fn_of_body (E := E_stamp_Span) e0_ok (fn := Try.f18) Try.func18 (by kernel_rfl) (by kernel_rfl) [.tmp 2, .tmp 3] (by kernel_rfl) (by kernel_rfl) (by decide) rfl c_stamp_Span L_stamp_Span
    (by intro x hx; cases hx) (by intro k x hx; cases hx) (fun d out h => ⟨0, (q_stamp_Span_m 0 d).trans h⟩)

/- horologe/stamp.ShortOf -/
@[reducible] def pi_stamp_ShortOf : PSh := ⟨[], [.mk false [.v (.int .i64)], .mk false [.v (.int .i64)]]⟩
@[reducible] def po_stamp_ShortOf : PSh := ⟨[], [.mk true [.v (.int .u16), .v (.int .u16)], .mk false [.v .err]]⟩
def f_stamp_ShortOf_m (T : Unit) (d : Unit × ((Int × Unit) × ((Int × Unit) × Unit))) : Option (Unit × ((Int × (Int × Unit)) × (((Option Int) × Unit) × Unit))) :=
  let x1 : Bool := (decide (d.2.1.1 < (0 : Int)))
  bif x1 then (
  let x2 : (Option Int) := (some (1 : Int))
  some ((), (((0 : Int), ((0 : Int), ())), ((x2, ()), ()))))
  else (
  let x3 : Bool := (decide (d.2.1.1 > (65535 : Int)))
  bif x3 then (
  let x4 : (Option Int) := (some (1 : Int))
  some ((), (((0 : Int), ((0 : Int), ())), ((x4, ()), ()))))
  else (
  (g_stamp_right ((), ((d.2.2.1.1, ()), ()))).bind fun x5 =>
  let x6 : Bool := (!x5.2.1.1)
  bif x6 then (
  let x7 : (Option Int) := (some (1 : Int))
  some ((), (((0 : Int), ((0 : Int), ())), ((x7, ()), ()))))
  else (
  let x8 : Int := (iconv .u16 d.2.1.1)
  let x9 : Int := (iconv .u64 d.2.2.1.1)
  let x10 : Int := (ishl .u64 x9 (16 : Int))
  let x11 : Int := (iquo .u64 x10 (1000000000 : Int))
  let x12 : Int := (iconv .u16 x11)
  some ((), ((x8, (x12, ())), (((none : Option Int), ()), ()))))))
def c_stamp_ShortOf : List Nat := []
def L_stamp_ShortOf (_ : Nat) : Pts po_stamp_ShortOf.den := []
def E_stamp_ShortOf : Env := (E0.add 73 (typedSem pi_stamp_right po_stamp_right g_stamp_right))
theorem q_stamp_ShortOf_m (k : Nat) (d : Unit × ((Int × Unit) × ((Int × Unit) × Unit))) : evCode E_stamp_ShortOf (tab (L_stamp_ShortOf k)) c_stamp_ShortOf (bodyOf Try.f20) 0 (finK E_stamp_ShortOf po_stamp_ShortOf [.cell 4 32, .tmp 5]) (startSt pi_stamp_ShortOf 27 d) = f_stamp_ShortOf_m () d := by kernel_rfl
def g_stamp_ShortOf (d : Unit × ((Int × Unit) × ((Int × Unit) × Unit))) : Option (Unit × ((Int × (Int × Unit)) × (((Option Int) × Unit) × Unit))) := f_stamp_ShortOf_m () d
theorem ok_stamp_ShortOf : FnOk Try.prog ET0 20 pi_stamp_ShortOf po_stamp_ShortOf g_stamp_ShortOf :=
  fn_of_body (E := E_stamp_ShortOf) (envOk_add e0_ok (typed_ok ok_stamp_right)) (fn := Try.f20) Try.func20 (by kernel_rfl) (by kernel_rfl) [.cell 4 32, .tmp 5] (by kernel_rfl) (by kernel_rfl) (by decide) rfl c_stamp_ShortOf L_stamp_ShortOf
    (by intro x hx; cases hx) (by intro k x hx; cases hx) (fun d out h => ⟨0, (q_stamp_ShortOf_m 0 d).trans h⟩)

/- horologe/horologeref15.Within -/
@[reducible] def pi_ref15_Within : PSh := ⟨[], [.mk false [.v (.int .u64)], .mk false [.v (.int .u64)], .mk false [.v (.int .u64)]]⟩
@[reducible] def po_ref15_Within : PSh := ⟨[], [.mk false [.v .bool]]⟩
def f_ref15_Within_m (T : Unit) (d : Unit × ((Int × Unit) × ((Int × Unit) × ((Int × Unit) × Unit)))) : Option (Unit × ((Bool × Unit) × Unit)) :=
  let x1 : Int := (imul .u64 d.2.1.1 (1000000000 : Int))
  let x2 : Int := (imul .u64 d.2.2.2.1.1 d.2.2.1.1)
  let x3 : Bool := (decide (x1 ≤ x2))
  bif x3 then (
  let x4 : Int := (iadd .u64 d.2.1.1 (1 : Int))
  let x5 : Int := (imul .u64 x4 (1000000000 : Int))
  let x6 : Int := (imul .u64 d.2.2.2.1.1 d.2.2.1.1)
  let x7 : Bool := (decide (x5 > x6))
  some ((), ((x7, ()), ())))
  else (
  some ((), ((false, ()), ())))
def c_ref15_Within : List Nat := []
def L_ref15_Within (_ : Nat) : Pts po_ref15_Within.den := []
def E_ref15_Within : Env := E0
theorem q_ref15_Within_m (k : Nat) (d : Unit × ((Int × Unit) × ((Int × Unit) × ((Int × Unit) × Unit)))) : evCode E_ref15_Within (tab (L_ref15_Within k)) c_ref15_Within (bodyOf Try.f23) 0 (finK E_ref15_Within po_ref15_Within [.tmp 6]) (startSt pi_ref15_Within 22 d) = f_ref15_Within_m () d := by kernel_rfl
def g_ref15_Within (d : Unit × ((Int × Unit) × ((Int × Unit) × ((Int × Unit) × Unit)))) : Option (Unit × ((Bool × Unit) × Unit)) := f_ref15_Within_m () d
theorem ok_ref15_Within : FnOk Try.prog ET0 23 pi_ref15_Within po_ref15_Within g_ref15_Within :=
  fn_of_body (E := E_ref15_Within) e0_ok (fn := Try.f23) Try.func23 (by kernel_rfl) (by kernel_rfl) [.tmp 6] (by kernel_rfl) (by kernel_rfl) (by decide) rfl c_ref15_Within L_ref15_Within
    (by intro x hx; cases hx) (by intro k x hx; cases hx) (fun d out h => ⟨0, (q_ref15_Within_m 0 d).trans h⟩)

/- horologe/horologelaw15.StampFractions -/
@[reducible] def pi_law15_StampFractions : PSh := ⟨[], [.mk false [.v (.int .i64)], .mk false [.v (.int .i64)], .mk false [.v (.int .u32)]]⟩
@[reducible] def po_law15_StampFractions : PSh := ⟨[], [.mk false [.v .bool]]⟩
def f_law15_StampFractions_m (T : Unit) (d : Unit × ((Int × Unit) × ((Int × Unit) × ((Int × Unit) × Unit)))) : Option (Unit × ((Bool × Unit) × Unit)) :=
  (g_law15_alive ((), ())).bind fun x1 =>
  let x2 : Bool := (!x1.2.1.1)
  bif x2 then (
  some ((), ((false, ()), ())))
  else (
  (g_stamp_Nano ((), ((d.2.2.2.1.1, ()), ()))).bind fun x3 =>
  let x4 : Bool := (decide (x3.2.1.1 < (0 : Int)))
  bif x4 then (
  some ((), ((false, ()), ())))
  else (
  let x5 : Int := (iconv .u64 x3.2.1.1)
  let x6 : Int := (iconv .u64 d.2.2.2.1.1)
  (g_ref15_Whole ((), ((x5, ()), ((x6, ()), (((4294967296 : Int), ()), ()))))).bind fun x7 =>
  let x8 : Bool := (!x7.2.1.1)
  bif x8 then (
  some ((), ((false, ()), ())))
  else (
  let x9 : Int := (ishr .u32 d.2.2.2.1.1 (16 : Int))
  let x10 : Int := (iconv .u16 x9)
  let x11 : Int := (iconv .u16 d.2.2.2.1.1)
  (g_stamp_Span ((), ((x10, (x11, ())), ()))).bind fun x12 =>
  let x13 : Int := (ishr .u32 d.2.2.2.1.1 (16 : Int))
  let x14 : Int := (iconv .i64 x13)
  let x15 : Bool := (x12.2.1.1 != x14)
  bif x15 then (
  some ((), ((false, ()), ())))
  else (
  let x16 : Bool := (decide (x12.2.2.1.1 < (0 : Int)))
  bif x16 then (
  some ((), ((false, ()), ())))
  else (
  let x17 : Int := (iconv .u64 x12.2.2.1.1)
  let x18 : Int := (Int.tmod d.2.2.2.1.1 (65536 : Int))
  let x19 : Int := (iconv .u64 x18)
  (g_ref15_Whole ((), ((x17, ()), ((x19, ()), (((65536 : Int), ()), ()))))).bind fun x20 =>
  let x21 : Bool := (!x20.2.1.1)
  bif x21 then (
  some ((), ((false, ()), ())))
  else (
  (g_stamp_Fraction ((), ((d.2.1.1, ()), ()))).bind fun x22 =>
  (g_stamp_ShortOf ((), ((d.2.2.1.1, ()), ((d.2.1.1, ()), ())))).bind fun x23 =>
  let x24 : Bool := (decide (d.2.1.1 < (0 : Int)))
  bif x24 then (
  let x25 : Bool := (x22.2.1.1 == (0 : Int))
  bif x25 then (
  let x26 : Bool := ((x23.2.1.1 == (0 : Int)) && ((x23.2.1.2.1 == (0 : Int)) && true))
  bif x26 then (
  (g_hnum_Is ((), ((x22.2.2.1.1, ()), (((1 : Int), ()), ())))).bind fun x27 =>
  bif x27.2.1.1 then (
  (g_hnum_Is ((), ((x23.2.2.1.1, ()), (((1 : Int), ()), ())))).bind fun x28 =>
  some ((), ((x28.2.1.1, ()), ())))
  else (
  some ((), ((false, ()), ()))))
  else (
  some ((), ((false, ()), ()))))
  else (
  some ((), ((false, ()), ()))))
  else (
  let x29 : Bool := (decide (d.2.1.1 > (999999999 : Int)))
  bif x29 then (
  let x30 : Bool := (x22.2.1.1 == (0 : Int))
  bif x30 then (
  let x31 : Bool := ((x23.2.1.1 == (0 : Int)) && ((x23.2.1.2.1 == (0 : Int)) && true))
  bif x31 then (
  (g_hnum_Is ((), ((x22.2.2.1.1, ()), (((1 : Int), ()), ())))).bind fun x32 =>
  bif x32.2.1.1 then (
  (g_hnum_Is ((), ((x23.2.2.1.1, ()), (((1 : Int), ()), ())))).bind fun x33 =>
  some ((), ((x33.2.1.1, ()), ())))
  else (
  some ((), ((false, ()), ()))))
  else (
  some ((), ((false, ()), ()))))
  else (
  some ((), ((false, ()), ()))))
  else (
  let x34 : Bool := (!x22.2.2.1.1.isNone)
  bif x34 then (
  some ((), ((false, ()), ())))
  else (
  let x35 : Int := (iconv .u64 x22.2.1.1)
  let x36 : Int := (iconv .u64 d.2.1.1)
  (g_ref15_Least ((), ((x35, ()), (((4294967296 : Int), ()), ((x36, ()), ()))))).bind fun x37 =>
  let x38 : Bool := (!x37.2.1.1)
  bif x38 then (
  some ((), ((false, ()), ())))
  else (
  let x39 : Bool := (decide (d.2.2.1.1 < (0 : Int)))
  bif x39 then (
  let x40 : Bool := ((x23.2.1.1 == (0 : Int)) && ((x23.2.1.2.1 == (0 : Int)) && true))
  bif x40 then (
  (g_hnum_Is ((), ((x23.2.2.1.1, ()), (((1 : Int), ()), ())))).bind fun x41 =>
  some ((), ((x41.2.1.1, ()), ())))
  else (
  some ((), ((false, ()), ()))))
  else (
  let x42 : Bool := (decide (d.2.2.1.1 > (65535 : Int)))
  bif x42 then (
  let x43 : Bool := ((x23.2.1.1 == (0 : Int)) && ((x23.2.1.2.1 == (0 : Int)) && true))
  bif x43 then (
  (g_hnum_Is ((), ((x23.2.2.1.1, ()), (((1 : Int), ()), ())))).bind fun x44 =>
  some ((), ((x44.2.1.1, ()), ())))
  else (
  some ((), ((false, ()), ()))))
  else (
  bif x23.2.2.1.1.isNone then (
  let x45 : Int := (iconv .i64 x23.2.1.1)
  let x46 : Bool := (x45 == d.2.2.1.1)
  bif x46 then (
  let x47 : Int := (iconv .u64 x23.2.1.2.1)
  let x48 : Int := (iconv .u64 d.2.1.1)
  (g_ref15_Within ((), ((x47, ()), (((65536 : Int), ()), ((x48, ()), ()))))).bind fun x49 =>
  some ((), ((x49.2.1.1, ()), ())))
  else (
  some ((), ((false, ()), ()))))
  else (
  some ((), ((false, ()), ())))))))))))))))
def c_law15_StampFractions : List Nat := []
def L_law15_StampFractions (_ : Nat) : Pts po_law15_StampFractions.den := []
def E_law15_StampFractions : Env := (((((((((E0.add 15 (typedSem pi_law15_alive po_law15_alive g_law15_alive)).add 16 (typedSem pi_stamp_Nano po_stamp_Nano g_stamp_Nano)).add 17 (typedSem pi_ref15_Whole po_ref15_Whole g_ref15_Whole)).add 18 (typedSem pi_stamp_Span po_stamp_Span g_stamp_Span)).add 19 (typedSem pi_stamp_Fraction po_stamp_Fraction g_stamp_Fraction)).add 20 (typedSem pi_stamp_ShortOf po_stamp_ShortOf g_stamp_ShortOf)).add 21 (typedSem pi_hnum_Is po_hnum_Is g_hnum_Is)).add 22 (typedSem pi_ref15_Least po_ref15_Least g_ref15_Least)).add 23 (typedSem pi_ref15_Within po_ref15_Within g_ref15_Within))
theorem q_law15_StampFractions_m (k : Nat) (d : Unit × ((Int × Unit) × ((Int × Unit) × ((Int × Unit) × Unit)))) : evCode E_law15_StampFractions (tab (L_law15_StampFractions k)) c_law15_StampFractions (bodyOf Try.f3) 0 (finK E_law15_StampFractions po_law15_StampFractions [.tmp 6]) (startSt pi_law15_StampFractions 128 d) = f_law15_StampFractions_m () d := by kernel_rfl
def g_law15_StampFractions (d : Unit × ((Int × Unit) × ((Int × Unit) × ((Int × Unit) × Unit)))) : Option (Unit × ((Bool × Unit) × Unit)) := f_law15_StampFractions_m () d
theorem ok_law15_StampFractions : FnOk Try.prog ET0 3 pi_law15_StampFractions po_law15_StampFractions g_law15_StampFractions :=
  fn_of_body (E := E_law15_StampFractions) (envOk_add (envOk_add (envOk_add (envOk_add (envOk_add (envOk_add (envOk_add (envOk_add (envOk_add e0_ok (typed_ok ok_law15_alive)) (typed_ok ok_stamp_Nano)) (typed_ok ok_ref15_Whole)) (typed_ok ok_stamp_Span)) (typed_ok ok_stamp_Fraction)) (typed_ok ok_stamp_ShortOf)) (typed_ok ok_hnum_Is)) (typed_ok ok_ref15_Least)) (typed_ok ok_ref15_Within)) (fn := Try.f3) Try.func3 (by kernel_rfl) (by kernel_rfl) [.tmp 6] (by kernel_rfl) (by kernel_rfl) (by decide) rfl c_law15_StampFractions L_law15_StampFractions
    (by intro x hx; cases hx) (by intro k x hx; cases hx) (fun d out h => ⟨0, (q_law15_StampFractions_m 0 d).trans h⟩)

/- horologe/word.Put -/
@[reducible] def pi_word_Put : PSh := ⟨[], [.mk false [.v (.int .i64)]]⟩
@[reducible] def po_word_Put : PSh := ⟨[.row 5 (.int .u8)], [.mk false [.osl 0], .mk false [.v .err]]⟩
def f_word_Put_m (T : Unit) (d : Unit × ((Int × Unit) × Unit)) : Option (((List Int) × Unit) × (Unit × (((Option Int) × Unit) × Unit))) :=
  (g_stamp_FromPosix ((), ((d.2.1.1, ()), ()))).bind fun x1 =>
  let x2 : Bool := (!x1.2.2.1.1.isNone)
  bif x2 then (
  some ((([] : List Int), ()), ((), ((x1.2.2.1.1, ()), ()))))
  else (
  (g_era_Fold_u32 ((), ((x1.2.1.1, ()), ()))).bind fun x3 =>
  let x4 : (List Int) := ([x3.2.1.1] : List Int)
  (g_octets_Put_u32 ((), ((([] : List Int), ()), ((x4, ()), ())))).bind fun x5 =>
  some ((x5.1.1, ()), ((), (((none : Option Int), ()), ()))))
def c_word_Put : List Nat := []
def L_word_Put (_ : Nat) : Pts po_word_Put.den := []
def E_word_Put : Env := (((E0.add 33 (typedSem pi_stamp_FromPosix po_stamp_FromPosix g_stamp_FromPosix)).add 43 (typedSem pi_octets_Put_u32 po_octets_Put_u32 g_octets_Put_u32)).add 77 (typedSem pi_era_Fold_u32 po_era_Fold_u32 g_era_Fold_u32))
theorem q_word_Put_m (k : Nat) (d : Unit × ((Int × Unit) × Unit)) : evCode E_word_Put (tab (L_word_Put k)) c_word_Put (bodyOf Try.f71) 0 (finK E_word_Put po_word_Put [.tmp 2, .tmp 3]) (startSt pi_word_Put 18 d) = f_word_Put_m () d := by kernel_rfl
def g_word_Put (d : Unit × ((Int × Unit) × Unit)) : Option (((List Int) × Unit) × (Unit × (((Option Int) × Unit) × Unit))) := f_word_Put_m () d
theorem ok_word_Put : FnOk Try.prog ET0 71 pi_word_Put po_word_Put g_word_Put :=
  fn_of_body (E := E_word_Put) (envOk_add (envOk_add (envOk_add e0_ok (typed_ok ok_stamp_FromPosix)) (typed_ok ok_octets_Put_u32)) (typed_ok ok_era_Fold_u32)) (fn := Try.f71) Try.func71 (by kernel_rfl) (by kernel_rfl) [.tmp 2, .tmp 3] (by kernel_rfl) (by kernel_rfl) (by decide) rfl c_word_Put L_word_Put
    (by intro x hx; cases hx) (by intro k x hx; cases hx) (fun d out h => ⟨0, (q_word_Put_m 0 d).trans h⟩)

/- horologe/horologelaw27.alive -/
@[reducible] def pi_law27_alive : PSh := ⟨[], []⟩
@[reducible] def po_law27_alive : PSh := ⟨[], [.mk false [.v .bool]]⟩
def f_law27_alive_m (T : Unit) (d : Unit × Unit) : Option (Unit × ((Bool × Unit) × Unit)) :=
  (g_word_Put ((), (((0 : Int), ()), ()))).bind fun x1 =>
  bif x1.2.2.1.1.isNone then (
  let x2 : Int := (x1.1.1.length : Int)
  let x3 : Bool := (x2 == (4 : Int))
  bif x3 then (
  bif decide ((0 : Int) ≤ (0 : Int)) && decide ((0 : Int) < (x1.1.1.length : Int)) then (
  let x4 : Bool := ((gd (.int .u8) x1.1.1 (0 : Int)) == (131 : Int))
  bif x4 then (
  bif decide ((0 : Int) ≤ (1 : Int)) && decide ((1 : Int) < (x1.1.1.length : Int)) then (
  let x5 : Bool := ((gd (.int .u8) x1.1.1 (1 : Int)) == (170 : Int))
  bif x5 then (
  bif decide ((0 : Int) ≤ (2 : Int)) && decide ((2 : Int) < (x1.1.1.length : Int)) then (
  let x6 : Bool := ((gd (.int .u8) x1.1.1 (2 : Int)) == (126 : Int))
  bif x6 then (
  bif decide ((0 : Int) ≤ (3 : Int)) && decide ((3 : Int) < (x1.1.1.length : Int)) then (
  let x7 : Bool := ((gd (.int .u8) x1.1.1 (3 : Int)) == (128 : Int))
  some ((), ((x7, ()), ())))
  else none)
  else (
  some ((), ((false, ()), ()))))
  else none)
  else (
  some ((), ((false, ()), ()))))
  else none)
  else (
  some ((), ((false, ()), ()))))
  else none)
  else (
  some ((), ((false, ()), ()))))
  else (
  some ((), ((false, ()), ())))
def c_law27_alive : List Nat := []
def L_law27_alive (_ : Nat) : Pts po_law27_alive.den := []
def E_law27_alive : Env := (E0.add 71 (typedSem pi_word_Put po_word_Put g_word_Put))
theorem q_law27_alive_m (k : Nat) (d : Unit × Unit) : evCode E_law27_alive (tab (L_law27_alive k)) c_law27_alive (bodyOf Try.f70) 0 (finK E_law27_alive po_law27_alive [.tmp 0]) (startSt pi_law27_alive 38 d) = f_law27_alive_m () d := by kernel_rfl
def g_law27_alive (d : Unit × Unit) : Option (Unit × ((Bool × Unit) × Unit)) := f_law27_alive_m () d
theorem ok_law27_alive : FnOk Try.prog ET0 70 pi_law27_alive po_law27_alive g_law27_alive :=
  fn_of_body (E := E_law27_alive) (envOk_add e0_ok (typed_ok ok_word_Put)) (fn := Try.f70) Try.func70 (by kernel_rfl) (by kernel_rfl) [.tmp 0] (by kernel_rfl) (by kernel_rfl) (by decide) rfl c_law27_alive L_law27_alive
    (by intro x hx; cases hx) (by intro k x hx; cases hx) (fun d out h => ⟨0, (q_law27_alive_m 0 d).trans h⟩)

/- horologe/octets.word[uint32] -/
@[reducible] def pi_octets_word_u32 : PSh := ⟨[], [.mk false [.v (.sl (.int .u8))]]⟩
@[reducible] def po_octets_word_u32 : PSh := ⟨[], [.mk false [.v (.int .u32)]]⟩
@[reducible] def TT_octets_word_u32 : Type := (((Unit × ((Int × Unit) × (((List Int) × Unit) × ((Int × Unit) × ((Int × Unit) × Unit))))) → Option (Unit × ((Int × Unit) × Unit))) × Unit)
@[reducible] def sh_octets_word_u32_4 : PSh := ⟨[], [.any, .any, .any, .mk false [.v (.int .u64)], .any, .any, .mk false [.v (.sl (.int .u8))], .mk false [.v (.int .i64)], .mk false [.v (.int .i64)], .any, .any, .any, .any, .any, .any, .any, .any, .any, .any, .any]⟩
def f_octets_word_u32_p4 (T : TT_octets_word_u32) (d : Unit × ((Int × Unit) × (((List Int) × Unit) × ((Int × Unit) × ((Int × Unit) × Unit))))) : Option (Unit × ((Int × Unit) × Unit)) :=
  let x2 : Bool := (decide (d.2.2.2.2.1.1 < d.2.2.2.1.1))
  bif x2 then (
  bif decide ((0 : Int) ≤ d.2.2.2.2.1.1) && decide (d.2.2.2.2.1.1 < (d.2.2.1.1.length : Int)) then (
  let x3 : Int := (ishl .u64 d.2.1.1 (8 : Int))
  let x4 : Int := (iconv .u64 (gd (.int .u8) d.2.2.1.1 d.2.2.2.2.1.1))
  let x5 : Int := (ior .u64 x3 x4)
  let x6 : Int := (iadd .i64 d.2.2.2.2.1.1 (1 : Int))
  (T.1 ((), ((x5, ()), ((d.2.2.1.1, ()), ((d.2.2.2.1.1, ()), ((x6, ()), ())))))))
  else none)
  else (
  let x7 : Int := (iconv .u32 d.2.1.1)
  some ((), ((x7, ()), ())))
def f_octets_word_u32_t : Nat → TT_octets_word_u32
  | 0 => (fun _ => none, ())
  | k + 1 => (f_octets_word_u32_p4 (f_octets_word_u32_t k), ())
theorem t_octets_word_u32 (k : Nat) : f_octets_word_u32_t (k + 1) = (f_octets_word_u32_p4 (f_octets_word_u32_t k), ()) := rfl
def f_octets_word_u32_m (T : TT_octets_word_u32) (d : Unit × (((List Int) × Unit) × Unit)) : Option (Unit × ((Int × Unit) × Unit)) :=
  let x1 : Int := (d.2.1.1.length : Int)
  (T.1 ((), (((0 : Int), ()), ((d.2.1.1, ()), ((x1, ()), (((0 : Int), ()), ()))))))
def c_octets_word_u32 : List Nat := []
def L_octets_word_u32 (k : Nat) : Pts po_octets_word_u32.den := [(4, ⟨sh_octets_word_u32_4, (f_octets_word_u32_t k).1⟩)]
def E_octets_word_u32 : Env := E0
theorem q_octets_word_u32_4 (k : Nat) (d : Unit × ((Int × Unit) × (((List Int) × Unit) × ((Int × Unit) × ((Int × Unit) × Unit))))) : evAt E_octets_word_u32 (tab (L_octets_word_u32 k)) c_octets_word_u32 4 (bodyOf Try.f96) 0 (finK E_octets_word_u32 po_octets_word_u32 [.tmp 2]) (ptSt sh_octets_word_u32_4 d) = f_octets_word_u32_p4 (f_octets_word_u32_t k) d := by kernel_rfl
theorem q_octets_word_u32_m (k : Nat) (d : Unit × (((List Int) × Unit) × Unit)) : evCode E_octets_word_u32 (tab (L_octets_word_u32 k)) c_octets_word_u32 (bodyOf Try.f96) 0 (finK E_octets_word_u32 po_octets_word_u32 [.tmp 2]) (startSt pi_octets_word_u32 20 d) = f_octets_word_u32_m (f_octets_word_u32_t k) d := by kernel_rfl
theorem go_octets_word_u32 (G : Unit × (((List Int) × Unit) × Unit) → Option (Unit × ((Int × Unit) × Unit))) (hG : ∀ d out, G d = some out → ∃ k, f_octets_word_u32_m (f_octets_word_u32_t k) d = some out) : FnOk Try.prog ET0 96 pi_octets_word_u32 po_octets_word_u32 G :=
  fn_of_body (E := E_octets_word_u32) e0_ok (fn := Try.f96) Try.func96 (by kernel_rfl) (by kernel_rfl) [.tmp 2] (by kernel_rfl) (by kernel_rfl) (by decide) rfl c_octets_word_u32 L_octets_word_u32
    (by intro x hx d; simp only [L_octets_word_u32, List.mem_cons, List.not_mem_nil, or_false] at hx; subst hx; rfl)
    (by intro k x hx d out h; simp only [L_octets_word_u32, List.mem_cons, List.not_mem_nil, or_false] at hx; subst hx; exact (q_octets_word_u32_4 k d).trans h)
    (by intro d out h; obtain ⟨k, hk⟩ := hG d out h; exact ⟨k, (q_octets_word_u32_m k d).trans hk⟩)
def g_octets_word_u32 (d : Unit × (((List Int) × Unit) × Unit)) : Option (Unit × ((Int × Unit) × Unit)) := lim fun k => f_octets_word_u32_m (f_octets_word_u32_t k) d
theorem ok_octets_word_u32 : FnOk Try.prog ET0 96 pi_octets_word_u32 po_octets_word_u32 g_octets_word_u32 := go_octets_word_u32 g_octets_word_u32 fun d out h => lim_some h

/- horologe/octets.Get[uint32] -/
@[reducible] def pi_octets_Get_u32 : PSh := ⟨[], [.mk false [.v (.sl (.int .u8))], .mk false [.v (.int .i64)]]⟩
@[reducible] def po_octets_Get_u32 : PSh := ⟨[], [.mk false [.v (.int .u32)], .mk false [.v .err]]⟩
def f_octets_Get_u32_m (T : Unit) (d : Unit × (((List Int) × Unit) × ((Int × Unit) × Unit))) : Option (Unit × ((Int × Unit) × (((Option Int) × Unit) × Unit))) :=
  (g_octets_Size_u32 ((), ())).bind fun x1 =>
  (g_octets_from ((), ((d.2.1.1, ()), ((d.2.2.1.1, ()), ((x1.2.1.1, ()), ()))))).bind fun x2 =>
  let x3 : Bool := (!x2.2.2.1.1.isNone)
  bif x3 then (
  some ((), (((0 : Int), ()), ((x2.2.2.1.1, ()), ()))))
  else (
  (g_octets_word_u32 ((), ((x2.2.1.1, ()), ()))).bind fun x4 =>
  some ((), ((x4.2.1.1, ()), (((none : Option Int), ()), ()))))
def c_octets_Get_u32 : List Nat := []
def L_octets_Get_u32 (_ : Nat) : Pts po_octets_Get_u32.den := []
def E_octets_Get_u32 : Env := (((E0.add 75 (typedSem pi_octets_from po_octets_from g_octets_from)).add 91 (typedSem pi_octets_Size_u32 po_octets_Size_u32 g_octets_Size_u32)).add 96 (typedSem pi_octets_word_u32 po_octets_word_u32 g_octets_word_u32))
theorem q_octets_Get_u32_m (k : Nat) (d : Unit × (((List Int) × Unit) × ((Int × Unit) × Unit))) : evCode E_octets_Get_u32 (tab (L_octets_Get_u32 k)) c_octets_Get_u32 (bodyOf Try.f106) 0 (finK E_octets_Get_u32 po_octets_Get_u32 [.tmp 4, .tmp 5]) (startSt pi_octets_Get_u32 20 d) = f_octets_Get_u32_m () d := by kernel_rfl
def g_octets_Get_u32 (d : Unit × (((List Int) × Unit) × ((Int × Unit) × Unit))) : Option (Unit × ((Int × Unit) × (((Option Int) × Unit) × Unit))) := f_octets_Get_u32_m () d
theorem ok_octets_Get_u32 : FnOk Try.prog ET0 106 pi_octets_Get_u32 po_octets_Get_u32 g_octets_Get_u32 :=
  fn_of_body (E := E_octets_Get_u32) (envOk_add (envOk_add (envOk_add e0_ok (typed_ok ok_octets_from)) (typed_ok ok_octets_Size_u32)) (typed_ok ok_octets_word_u32)) (fn := Try.f106) Try.func106 (by kernel_rfl) (by kernel_rfl) [.tmp 4, .tmp 5] (by kernel_rfl) (by kernel_rfl) (by decide) rfl c_octets_Get_u32 L_octets_Get_u32
    (by intro x hx; cases hx) (by intro k x hx; cases hx) (fun d out h => ⟨0, (q_octets_Get_u32_m 0 d).trans h⟩)

/- horologe/word.Parse -/
@[reducible] def pi_word_Parse : PSh := ⟨[], [.mk false [.v (.sl (.int .u8))]]⟩
@[reducible] def po_word_Parse : PSh := ⟨[], [.mk false [.v (.int .u32)], .mk false [.v .err]]⟩
def f_word_Parse_m (T : Unit) (d : Unit × (((List Int) × Unit) × Unit)) : Option (Unit × ((Int × Unit) × (((Option Int) × Unit) × Unit))) :=
  (g_octets_Get_u32 ((), ((d.2.1.1, ()), (((0 : Int), ()), ())))).bind fun x1 =>
  let x2 : Bool := (!x1.2.2.1.1.isNone)
  bif x2 then (
  let x3 : (Option Int) := (some (2 : Int))
  some ((), (((0 : Int), ()), ((x3, ()), ()))))
  else (
  let x4 : Int := (d.2.1.1.length : Int)
  (g_octets_Size_u32 ((), ())).bind fun x5 =>
  let x6 : Bool := (x4 != x5.2.1.1)
  bif x6 then (
  let x7 : (Option Int) := (some (2 : Int))
  some ((), (((0 : Int), ()), ((x7, ()), ()))))
  else (
  some ((), ((x1.2.1.1, ()), (((none : Option Int), ()), ())))))
def c_word_Parse : List Nat := []
def L_word_Parse (_ : Nat) : Pts po_word_Parse.den := []
def E_word_Parse : Env := ((E0.add 91 (typedSem pi_octets_Size_u32 po_octets_Size_u32 g_octets_Size_u32)).add 106 (typedSem pi_octets_Get_u32 po_octets_Get_u32 g_octets_Get_u32))
theorem q_word_Parse_m (k : Nat) (d : Unit × (((List Int) × Unit) × Unit)) : evCode E_word_Parse (tab (L_word_Parse k)) c_word_Parse (bodyOf Try.f115) 0 (finK E_word_Parse po_word_Parse [.tmp 2, .tmp 3]) (startSt pi_word_Parse 21 d) = f_word_Parse_m () d := by kernel_rfl
def g_word_Parse (d : Unit × (((List Int) × Unit) × Unit)) : Option (Unit × ((Int × Unit) × (((Option Int) × Unit) × Unit))) := f_word_Parse_m () d
theorem ok_word_Parse : FnOk Try.prog ET0 115 pi_word_Parse po_word_Parse g_word_Parse :=
  fn_of_body (E := E_word_Parse) (envOk_add (envOk_add e0_ok (typed_ok ok_octets_Size_u32)) (typed_ok ok_octets_Get_u32)) (fn := Try.f115) Try.func115 (by kernel_rfl) (by kernel_rfl) [.tmp 2, .tmp 3] (by kernel_rfl) (by kernel_rfl) (by decide) rfl c_word_Parse L_word_Parse
    (by intro x hx; cases hx) (by intro k x hx; cases hx) (fun d out h => ⟨0, (q_word_Parse_m 0 d).trans h⟩)

/- horologe/word.Near -/
@[reducible] def pi_word_Near : PSh := ⟨[], [.mk false [.v (.sl (.int .u8))], .mk false [.v (.int .i64)]]⟩
@[reducible] def po_word_Near : PSh := ⟨[], [.mk false [.v (.int .i64)], .mk false [.v .err]]⟩
def f_word_Near_m (T : Unit) (d : Unit × (((List Int) × Unit) × ((Int × Unit) × Unit))) : Option (Unit × ((Int × Unit) × (((Option Int) × Unit) × Unit))) :=
  (g_word_Parse ((), ((d.2.1.1, ()), ()))).bind fun x1 =>
  let x2 : Bool := (!x1.2.2.1.1.isNone)
  bif x2 then (
  some ((), (((0 : Int), ()), ((x1.2.2.1.1, ()), ()))))
  else (
  (g_stamp_FromPosix ((), ((d.2.2.1.1, ()), ()))).bind fun x3 =>
  let x4 : Bool := (!x3.2.2.1.1.isNone)
  bif x4 then (
  some ((), (((0 : Int), ()), ((x3.2.2.1.1, ()), ()))))
  else (
  (g_era_Unfold_u32 ((), ((x1.2.1.1, ()), ((x3.2.1.1, ()), ())))).bind fun x5 =>
  let x6 : Bool := (!x5.2.2.1.1.isNone)
  bif x6 then (
  some ((), (((0 : Int), ()), ((x5.2.2.1.1, ()), ()))))
  else (
  (g_stamp_ToPosix ((), ((x5.2.1.1, ()), ()))).bind fun x7 =>
  some ((), ((x7.2.1.1, ()), ((x7.2.2.1.1, ()), ()))))))
def c_word_Near : List Nat := []
def L_word_Near (_ : Nat) : Pts po_word_Near.den := []
def E_word_Near : Env := ((((E0.add 33 (typedSem pi_stamp_FromPosix po_stamp_FromPosix g_stamp_FromPosix)).add 34 (typedSem pi_stamp_ToPosix po_stamp_ToPosix g_stamp_ToPosix)).add 78 (typedSem pi_era_Unfold_u32 po_era_Unfold_u32 g_era_Unfold_u32)).add 115 (typedSem pi_word_Parse po_word_Parse g_word_Parse))
theorem q_word_Near_m (k : Nat) (d : Unit × (((List Int) × Unit) × ((Int × Unit) × Unit))) : evCode E_word_Near (tab (L_word_Near k)) c_word_Near (bodyOf Try.f72) 0 (finK E_word_Near po_word_Near [.tmp 4, .tmp 5]) (startSt pi_word_Near 39 d) = f_word_Near_m () d := by kernel_rfl
def g_word_Near (d : Unit × (((List Int) × Unit) × ((Int × Unit) × Unit))) : Option (Unit × ((Int × Unit) × (((Option Int) × Unit) × Unit))) := f_word_Near_m () d
theorem ok_word_Near : FnOk Try.prog ET0 72 pi_word_Near po_word_Near g_word_Near :=
  fn_of_body (E := E_word_Near) (envOk_add (envOk_add (envOk_add (envOk_add e0_ok (typed_ok ok_stamp_FromPosix)) (typed_ok ok_stamp_ToPosix)) (typed_ok ok_era_Unfold_u32)) (typed_ok ok_word_Parse)) (fn := Try.f72) Try.func72 (by kernel_rfl) (by kernel_rfl) [.tmp 4, .tmp 5] (by kernel_rfl) (by kernel_rfl) (by decide) rfl c_word_Near L_word_Near
    (by intro x hx; cases hx) (by intro k x hx; cases hx) (fun d out h => ⟨0, (q_word_Near_m 0 d).trans h⟩)

/- horologe/horologelaw27.WordBack -/
@[reducible] def pi_law27_WordBack : PSh := ⟨[], [.mk false [.v (.int .i64)], .mk false [.v (.int .i64)]]⟩
@[reducible] def po_law27_WordBack : PSh := ⟨[], [.mk false [.v .bool]]⟩
def f_law27_WordBack_m (T : Unit) (d : Unit × ((Int × Unit) × ((Int × Unit) × Unit))) : Option (Unit × ((Bool × Unit) × Unit)) :=
  (g_law27_alive ((), ())).bind fun x1 =>
  let x2 : Bool := (!x1.2.1.1)
  bif x2 then (
  some ((), ((false, ()), ())))
  else (
  let x3 : Bool := (decide (d.2.1.1 > (1152921504606846976 : Int)))
  bif x3 then (
  some ((), ((true, ()), ())))
  else (
  let x4 : Bool := (decide (d.2.1.1 < (-1152921504606846976 : Int)))
  bif x4 then (
  some ((), ((true, ()), ())))
  else (
  let x5 : Bool := (decide (d.2.2.1.1 > (1152921504606846976 : Int)))
  bif x5 then (
  some ((), ((true, ()), ())))
  else (
  let x6 : Bool := (decide (d.2.2.1.1 < (-1152921504606846976 : Int)))
  bif x6 then (
  some ((), ((true, ()), ())))
  else (
  (g_word_Put ((), ((d.2.1.1, ()), ()))).bind fun x7 =>
  let x8 : Bool := (!x7.2.2.1.1.isNone)
  bif x8 then (
  some ((), ((false, ()), ())))
  else (
  let x9 : Int := (isub .i64 d.2.1.1 d.2.2.1.1)
  (g_word_Near ((), ((x7.1.1, ()), ((x9, ()), ())))).bind fun x10 =>
  let x11 : Bool := (!x10.2.2.1.1.isNone)
  bif x11 then (
  some ((), ((false, ()), ())))
  else (
  let x12 : Bool := (decide (d.2.2.1.1 ≥ (-2147483648 : Int)))
  bif x12 then (
  let x13 : Bool := (decide (d.2.2.1.1 < (2147483648 : Int)))
  bif x13 then (
  let x14 : Bool := (x10.2.1.1 == d.2.1.1)
  some ((), ((x14, ()), ())))
  else (
  let x15 : Bool := (x10.2.1.1 != d.2.1.1)
  bif x15 then (
  let x16 : Int := (isub .i64 x10.2.1.1 d.2.1.1)
  let x17 : Int := (Int.tmod x16 (4294967296 : Int))
  let x18 : Bool := (x17 == (0 : Int))
  some ((), ((x18, ()), ())))
  else (
  some ((), ((false, ()), ())))))
  else (
  let x19 : Bool := (x10.2.1.1 != d.2.1.1)
  bif x19 then (
  let x20 : Int := (isub .i64 x10.2.1.1 d.2.1.1)
  let x21 : Int := (Int.tmod x20 (4294967296 : Int))
  let x22 : Bool := (x21 == (0 : Int))
  some ((), ((x22, ()), ())))
  else (
  some ((), ((false, ()), ())))))))))))
def c_law27_WordBack : List Nat := []
def L_law27_WordBack (_ : Nat) : Pts po_law27_WordBack.den := []
def E_law27_WordBack : Env := (((E0.add 70 (typedSem pi_law27_alive po_law27_alive g_law27_alive)).add 71 (typedSem pi_word_Put po_word_Put g_word_Put)).add 72 (typedSem pi_word_Near po_word_Near g_word_Near))
theorem q_law27_WordBack_m (k : Nat) (d : Unit × ((Int × Unit) × ((Int × Unit) × Unit))) : evCode E_law27_WordBack (tab (L_law27_WordBack k)) c_law27_WordBack (bodyOf Try.f14) 0 (finK E_law27_WordBack po_law27_WordBack [.tmp 4]) (startSt pi_law27_WordBack 60 d) = f_law27_WordBack_m () d := by kernel_rfl
def g_law27_WordBack (d : Unit × ((Int × Unit) × ((Int × Unit) × Unit))) : Option (Unit × ((Bool × Unit) × Unit)) := f_law27_WordBack_m () d
theorem ok_law27_WordBack : FnOk Try.prog ET0 14 pi_law27_WordBack po_law27_WordBack g_law27_WordBack :=
  fn_of_body (E := E_law27_WordBack) (envOk_add (envOk_add (envOk_add e0_ok (typed_ok ok_law27_alive)) (typed_ok ok_word_Put)) (typed_ok ok_word_Near)) (fn := Try.f14) Try.func14 (by kernel_rfl) (by kernel_rfl) [.tmp 4] (by kernel_rfl) (by kernel_rfl) (by decide) rfl c_law27_WordBack L_law27_WordBack
    (by intro x hx; cases hx) (by intro k x hx; cases hx) (fun d out h => ⟨0, (q_law27_WordBack_m 0 d).trans h⟩)
end
end Go.Proofs.Ytecilflgjakhcaa.Ev
