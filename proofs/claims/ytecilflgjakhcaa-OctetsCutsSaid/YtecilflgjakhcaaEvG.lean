/- Printed by wip/tools/evgen.py. -/
import Derived.Test.YtecilflgjakhcaaEv19
import Derived.Test.YtecilflgjakhcaaProg
import Derived.KernelRfl
set_option maxRecDepth 100000
set_option linter.unusedVariables false
namespace Go.Proofs.Ytecilflgjakhcaa.Ev
open Go
noncomputable section
def rows0 : List (TypeId × Row) := [
  (2, ⟨.int .i64, 1, 8, (.int .i64), [AV.val (.int .i64) (0 : Int)]⟩),
  (3, ⟨.int .i64, 1, 8, (.int .i64), [AV.val (.int .i64) (0 : Int)]⟩),
  (4, ⟨.bool, 1, 1, .bool, [AV.val .bool false]⟩),
  (5, ⟨.int .u8, 1, 1, (.int .u8), [AV.val (.int .u8) (0 : Int)]⟩),
  (9, ⟨.str, 1, 16, .str, [AV.val .str ByteArray.empty]⟩),
  (22, ⟨.int .u32, 1, 4, (.int .u32), [AV.val (.int .u32) (0 : Int)]⟩),
  (26, ⟨.int .u64, 1, 8, (.int .u64), [AV.val (.int .u64) (0 : Int)]⟩),
  (29, ⟨.int .u16, 1, 2, (.int .u16), [AV.val (.int .u16) (0 : Int)]⟩),
  (32, ⟨.struct [(0, 1, false), (1, 1, false)], 2, 4, (.pair (.int .u16) (.int .u16)), [AV.val (.int .u16) (0 : Int), AV.val (.int .u16) (0 : Int)]⟩),
  (34, ⟨.iface, 1, 16, .err, [AV.val .err (none : Option Int)]⟩),
  (40, ⟨.int .i64, 1, 8, (.int .i64), [AV.val (.int .i64) (0 : Int)]⟩),
  (42, ⟨.slice 5, 1, 24, (.sl (.int .u8)), [AV.nilS]⟩),
  (51, ⟨.struct [(0, 1, false), (1, 1, false)], 2, 8, (.pair (.int .u32) (.int .u32)), [AV.val (.int .u32) (0 : Int), AV.val (.int .u32) (0 : Int)]⟩),
  (66, ⟨.struct [(0, 1, false), (1, 1, false), (2, 1, false), (3, 1, false), (4, 1, false), (5, 1, false), (6, 2, true), (8, 2, true), (10, 4, true), (14, 2, true), (16, 2, true), (18, 2, true), (20, 2, true)], 22, 72, (.pair (.int .i64) (.pair (.int .i64) (.pair (.int .i64) (.pair (.int .u8) (.pair (.int .i8) (.pair (.int .i8) (.pair (.pair (.int .u16) (.int .u16)) (.pair (.pair (.int .u16) (.int .u16)) (.pair (.pair (.int .u8) (.pair (.int .u8) (.pair (.int .u8) (.int .u8)))) (.pair (.pair (.int .u32) (.int .u32)) (.pair (.pair (.int .u32) (.int .u32)) (.pair (.pair (.int .u32) (.int .u32)) (.pair (.int .u32) (.int .u32)))))))))))))), [AV.val (.int .i64) (0 : Int), AV.val (.int .i64) (0 : Int), AV.val (.int .i64) (0 : Int), AV.val (.int .u8) (0 : Int), AV.val (.int .i8) (0 : Int), AV.val (.int .i8) (0 : Int), AV.val (.int .u16) (0 : Int), AV.val (.int .u16) (0 : Int), AV.val (.int .u16) (0 : Int), AV.val (.int .u16) (0 : Int), AV.val (.int .u8) (0 : Int), AV.val (.int .u8) (0 : Int), AV.val (.int .u8) (0 : Int), AV.val (.int .u8) (0 : Int), AV.val (.int .u32) (0 : Int), AV.val (.int .u32) (0 : Int), AV.val (.int .u32) (0 : Int), AV.val (.int .u32) (0 : Int), AV.val (.int .u32) (0 : Int), AV.val (.int .u32) (0 : Int), AV.val (.int .u32) (0 : Int), AV.val (.int .u32) (0 : Int)]⟩),
  (70, ⟨.struct [(0, 1, false), (1, 1, false), (2, 1, false), (3, 1, false), (4, 1, false), (5, 1, false), (6, 1, false), (7, 1, false), (8, 4, true), (12, 1, false), (13, 1, false), (14, 1, false), (15, 1, false)], 16, 104, (.pair (.int .i64) (.pair (.int .i64) (.pair (.int .i64) (.pair (.int .i64) (.pair (.int .i64) (.pair (.int .i64) (.pair (.int .u64) (.pair (.int .u64) (.pair (.pair (.int .u8) (.pair (.int .u8) (.pair (.int .u8) (.int .u8)))) (.pair (.int .u64) (.pair (.int .u64) (.pair (.int .u64) (.int .u64))))))))))))), [AV.val (.int .i64) (0 : Int), AV.val (.int .i64) (0 : Int), AV.val (.int .i64) (0 : Int), AV.val (.int .i64) (0 : Int), AV.val (.int .i64) (0 : Int), AV.val (.int .i64) (0 : Int), AV.val (.int .u64) (0 : Int), AV.val (.int .u64) (0 : Int), AV.val (.int .u8) (0 : Int), AV.val (.int .u8) (0 : Int), AV.val (.int .u8) (0 : Int), AV.val (.int .u8) (0 : Int), AV.val (.int .u64) (0 : Int), AV.val (.int .u64) (0 : Int), AV.val (.int .u64) (0 : Int), AV.val (.int .u64) (0 : Int)]⟩),
  (75, ⟨.slice 22, 1, 24, (.sl (.int .u32)), [AV.nilS]⟩),
  (127, ⟨.slice 26, 1, 24, (.sl (.int .u64)), [AV.nilS]⟩),
  (129, ⟨.struct [(0, 1, false), (1, 1, false)], 2, 32, (.pair .bool (.sl (.int .u64))), [AV.val .bool false, AV.nilS]⟩),
  (143, ⟨.slice 29, 1, 24, (.sl (.int .u16)), [AV.nilS]⟩),
  (166, ⟨.slice 9, 1, 24, (.sl .str), [AV.nilS]⟩),
  (187, ⟨.slice 3, 1, 24, (.sl (.int .i64)), [AV.nilS]⟩)]
def ET0 : TypeId := 40
def E0 : Env := ⟨rows0, [], ET0, 0⟩
theorem e0_ok : EnvOk Try.prog E0 := envOk_rows (by kernel_rfl) 0

/- horologe/stamp.Nano -/
@[reducible] def pi16 : PSh := ⟨[], [.mk false [.v (.int .u32)]]⟩
@[reducible] def po16 : PSh := ⟨[], [.mk false [.v (.int .i64)]]⟩
def f16_m (T : Unit) (d : Unit × ((Int × Unit) × Unit)) : Option (Unit × ((Int × Unit) × Unit)) :=
  let x1 : Int := (iconv .u64 d.2.1.1)
  let x2 : Int := (imul .u64 x1 (1000000000 : Int))
  let x3 : Int := (ishr .u64 x2 (32 : Int))
  let x4 : Int := (iconv .i64 x3)
  some ((), ((x4, ()), ()))
def c16 : List Nat := []
def L16 (_ : Nat) : Pts po16.den := []
def E16 : Env := E0
theorem q16_m (k : Nat) (d : Unit × ((Int × Unit) × Unit)) : evCode E16 (tab (L16 k)) c16 (bodyOf Try.f16) 0 (finK E16 po16 [.tmp 2]) (startSt pi16 8 d) = f16_m () d := by kernel_rfl
def g16 (d : pi16.den) : Option po16.den := f16_m () d
theorem ok16 : FnOk Try.prog ET0 16 pi16 po16 g16 :=
  fn_of_body (E := E16) e0_ok (fn := Try.f16) Try.func16 (by kernel_rfl) (by kernel_rfl) [.tmp 2] (by kernel_rfl) (by kernel_rfl) (by decide) c16 L16
    (by intro x hx; cases hx) (by intro k x hx; cases hx) (fun d out h => ⟨0, (q16_m 0 d).trans h⟩)

/- horologe/stamp.right -/
@[reducible] def pi73 : PSh := ⟨[], [.mk false [.v (.int .i64)]]⟩
@[reducible] def po73 : PSh := ⟨[], [.mk false [.v .bool]]⟩
def f73_m (T : Unit) (d : Unit × ((Int × Unit) × Unit)) : Option (Unit × ((Bool × Unit) × Unit)) :=
  let x1 : Bool := (decide (d.2.1.1 ≥ (0 : Int)))
  bif x1 then (
  let x2 : Bool := (decide (d.2.1.1 < (1000000000 : Int)))
  some ((), ((x2, ()), ())))
  else (
  some ((), ((false, ()), ())))
def c73 : List Nat := []
def L73 (_ : Nat) : Pts po73.den := []
def E73 : Env := E0
theorem q73_m (k : Nat) (d : Unit × ((Int × Unit) × Unit)) : evCode E73 (tab (L73 k)) c73 (bodyOf Try.f73) 0 (finK E73 po73 [.tmp 2]) (startSt pi73 9 d) = f73_m () d := by kernel_rfl
def g73 (d : pi73.den) : Option po73.den := f73_m () d
theorem ok73 : FnOk Try.prog ET0 73 pi73 po73 g73 :=
  fn_of_body (E := E73) e0_ok (fn := Try.f73) Try.func73 (by kernel_rfl) (by kernel_rfl) [.tmp 2] (by kernel_rfl) (by kernel_rfl) (by decide) c73 L73
    (by intro x hx; cases hx) (by intro k x hx; cases hx) (fun d out h => ⟨0, (q73_m 0 d).trans h⟩)

/- horologe/stamp.Fraction -/
@[reducible] def pi19 : PSh := ⟨[], [.mk false [.v (.int .i64)]]⟩
@[reducible] def po19 : PSh := ⟨[], [.mk false [.v (.int .u32)], .mk false [.v .err]]⟩
def f19_m (T : Unit) (d : Unit × ((Int × Unit) × Unit)) : Option (Unit × ((Int × Unit) × (((Option Int) × Unit) × Unit))) :=
  (g73 ((), ((d.2.1.1, ()), ()))).bind fun x1 =>
  let x2 : Bool := (!x1.2.1.1)
  bif x2 then (
  let x3 : (Option Int) := (some (1 : Int))
  some ((), (((0 : Int), ()), ((x3, ()), ()))))
  else (
  let x4 : Int := (iconv .u64 d.2.1.1)
  let x5 : Int := (ishl .u64 x4 (32 : Int))
  let x6 : Int := (iadd .u64 x5 (1000000000 : Int))
  let x7 : Int := (isub .u64 x6 (1 : Int))
  let x8 : Int := (iquo .u64 x7 (1000000000 : Int))
  let x9 : Int := (iconv .u32 x8)
  some ((), ((x9, ()), (((none : Option Int), ()), ()))))
def c19 : List Nat := []
def L19 (_ : Nat) : Pts po19.den := []
def E19 : Env := (E0.add 73 (typedSem pi73 po73 g73))
theorem q19_m (k : Nat) (d : Unit × ((Int × Unit) × Unit)) : evCode E19 (tab (L19 k)) c19 (bodyOf Try.f19) 0 (finK E19 po19 [.tmp 2, .tmp 3]) (startSt pi19 15 d) = f19_m () d := by kernel_rfl
def g19 (d : pi19.den) : Option po19.den := f19_m () d
theorem ok19 : FnOk Try.prog ET0 19 pi19 po19 g19 :=
  fn_of_body (E := E19) (envOk_add e0_ok (typed_ok ok73)) (fn := Try.f19) Try.func19 (by kernel_rfl) (by kernel_rfl) [.tmp 2, .tmp 3] (by kernel_rfl) (by kernel_rfl) (by decide) c19 L19
    (by intro x hx; cases hx) (by intro k x hx; cases hx) (fun d out h => ⟨0, (q19_m 0 d).trans h⟩)

/- horologe/horologelaw15.alive -/
@[reducible] def pi15 : PSh := ⟨[], []⟩
@[reducible] def po15 : PSh := ⟨[], [.mk false [.v .bool]]⟩
def f15_m (T : Unit) (d : Unit × Unit) : Option (Unit × ((Bool × Unit) × Unit)) :=
  (g19 ((), (((500000000 : Int), ()), ()))).bind fun x1 =>
  bif x1.2.2.1.1.isNone then (
  let x2 : Bool := (x1.2.1.1 == (2147483648 : Int))
  bif x2 then (
  (g16 ((), ((x1.2.1.1, ()), ()))).bind fun x3 =>
  let x4 : Bool := (x3.2.1.1 == (500000000 : Int))
  some ((), ((x4, ()), ())))
  else (
  some ((), ((false, ()), ()))))
  else (
  some ((), ((false, ()), ())))
def c15 : List Nat := []
def L15 (_ : Nat) : Pts po15.den := []
def E15 : Env := ((E0.add 16 (typedSem pi16 po16 g16)).add 19 (typedSem pi19 po19 g19))
theorem q15_m (k : Nat) (d : Unit × Unit) : evCode E15 (tab (L15 k)) c15 (bodyOf Try.f15) 0 (finK E15 po15 [.tmp 0]) (startSt pi15 18 d) = f15_m () d := by kernel_rfl
def g15 (d : pi15.den) : Option po15.den := f15_m () d
theorem ok15 : FnOk Try.prog ET0 15 pi15 po15 g15 :=
  fn_of_body (E := E15) (envOk_add (envOk_add e0_ok (typed_ok ok16)) (typed_ok ok19)) (fn := Try.f15) Try.func15 (by kernel_rfl) (by kernel_rfl) [.tmp 0] (by kernel_rfl) (by kernel_rfl) (by decide) c15 L15
    (by intro x hx; cases hx) (by intro k x hx; cases hx) (fun d out h => ⟨0, (q15_m 0 d).trans h⟩)

/- horologe/horologeref15.Whole -/
@[reducible] def pi17 : PSh := ⟨[], [.mk false [.v (.int .u64)], .mk false [.v (.int .u64)], .mk false [.v (.int .u64)]]⟩
@[reducible] def po17 : PSh := ⟨[], [.mk false [.v .bool]]⟩
def f17_m (T : Unit) (d : Unit × ((Int × Unit) × ((Int × Unit) × ((Int × Unit) × Unit)))) : Option (Unit × ((Bool × Unit) × Unit)) :=
  let x1 : Int := (imul .u64 d.2.1.1 d.2.2.2.1.1)
  let x2 : Int := (imul .u64 d.2.2.1.1 (1000000000 : Int))
  let x3 : Bool := (decide (x1 ≤ x2))
  bif x3 then (
  let x4 : Int := (iadd .u64 d.2.1.1 (1 : Int))
  let x5 : Int := (imul .u64 x4 d.2.2.2.1.1)
  let x6 : Int := (imul .u64 d.2.2.1.1 (1000000000 : Int))
  let x7 : Bool := (decide (x5 > x6))
  some ((), ((x7, ()), ())))
  else (
  some ((), ((false, ()), ())))
def c17 : List Nat := []
def L17 (_ : Nat) : Pts po17.den := []
def E17 : Env := E0
theorem q17_m (k : Nat) (d : Unit × ((Int × Unit) × ((Int × Unit) × ((Int × Unit) × Unit)))) : evCode E17 (tab (L17 k)) c17 (bodyOf Try.f17) 0 (finK E17 po17 [.tmp 6]) (startSt pi17 22 d) = f17_m () d := by kernel_rfl
def g17 (d : pi17.den) : Option po17.den := f17_m () d
theorem ok17 : FnOk Try.prog ET0 17 pi17 po17 g17 :=
  fn_of_body (E := E17) e0_ok (fn := Try.f17) Try.func17 (by kernel_rfl) (by kernel_rfl) [.tmp 6] (by kernel_rfl) (by kernel_rfl) (by decide) c17 L17
    (by intro x hx; cases hx) (by intro k x hx; cases hx) (fun d out h => ⟨0, (q17_m 0 d).trans h⟩)

/- horologe/stamp.ShortOf -/
@[reducible] def pi20 : PSh := ⟨[], [.mk false [.v (.int .i64)], .mk false [.v (.int .i64)]]⟩
@[reducible] def po20 : PSh := ⟨[], [.mk true [.v (.int .u16), .v (.int .u16)], .mk false [.v .err]]⟩
def f20_m (T : Unit) (d : Unit × ((Int × Unit) × ((Int × Unit) × Unit))) : Option (Unit × ((Int × (Int × Unit)) × (((Option Int) × Unit) × Unit))) :=
  let x1 : Bool := (decide (d.2.1.1 < (0 : Int)))
  bif x1 then (
  let x2 : (Option Int) := (some (1 : Int))
  some ((), (((0 : Int), ((0 : Int), ())), ((x2, ()), ()))))
  else (
  let x3 : Bool := (decide (d.2.1.1 > (65535 : Int)))
  bif x3 then (
  let x4 : (Option Int) := (some (1 : Int))
  some ((), (((0 : Int), ((0 : Int), ())), ((x4, ()), ()))))
  else (
  (g73 ((), ((d.2.2.1.1, ()), ()))).bind fun x5 =>
  let x6 : Bool := (!x5.2.1.1)
  bif x6 then (
  let x7 : (Option Int) := (some (1 : Int))
  some ((), (((0 : Int), ((0 : Int), ())), ((x7, ()), ()))))
  else (
  let x8 : Int := (iconv .u16 d.2.1.1)
  let x9 : Int := (iconv .u64 d.2.2.1.1)
  let x10 : Int := (ishl .u64 x9 (16 : Int))
  let x11 : Int := (iquo .u64 x10 (1000000000 : Int))
  let x12 : Int := (iconv .u16 x11)
  some ((), ((x8, (x12, ())), (((none : Option Int), ()), ()))))))
def c20 : List Nat := []
def L20 (_ : Nat) : Pts po20.den := []
def E20 : Env := (E0.add 73 (typedSem pi73 po73 g73))
theorem q20_m (k : Nat) (d : Unit × ((Int × Unit) × ((Int × Unit) × Unit))) : evCode E20 (tab (L20 k)) c20 (bodyOf Try.f20) 0 (finK E20 po20 [.cell 4 32, .tmp 5]) (startSt pi20 27 d) = f20_m () d := by kernel_rfl
def g20 (d : pi20.den) : Option po20.den := f20_m () d
theorem ok20 : FnOk Try.prog ET0 20 pi20 po20 g20 :=
  fn_of_body (E := E20) (envOk_add e0_ok (typed_ok ok73)) (fn := Try.f20) Try.func20 (by kernel_rfl) (by kernel_rfl) [.cell 4 32, .tmp 5] (by kernel_rfl) (by kernel_rfl) (by decide) c20 L20
    (by intro x hx; cases hx) (by intro k x hx; cases hx) (fun d out h => ⟨0, (q20_m 0 d).trans h⟩)

/- horologe/horologenum.Num -/
@[reducible] def pi27 : PSh := ⟨[], [.mk false [.v .err]]⟩
@[reducible] def po27 : PSh := ⟨[], [.mk false [.v (.int .i64)]]⟩
def f27_m (T : Unit) (d : Unit × (((Option Int) × Unit) × Unit)) : Option (Unit × ((Int × Unit) × Unit)) :=
  bif d.2.1.1.isNone then (
  some ((), (((0 : Int), ()), ())))
  else (
  bif d.2.1.1.isSome then (
  let x1 : Bool := ((d.2.1.1.getD 0) != (0 : Int))
  bif x1 then (
  some ((), (((d.2.1.1.getD 0), ()), ())))
  else (
  some ((), (((-1 : Int), ()), ()))))
  else (
  some ((), (((-1 : Int), ()), ()))))
def c27 : List Nat := []
def L27 (_ : Nat) : Pts po27.den := []
def E27 : Env := E0
theorem q27_m (k : Nat) (d : Unit × (((Option Int) × Unit) × Unit)) : evCode E27 (tab (L27 k)) c27 (bodyOf Try.f27) 0 (finK E27 po27 [.tmp 2]) (startSt pi27 18 d) = f27_m () d := by kernel_rfl
def g27 (d : pi27.den) : Option po27.den := f27_m () d
theorem ok27 : FnOk Try.prog ET0 27 pi27 po27 g27 :=
  fn_of_body (E := E27) e0_ok (fn := Try.f27) Try.func27 (by kernel_rfl) (by kernel_rfl) [.tmp 2] (by kernel_rfl) (by kernel_rfl) (by decide) c27 L27
    (by intro x hx; cases hx) (by intro k x hx; cases hx) (fun d out h => ⟨0, (q27_m 0 d).trans h⟩)

/- horologe/horologenum.Is -/
@[reducible] def pi21 : PSh := ⟨[], [.mk false [.v .err], .mk false [.v (.int .i64)]]⟩
@[reducible] def po21 : PSh := ⟨[], [.mk false [.v .bool]]⟩
def f21_m (T : Unit) (d : Unit × (((Option Int) × Unit) × ((Int × Unit) × Unit))) : Option (Unit × ((Bool × Unit) × Unit)) :=
  (g27 ((), ((d.2.1.1, ()), ()))).bind fun x1 =>
  let x2 : Bool := (x1.2.1.1 == d.2.2.1.1)
  some ((), ((x2, ()), ()))
def c21 : List Nat := []
def L21 (_ : Nat) : Pts po21.den := []
def E21 : Env := (E0.add 27 (typedSem pi27 po27 g27))
theorem q21_m (k : Nat) (d : Unit × (((Option Int) × Unit) × ((Int × Unit) × Unit))) : evCode E21 (tab (L21 k)) c21 (bodyOf Try.f21) 0 (finK E21 po21 [.tmp 4]) (startSt pi21 9 d) = f21_m () d := by kernel_rfl
def g21 (d : pi21.den) : Option po21.den := f21_m () d
theorem ok21 : FnOk Try.prog ET0 21 pi21 po21 g21 :=
  fn_of_body (E := E21) (envOk_add e0_ok (typed_ok ok27)) (fn := Try.f21) Try.func21 (by kernel_rfl) (by kernel_rfl) [.tmp 4] (by kernel_rfl) (by kernel_rfl) (by decide) c21 L21
    (by intro x hx; cases hx) (by intro k x hx; cases hx) (fun d out h => ⟨0, (q21_m 0 d).trans h⟩)

/- horologe/horologeref15.Least -/
@[reducible] def pi22 : PSh := ⟨[], [.mk false [.v (.int .u64)], .mk false [.v (.int .u64)], .mk false [.v (.int .u64)]]⟩
@[reducible] def po22 : PSh := ⟨[], [.mk false [.v .bool]]⟩
def f22_m (T : Unit) (d : Unit × ((Int × Unit) × ((Int × Unit) × ((Int × Unit) × Unit)))) : Option (Unit × ((Bool × Unit) × Unit)) :=
  let x1 : Int := (imul .u64 d.2.1.1 (1000000000 : Int))
  let x2 : Int := (imul .u64 d.2.2.2.1.1 d.2.2.1.1)
  let x3 : Bool := (decide (x1 ≥ x2))
  bif x3 then (
  let x4 : Bool := (d.2.1.1 == (0 : Int))
  bif x4 then (
  some ((), ((true, ()), ())))
  else (
  let x5 : Int := (isub .u64 d.2.1.1 (1 : Int))
  let x6 : Int := (imul .u64 x5 (1000000000 : Int))
  let x7 : Int := (imul .u64 d.2.2.2.1.1 d.2.2.1.1)
  let x8 : Bool := (decide (x6 < x7))
  some ((), ((x8, ()), ()))))
  else (
  some ((), ((false, ()), ())))
def c22 : List Nat := []
def L22 (_ : Nat) : Pts po22.den := []
def E22 : Env := E0
theorem q22_m (k : Nat) (d : Unit × ((Int × Unit) × ((Int × Unit) × ((Int × Unit) × Unit)))) : evCode E22 (tab (L22 k)) c22 (bodyOf Try.f22) 0 (finK E22 po22 [.tmp 6]) (startSt pi22 26 d) = f22_m () d := by kernel_rfl
def g22 (d : pi22.den) : Option po22.den := f22_m () d
theorem ok22 : FnOk Try.prog ET0 22 pi22 po22 g22 :=
  fn_of_body (E := E22) e0_ok (fn := Try.f22) Try.func22 (by kernel_rfl) (by kernel_rfl) [.tmp 6] (by kernel_rfl) (by kernel_rfl) (by decide) c22 L22
    (by intro x hx; cases hx) (by intro k x hx; cases hx) (fun d out h => ⟨0, (q22_m 0 d).trans h⟩)

/- horologe/horologeref15.Within -/
@[reducible] def pi23 : PSh := ⟨[], [.mk false [.v (.int .u64)], .mk false [.v (.int .u64)], .mk false [.v (.int .u64)]]⟩
@[reducible] def po23 : PSh := ⟨[], [.mk false [.v .bool]]⟩
def f23_m (T : Unit) (d : Unit × ((Int × Unit) × ((Int × Unit) × ((Int × Unit) × Unit)))) : Option (Unit × ((Bool × Unit) × Unit)) :=
  let x1 : Int := (imul .u64 d.2.1.1 (1000000000 : Int))
  let x2 : Int := (imul .u64 d.2.2.2.1.1 d.2.2.1.1)
  let x3 : Bool := (decide (x1 ≤ x2))
  bif x3 then (
  let x4 : Int := (iadd .u64 d.2.1.1 (1 : Int))
  let x5 : Int := (imul .u64 x4 (1000000000 : Int))
  let x6 : Int := (imul .u64 d.2.2.2.1.1 d.2.2.1.1)
  let x7 : Bool := (decide (x5 > x6))
  some ((), ((x7, ()), ())))
  else (
  some ((), ((false, ()), ())))
def c23 : List Nat := []
def L23 (_ : Nat) : Pts po23.den := []
def E23 : Env := E0
theorem q23_m (k : Nat) (d : Unit × ((Int × Unit) × ((Int × Unit) × ((Int × Unit) × Unit)))) : evCode E23 (tab (L23 k)) c23 (bodyOf Try.f23) 0 (finK E23 po23 [.tmp 6]) (startSt pi23 22 d) = f23_m () d := by kernel_rfl
def g23 (d : pi23.den) : Option po23.den := f23_m () d
theorem ok23 : FnOk Try.prog ET0 23 pi23 po23 g23 :=
  fn_of_body (E := E23) e0_ok (fn := Try.f23) Try.func23 (by kernel_rfl) (by kernel_rfl) [.tmp 6] (by kernel_rfl) (by kernel_rfl) (by decide) c23 L23
    (by intro x hx; cases hx) (by intro k x hx; cases hx) (fun d out h => ⟨0, (q23_m 0 d).trans h⟩)

/- slices.Clone[[]byte,byte] -/
@[reducible] def pi76 : PSh := ⟨[], [.mk false [.v (.sl (.int .u8))]]⟩
@[reducible] def po76 : PSh := ⟨[.row 5 (.int .u8)], [.mk false [.osl 0]]⟩
def f76_m (T : Unit) (d : Unit × (((List Int) × Unit) × Unit)) : Option (((List Int) × Unit) × (Unit × Unit)) :=
  bif d.2.1.1.isEmpty then (
  agree (
  some ((([] : List Int), ()), ((), ()))) (
  let x1 : (List Int) := ([] : List Int)
  bif decide (((x1.length + d.2.1.1.length) * 1 : Nat) ≤ 140737488355328) && decide (x1.length + d.2.1.1.length ≤ 9223372036854775807) then (
  let x2 : (List Int) := (x1 ++ d.2.1.1)
  some ((x2, ()), ((), ())))
  else none))
  else (
  let x3 : (List Int) := ([] : List Int)
  bif decide (((x3.length + d.2.1.1.length) * 1 : Nat) ≤ 140737488355328) && decide (x3.length + d.2.1.1.length ≤ 9223372036854775807) then (
  let x4 : (List Int) := (x3 ++ d.2.1.1)
  some ((x4, ()), ((), ())))
  else none)
def c76 : List Nat := []
def L76 (_ : Nat) : Pts po76.den := []
def E76 : Env := E0
theorem q76_m (k : Nat) (d : Unit × (((List Int) × Unit) × Unit)) : evCode E76 (tab (L76 k)) c76 (bodyOf Try.f76) 0 (finK E76 po76 [.tmp 2]) (startSt pi76 8 d) = f76_m () d := by kernel_rfl
def g76 (d : pi76.den) : Option po76.den := f76_m () d
theorem ok76 : FnOk Try.prog ET0 76 pi76 po76 g76 :=
  fn_of_body (E := E76) e0_ok (fn := Try.f76) Try.func76 (by kernel_rfl) (by kernel_rfl) [.tmp 2] (by kernel_rfl) (by kernel_rfl) (by decide) c76 L76
    (by intro x hx; cases hx) (by intro k x hx; cases hx) (fun d out h => ⟨0, (q76_m 0 d).trans h⟩)

/- horologe/octets.Size[uint16] -/
@[reducible] def pi92 : PSh := ⟨[], []⟩
@[reducible] def po92 : PSh := ⟨[], [.mk false [.v (.int .i64)]]⟩
@[reducible] def sh92_4 : PSh := ⟨[], [.any, .mk false [.v (.int .i64)], .mk false [.v (.int .u16)], .any, .any, .any, .any, .any, .any, .any, .any, .any, .any, .any]⟩
def f92_p4 (T : (((Unit × ((Int × Unit) × ((Int × Unit) × Unit))) → Option (Unit × ((Int × Unit) × Unit))) × Unit)) (d : Unit × ((Int × Unit) × ((Int × Unit) × Unit))) : Option (Unit × ((Int × Unit) × Unit)) :=
  let x3 : Bool := (decide (d.2.2.1.1 > (0 : Int)))
  bif x3 then (
  let x4 : Int := (iadd .i64 d.2.1.1 (1 : Int))
  let x5 : Int := (iconv .u64 d.2.2.1.1)
  let x6 : Int := (ishr .u64 x5 (8 : Int))
  let x7 : Int := (iconv .u16 x6)
  (T.1 ((), ((x4, ()), ((x7, ()), ())))))
  else (
  some ((), ((d.2.1.1, ()), ())))
def f92_t : Nat → (((Unit × ((Int × Unit) × ((Int × Unit) × Unit))) → Option (Unit × ((Int × Unit) × Unit))) × Unit)
  | 0 => (fun _ => none, ())
  | k + 1 => (f92_p4 (f92_t k), ())
theorem t92_s (k : Nat) : f92_t (k + 1) = (f92_p4 (f92_t k), ()) := rfl
def f92_m (T : (((Unit × ((Int × Unit) × ((Int × Unit) × Unit))) → Option (Unit × ((Int × Unit) × Unit))) × Unit)) (d : Unit × Unit) : Option (Unit × ((Int × Unit) × Unit)) :=
  let x1 : Int := (iconv .u16 (0 : Int))
  let x2 : Int := (inot .u16 x1)
  (T.1 ((), (((0 : Int), ()), ((x2, ()), ()))))
def c92 : List Nat := []
def L92 (k : Nat) : Pts po92.den := [(4, ⟨sh92_4, (f92_t k).1⟩)]
def E92 : Env := E0
theorem q92_4 (k : Nat) (d : Unit × ((Int × Unit) × ((Int × Unit) × Unit))) : evAt E92 (tab (L92 k)) c92 4 (bodyOf Try.f92) 0 (finK E92 po92 [.tmp 0]) (ptSt sh92_4 d) = f92_p4 (f92_t k) d := by kernel_rfl
theorem q92_m (k : Nat) (d : Unit × Unit) : evCode E92 (tab (L92 k)) c92 (bodyOf Try.f92) 0 (finK E92 po92 [.tmp 0]) (startSt pi92 14 d) = f92_m (f92_t k) d := by kernel_rfl
theorem go92 (G : pi92.den → Option po92.den) (hG : ∀ d out, G d = some out → ∃ k, f92_m (f92_t k) d = some out) : FnOk Try.prog ET0 92 pi92 po92 G :=
  fn_of_body (E := E92) e0_ok (fn := Try.f92) Try.func92 (by kernel_rfl) (by kernel_rfl) [.tmp 0] (by kernel_rfl) (by kernel_rfl) (by decide) c92 L92
    (by intro x hx d; simp only [L92, List.mem_cons, List.not_mem_nil, or_false] at hx; subst hx; rfl)
    (by intro k x hx d out h; simp only [L92, List.mem_cons, List.not_mem_nil, or_false] at hx; subst hx; exact (q92_4 k d).trans h)
    (by intro d out h; obtain ⟨k, hk⟩ := hG d out h; exact ⟨k, (q92_m k d).trans hk⟩)
def g92 (d : pi92.den) : Option po92.den := lim fun k => f92_m (f92_t k) d
theorem ok92 : FnOk Try.prog ET0 92 pi92 po92 g92 := go92 g92 fun d out h => lim_some h

/- horologe/octets.Put[uint16] -/
@[reducible] def pi44 : PSh := ⟨[], [.mk false [.v (.sl (.int .u8))], .mk false [.v (.sl (.int .u16))]]⟩
@[reducible] def po44 : PSh := ⟨[.row 5 (.int .u8)], [.mk false [.osl 0]]⟩
@[reducible] def sh44_5 : PSh := ⟨[.row 5 (.int .u8)], [.any, .any, .any, .any, .any, .mk false [.v (.int .i64)], .mk false [.osl 0], .any, .any, .any, .any, .any, .any, .mk false [.v (.sl (.int .u16))], .mk false [.v (.int .i64)], .mk false [.v (.int .i64)], .any, .any, .any, .any, .any, .any, .any, .any, .any, .any, .any, .any, .any, .any, .any, .any, .any, .any, .any, .any]⟩
@[reducible] def sh44_11 : PSh := ⟨[.row 5 (.int .u8)], [.any, .any, .any, .any, .any, .mk false [.v (.int .i64)], .mk false [.osl 0], .any, .mk false [.v (.int .u16)], .mk false [.v (.int .i64)], .any, .any, .any, .mk false [.v (.sl (.int .u16))], .mk false [.v (.int .i64)], .mk false [.v (.int .i64)], .any, .any, .any, .any, .any, .any, .any, .any, .any, .any, .any, .any, .any, .any, .any, .any, .any, .any, .any, .any]⟩
def f44_p5 (T : (((((List Int) × Unit) × ((Int × Unit) × (Unit × (((List Int) × Unit) × ((Int × Unit) × ((Int × Unit) × Unit)))))) → Option (((List Int) × Unit) × (Unit × Unit))) × (((((List Int) × Unit) × ((Int × Unit) × (Unit × ((Int × Unit) × ((Int × Unit) × (((List Int) × Unit) × ((Int × Unit) × ((Int × Unit) × Unit)))))))) → Option (((List Int) × Unit) × (Unit × Unit))) × Unit))) (d : ((List Int) × Unit) × ((Int × Unit) × (Unit × (((List Int) × Unit) × ((Int × Unit) × ((Int × Unit) × Unit)))))) : Option (((List Int) × Unit) × (Unit × Unit)) :=
  let x4 : Bool := (decide (d.2.2.2.2.2.1.1 < d.2.2.2.2.1.1))
  bif x4 then (
  bif decide ((0 : Int) ≤ d.2.2.2.2.2.1.1) && decide (d.2.2.2.2.2.1.1 < (d.2.2.2.1.1.length : Int)) then (
  let x5 : Int := (isub .i64 d.2.1.1 (1 : Int))
  (T.2.1 ((d.1.1, ()), ((d.2.1.1, ()), ((), (((gd (.int .u16) d.2.2.2.1.1 d.2.2.2.2.2.1.1), ()), ((x5, ()), ((d.2.2.2.1.1, ()), ((d.2.2.2.2.1.1, ()), ((d.2.2.2.2.2.1.1, ()), ()))))))))))
  else none)
  else (
  some ((d.1.1, ()), ((), ())))
def f44_p11 (T : (((((List Int) × Unit) × ((Int × Unit) × (Unit × (((List Int) × Unit) × ((Int × Unit) × ((Int × Unit) × Unit)))))) → Option (((List Int) × Unit) × (Unit × Unit))) × (((((List Int) × Unit) × ((Int × Unit) × (Unit × ((Int × Unit) × ((Int × Unit) × (((List Int) × Unit) × ((Int × Unit) × ((Int × Unit) × Unit)))))))) → Option (((List Int) × Unit) × (Unit × Unit))) × Unit))) (d : ((List Int) × Unit) × ((Int × Unit) × (Unit × ((Int × Unit) × ((Int × Unit) × (((List Int) × Unit) × ((Int × Unit) × ((Int × Unit) × Unit)))))))) : Option (((List Int) × Unit) × (Unit × Unit)) :=
  let x6 : Bool := (decide (d.2.2.2.2.1.1 ≥ (0 : Int)))
  bif x6 then (
  let x7 : Int := (iconv .u64 d.2.2.2.1.1)
  let x8 : Int := (imul .i64 (8 : Int) d.2.2.2.2.1.1)
  bif decide (x8 < 0) then (
  none)
  else (
  let x9 : Int := (ishr .u64 x7 x8)
  let x10 : Int := (iconv .u8 x9)
  let x11 : (List Int) := ([x10] : List Int)
  bif decide (((d.1.1.length + x11.length) * 1 : Nat) ≤ 140737488355328) && decide (d.1.1.length + x11.length ≤ 9223372036854775807) then (
  let x12 : (List Int) := (d.1.1 ++ x11)
  let x13 : Int := (isub .i64 d.2.2.2.2.1.1 (1 : Int))
  (T.2.1 ((x12, ()), ((d.2.1.1, ()), ((), ((d.2.2.2.1.1, ()), ((x13, ()), ((d.2.2.2.2.2.1.1, ()), ((d.2.2.2.2.2.2.1.1, ()), ((d.2.2.2.2.2.2.2.1.1, ()), ()))))))))))
  else none))
  else (
  let x14 : Int := (iadd .i64 d.2.2.2.2.2.2.2.1.1 (1 : Int))
  (T.1 ((d.1.1, ()), ((d.2.1.1, ()), ((), ((d.2.2.2.2.2.1.1, ()), ((d.2.2.2.2.2.2.1.1, ()), ((x14, ()), ()))))))))
def f44_t : Nat → (((((List Int) × Unit) × ((Int × Unit) × (Unit × (((List Int) × Unit) × ((Int × Unit) × ((Int × Unit) × Unit)))))) → Option (((List Int) × Unit) × (Unit × Unit))) × (((((List Int) × Unit) × ((Int × Unit) × (Unit × ((Int × Unit) × ((Int × Unit) × (((List Int) × Unit) × ((Int × Unit) × ((Int × Unit) × Unit)))))))) → Option (((List Int) × Unit) × (Unit × Unit))) × Unit))
  | 0 => (fun _ => none, (fun _ => none, ()))
  | k + 1 => (f44_p5 (f44_t k), (f44_p11 (f44_t k), ()))
theorem t44_s (k : Nat) : f44_t (k + 1) = (f44_p5 (f44_t k), (f44_p11 (f44_t k), ())) := rfl
def f44_m (T : (((((List Int) × Unit) × ((Int × Unit) × (Unit × (((List Int) × Unit) × ((Int × Unit) × ((Int × Unit) × Unit)))))) → Option (((List Int) × Unit) × (Unit × Unit))) × (((((List Int) × Unit) × ((Int × Unit) × (Unit × ((Int × Unit) × ((Int × Unit) × (((List Int) × Unit) × ((Int × Unit) × ((Int × Unit) × Unit)))))))) → Option (((List Int) × Unit) × (Unit × Unit))) × Unit))) (d : Unit × (((List Int) × Unit) × (((List Int) × Unit) × Unit))) : Option (((List Int) × Unit) × (Unit × Unit)) :=
  (g92 ((), ())).bind fun x1 =>
  (g76 ((), ((d.2.1.1, ()), ()))).bind fun x2 =>
  let x3 : Int := (d.2.2.1.1.length : Int)
  (T.1 ((x2.1.1, ()), ((x1.2.1.1, ()), ((), ((d.2.2.1.1, ()), ((x3, ()), (((0 : Int), ()), ())))))))
def c44 : List Nat := []
def L44 (k : Nat) : Pts po44.den := [(5, ⟨sh44_5, (f44_t k).1⟩), (11, ⟨sh44_11, (f44_t k).2.1⟩)]
def E44 : Env := ((E0.add 76 (typedSem pi76 po76 g76)).add 92 (typedSem pi92 po92 g92))
theorem q44_5 (k : Nat) (d : ((List Int) × Unit) × ((Int × Unit) × (Unit × (((List Int) × Unit) × ((Int × Unit) × ((Int × Unit) × Unit)))))) : evAt E44 (tab (L44 k)) c44 5 (bodyOf Try.f44) 0 (finK E44 po44 [.tmp 4]) (ptSt sh44_5 d) = f44_p5 (f44_t k) d := by kernel_rfl
theorem q44_11 (k : Nat) (d : ((List Int) × Unit) × ((Int × Unit) × (Unit × ((Int × Unit) × ((Int × Unit) × (((List Int) × Unit) × ((Int × Unit) × ((Int × Unit) × Unit)))))))) : evAt E44 (tab (L44 k)) c44 11 (bodyOf Try.f44) 0 (finK E44 po44 [.tmp 4]) (ptSt sh44_11 d) = f44_p11 (f44_t k) d := by kernel_rfl
theorem q44_m (k : Nat) (d : Unit × (((List Int) × Unit) × (((List Int) × Unit) × Unit))) : evCode E44 (tab (L44 k)) c44 (bodyOf Try.f44) 0 (finK E44 po44 [.tmp 4]) (startSt pi44 36 d) = f44_m (f44_t k) d := by kernel_rfl
theorem go44 (G : pi44.den → Option po44.den) (hG : ∀ d out, G d = some out → ∃ k, f44_m (f44_t k) d = some out) : FnOk Try.prog ET0 44 pi44 po44 G :=
  fn_of_body (E := E44) (envOk_add (envOk_add e0_ok (typed_ok ok76)) (typed_ok ok92)) (fn := Try.f44) Try.func44 (by kernel_rfl) (by kernel_rfl) [.tmp 4] (by kernel_rfl) (by kernel_rfl) (by decide) c44 L44
    (by intro x hx d; simp only [L44, List.mem_cons, List.not_mem_nil, or_false] at hx; rcases hx with rfl | rfl <;> first | (rfl) | (rfl))
    (by intro k x hx d out h; simp only [L44, List.mem_cons, List.not_mem_nil, or_false] at hx; rcases hx with rfl | rfl <;> first | (exact (q44_5 k d).trans h) | (exact (q44_11 k d).trans h))
    (by intro d out h; obtain ⟨k, hk⟩ := hG d out h; exact ⟨k, (q44_m k d).trans hk⟩)
def g44 (d : pi44.den) : Option po44.den := lim fun k => f44_m (f44_t k) d
theorem ok44 : FnOk Try.prog ET0 44 pi44 po44 g44 := go44 g44 fun d out h => lim_some h

/- horologe/octets.Size[uint64] -/
@[reducible] def pi74 : PSh := ⟨[], []⟩
@[reducible] def po74 : PSh := ⟨[], [.mk false [.v (.int .i64)]]⟩
@[reducible] def sh74_4 : PSh := ⟨[], [.any, .mk false [.v (.int .i64)], .mk false [.v (.int .u64)], .any, .any, .any, .any, .any, .any, .any, .any, .any]⟩
def f74_p4 (T : (((Unit × ((Int × Unit) × ((Int × Unit) × Unit))) → Option (Unit × ((Int × Unit) × Unit))) × Unit)) (d : Unit × ((Int × Unit) × ((Int × Unit) × Unit))) : Option (Unit × ((Int × Unit) × Unit)) :=
  let x3 : Bool := (decide (d.2.2.1.1 > (0 : Int)))
  bif x3 then (
  let x4 : Int := (iadd .i64 d.2.1.1 (1 : Int))
  let x5 : Int := (ishr .u64 d.2.2.1.1 (8 : Int))
  (T.1 ((), ((x4, ()), ((x5, ()), ())))))
  else (
  some ((), ((d.2.1.1, ()), ())))
def f74_t : Nat → (((Unit × ((Int × Unit) × ((Int × Unit) × Unit))) → Option (Unit × ((Int × Unit) × Unit))) × Unit)
  | 0 => (fun _ => none, ())
  | k + 1 => (f74_p4 (f74_t k), ())
theorem t74_s (k : Nat) : f74_t (k + 1) = (f74_p4 (f74_t k), ()) := rfl
def f74_m (T : (((Unit × ((Int × Unit) × ((Int × Unit) × Unit))) → Option (Unit × ((Int × Unit) × Unit))) × Unit)) (d : Unit × Unit) : Option (Unit × ((Int × Unit) × Unit)) :=
  let x1 : Int := (iconv .u64 (0 : Int))
  let x2 : Int := (inot .u64 x1)
  (T.1 ((), (((0 : Int), ()), ((x2, ()), ()))))
def c74 : List Nat := []
def L74 (k : Nat) : Pts po74.den := [(4, ⟨sh74_4, (f74_t k).1⟩)]
def E74 : Env := E0
theorem q74_4 (k : Nat) (d : Unit × ((Int × Unit) × ((Int × Unit) × Unit))) : evAt E74 (tab (L74 k)) c74 4 (bodyOf Try.f74) 0 (finK E74 po74 [.tmp 0]) (ptSt sh74_4 d) = f74_p4 (f74_t k) d := by kernel_rfl
theorem q74_m (k : Nat) (d : Unit × Unit) : evCode E74 (tab (L74 k)) c74 (bodyOf Try.f74) 0 (finK E74 po74 [.tmp 0]) (startSt pi74 12 d) = f74_m (f74_t k) d := by kernel_rfl
theorem go74 (G : pi74.den → Option po74.den) (hG : ∀ d out, G d = some out → ∃ k, f74_m (f74_t k) d = some out) : FnOk Try.prog ET0 74 pi74 po74 G :=
  fn_of_body (E := E74) e0_ok (fn := Try.f74) Try.func74 (by kernel_rfl) (by kernel_rfl) [.tmp 0] (by kernel_rfl) (by kernel_rfl) (by decide) c74 L74
    (by intro x hx d; simp only [L74, List.mem_cons, List.not_mem_nil, or_false] at hx; subst hx; rfl)
    (by intro k x hx d out h; simp only [L74, List.mem_cons, List.not_mem_nil, or_false] at hx; subst hx; exact (q74_4 k d).trans h)
    (by intro d out h; obtain ⟨k, hk⟩ := hG d out h; exact ⟨k, (q74_m k d).trans hk⟩)
def g74 (d : pi74.den) : Option po74.den := lim fun k => f74_m (f74_t k) d
theorem ok74 : FnOk Try.prog ET0 74 pi74 po74 g74 := go74 g74 fun d out h => lim_some h

/- horologe/horologelaw03.alive -/
@[reducible] def pi24 : PSh := ⟨[], []⟩
@[reducible] def po24 : PSh := ⟨[], [.mk false [.v .bool]]⟩
def f24_m (T : Unit) (d : Unit × Unit) : Option (Unit × ((Bool × Unit) × Unit)) :=
  let x1 : (List Int) := ([(258 : Int)] : List Int)
  (g44 ((), ((([] : List Int), ()), ((x1, ()), ())))).bind fun x2 =>
  let x3 : Int := (x2.1.1.length : Int)
  let x4 : Bool := (x3 == (2 : Int))
  bif x4 then (
  bif decide ((0 : Int) ≤ (0 : Int)) && decide ((0 : Int) < (x2.1.1.length : Int)) then (
  let x5 : Bool := ((gd (.int .u8) x2.1.1 (0 : Int)) == (1 : Int))
  bif x5 then (
  bif decide ((0 : Int) ≤ (1 : Int)) && decide ((1 : Int) < (x2.1.1.length : Int)) then (
  let x6 : Bool := ((gd (.int .u8) x2.1.1 (1 : Int)) == (2 : Int))
  bif x6 then (
  (g74 ((), ())).bind fun x7 =>
  let x8 : Bool := (x7.2.1.1 == (8 : Int))
  some ((), ((x8, ()), ())))
  else (
  some ((), ((false, ()), ()))))
  else none)
  else (
  some ((), ((false, ()), ()))))
  else none)
  else (
  some ((), ((false, ()), ())))
def c24 : List Nat := []
def L24 (_ : Nat) : Pts po24.den := []
def E24 : Env := ((E0.add 44 (typedSem pi44 po44 g44)).add 74 (typedSem pi74 po74 g74))
theorem q24_m (k : Nat) (d : Unit × Unit) : evCode E24 (tab (L24 k)) c24 (bodyOf Try.f24) 0 (finK E24 po24 [.tmp 0]) (startSt pi24 23 d) = f24_m () d := by kernel_rfl
def g24 (d : pi24.den) : Option po24.den := f24_m () d
theorem ok24 : FnOk Try.prog ET0 24 pi24 po24 g24 :=
  fn_of_body (E := E24) (envOk_add (envOk_add e0_ok (typed_ok ok44)) (typed_ok ok74)) (fn := Try.f24) Try.func24 (by kernel_rfl) (by kernel_rfl) [.tmp 0] (by kernel_rfl) (by kernel_rfl) (by decide) c24 L24
    (by intro x hx; cases hx) (by intro k x hx; cases hx) (fun d out h => ⟨0, (q24_m 0 d).trans h⟩)

/- horologe/octets.from -/
@[reducible] def pi75 : PSh := ⟨[], [.mk false [.v (.sl (.int .u8))], .mk false [.v (.int .i64)], .mk false [.v (.int .i64)]]⟩
@[reducible] def po75 : PSh := ⟨[], [.mk false [.v (.sl (.int .u8))], .mk false [.v .err]]⟩
def f75_m (T : Unit) (d : Unit × (((List Int) × Unit) × ((Int × Unit) × ((Int × Unit) × Unit)))) : Option (Unit × (((List Int) × Unit) × (((Option Int) × Unit) × Unit))) :=
  let x1 : Bool := (decide (d.2.2.1.1 < (0 : Int)))
  bif x1 then (
  let x2 : (Option Int) := (some (1 : Int))
  some ((), ((([] : List Int), ()), ((x2, ()), ()))))
  else (
  let x3 : Int := (d.2.1.1.length : Int)
  let x4 : Bool := (decide (d.2.2.1.1 > x3))
  bif x4 then (
  let x5 : (Option Int) := (some (1 : Int))
  some ((), ((([] : List Int), ()), ((x5, ()), ()))))
  else (
  let x6 : Bool := (decide (d.2.2.2.1.1 < (0 : Int)))
  bif x6 then (
  let x7 : (Option Int) := (some (1 : Int))
  some ((), ((([] : List Int), ()), ((x7, ()), ()))))
  else (
  let x8 : Int := (d.2.1.1.length : Int)
  let x9 : Int := (isub .i64 x8 d.2.2.1.1)
  let x10 : Bool := (decide (d.2.2.2.1.1 > x9))
  bif x10 then (
  let x11 : (Option Int) := (some (4 : Int))
  some ((), ((([] : List Int), ()), ((x11, ()), ()))))
  else (
  let x12 : Int := (iadd .i64 d.2.2.1.1 d.2.2.2.1.1)
  bif decide ((0 : Int) ≤ d.2.2.1.1) && decide (d.2.2.1.1 ≤ x12) && decide (x12 ≤ (d.2.1.1.length : Int)) then (
  let x13 : (List Int) := (List.drop (Int.toNat d.2.2.1.1) (List.take (Int.toNat x12) d.2.1.1))
  some ((), ((x13, ()), (((none : Option Int), ()), ()))))
  else none))))
def c75 : List Nat := []
def L75 (_ : Nat) : Pts po75.den := []
def E75 : Env := E0
theorem q75_m (k : Nat) (d : Unit × (((List Int) × Unit) × ((Int × Unit) × ((Int × Unit) × Unit)))) : evCode E75 (tab (L75 k)) c75 (bodyOf Try.f75) 0 (finK E75 po75 [.tmp 6, .tmp 7]) (startSt pi75 36 d) = f75_m () d := by kernel_rfl
def g75 (d : pi75.den) : Option po75.den := f75_m () d
theorem ok75 : FnOk Try.prog ET0 75 pi75 po75 g75 :=
  fn_of_body (E := E75) e0_ok (fn := Try.f75) Try.func75 (by kernel_rfl) (by kernel_rfl) [.tmp 6, .tmp 7] (by kernel_rfl) (by kernel_rfl) (by decide) c75 L75
    (by intro x hx; cases hx) (by intro k x hx; cases hx) (fun d out h => ⟨0, (q75_m 0 d).trans h⟩)

/- horologe/octets.Cut -/
@[reducible] def pi25 : PSh := ⟨[], [.mk false [.v (.sl (.int .u8))], .mk false [.v (.int .i64)], .mk false [.v (.int .i64)]]⟩
@[reducible] def po25 : PSh := ⟨[.row 5 (.int .u8)], [.mk false [.osl 0], .mk false [.v .err]]⟩
def f25_m (T : Unit) (d : Unit × (((List Int) × Unit) × ((Int × Unit) × ((Int × Unit) × Unit)))) : Option (((List Int) × Unit) × (Unit × (((Option Int) × Unit) × Unit))) :=
  (g75 ((), ((d.2.1.1, ()), ((d.2.2.1.1, ()), ((d.2.2.2.1.1, ()), ()))))).bind fun x1 =>
  let x2 : Bool := (!x1.2.2.1.1.isNone)
  bif x2 then (
  some ((([] : List Int), ()), ((), ((x1.2.2.1.1, ()), ()))))
  else (
  (g76 ((), ((x1.2.1.1, ()), ()))).bind fun x3 =>
  some ((x3.1.1, ()), ((), (((none : Option Int), ()), ()))))
def c25 : List Nat := []
def L25 (_ : Nat) : Pts po25.den := []
def E25 : Env := ((E0.add 75 (typedSem pi75 po75 g75)).add 76 (typedSem pi76 po76 g76))
theorem q25_m (k : Nat) (d : Unit × (((List Int) × Unit) × ((Int × Unit) × ((Int × Unit) × Unit)))) : evCode E25 (tab (L25 k)) c25 (bodyOf Try.f25) 0 (finK E25 po25 [.tmp 6, .tmp 7]) (startSt pi25 22 d) = f25_m () d := by kernel_rfl
def g25 (d : pi25.den) : Option po25.den := f25_m () d
theorem ok25 : FnOk Try.prog ET0 25 pi25 po25 g25 :=
  fn_of_body (E := E25) (envOk_add (envOk_add e0_ok (typed_ok ok75)) (typed_ok ok76)) (fn := Try.f25) Try.func25 (by kernel_rfl) (by kernel_rfl) [.tmp 6, .tmp 7] (by kernel_rfl) (by kernel_rfl) (by decide) c25 L25
    (by intro x hx; cases hx) (by intro k x hx; cases hx) (fun d out h => ⟨0, (q25_m 0 d).trans h⟩)

/- horologe/horologeref03.Part -/
@[reducible] def pi26 : PSh := ⟨[], [.mk false [.v (.sl (.int .u8))], .mk false [.v (.int .i64)], .mk false [.v (.int .i64)]]⟩
@[reducible] def po26 : PSh := ⟨[], [.mk false [.v (.sl (.int .u8))], .mk false [.v (.int .i64)]]⟩
def f26_m (T : Unit) (d : Unit × (((List Int) × Unit) × ((Int × Unit) × ((Int × Unit) × Unit)))) : Option (Unit × (((List Int) × Unit) × ((Int × Unit) × Unit))) :=
  let x1 : Bool := (decide (d.2.2.1.1 < (0 : Int)))
  bif x1 then (
  some ((), ((([] : List Int), ()), (((1 : Int), ()), ()))))
  else (
  let x2 : Bool := (decide (d.2.2.2.1.1 < (0 : Int)))
  bif x2 then (
  some ((), ((([] : List Int), ()), (((1 : Int), ()), ()))))
  else (
  let x3 : Int := (d.2.1.1.length : Int)
  let x4 : Bool := (decide (d.2.2.1.1 > x3))
  bif x4 then (
  some ((), ((([] : List Int), ()), (((1 : Int), ()), ()))))
  else (
  bif decide ((0 : Int) ≤ d.2.2.1.1) && decide (d.2.2.1.1 ≤ (d.2.1.1.length : Int)) && decide ((d.2.1.1.length : Int) ≤ (d.2.1.1.length : Int)) then (
  let x5 : (List Int) := (List.drop (Int.toNat d.2.2.1.1) (List.take (Int.toNat (d.2.1.1.length : Int)) d.2.1.1))
  let x6 : Int := (x5.length : Int)
  let x7 : Bool := (decide (d.2.2.2.1.1 > x6))
  bif x7 then (
  some ((), ((([] : List Int), ()), (((4 : Int), ()), ()))))
  else (
  bif decide ((0 : Int) ≤ (0 : Int)) && decide ((0 : Int) ≤ d.2.2.2.1.1) && decide (d.2.2.2.1.1 ≤ (x5.length : Int)) then (
  let x8 : (List Int) := (List.drop (Int.toNat (0 : Int)) (List.take (Int.toNat d.2.2.2.1.1) x5))
  some ((), ((x8, ()), (((0 : Int), ()), ()))))
  else none))
  else none)))
def c26 : List Nat := []
def L26 (_ : Nat) : Pts po26.den := []
def E26 : Env := E0
theorem q26_m (k : Nat) (d : Unit × (((List Int) × Unit) × ((Int × Unit) × ((Int × Unit) × Unit)))) : evCode E26 (tab (L26 k)) c26 (bodyOf Try.f26) 0 (finK E26 po26 [.tmp 6, .tmp 7]) (startSt pi26 29 d) = f26_m () d := by kernel_rfl
def g26 (d : pi26.den) : Option po26.den := f26_m () d
theorem ok26 : FnOk Try.prog ET0 26 pi26 po26 g26 :=
  fn_of_body (E := E26) e0_ok (fn := Try.f26) Try.func26 (by kernel_rfl) (by kernel_rfl) [.tmp 6, .tmp 7] (by kernel_rfl) (by kernel_rfl) (by decide) c26 L26
    (by intro x hx; cases hx) (by intro k x hx; cases hx) (fun d out h => ⟨0, (q26_m 0 d).trans h⟩)

/- horologe/horologenum.Bytes -/
@[reducible] def pi28 : PSh := ⟨[], [.mk false [.v (.sl (.int .u8))], .mk false [.v (.sl (.int .u8))]]⟩
@[reducible] def po28 : PSh := ⟨[], [.mk false [.v .bool]]⟩
def f28_m (T : Unit) (d : Unit × (((List Int) × Unit) × (((List Int) × Unit) × Unit))) : Option (Unit × ((Bool × Unit) × Unit)) :=
  let x1 : ByteArray := (strOf d.2.1.1)
  let x2 : ByteArray := (strOf d.2.2.1.1)
  let x3 : Bool := (x1.toList == x2.toList)
  some ((), ((x3, ()), ()))
def c28 : List Nat := []
def L28 (_ : Nat) : Pts po28.den := []
def E28 : Env := E0
theorem q28_m (k : Nat) (d : Unit × (((List Int) × Unit) × (((List Int) × Unit) × Unit))) : evCode E28 (tab (L28 k)) c28 (bodyOf Try.f28) 0 (finK E28 po28 [.tmp 4]) (startSt pi28 10 d) = f28_m () d := by kernel_rfl
def g28 (d : pi28.den) : Option po28.den := f28_m () d
theorem ok28 : FnOk Try.prog ET0 28 pi28 po28 g28 :=
  fn_of_body (E := E28) e0_ok (fn := Try.f28) Try.func28 (by kernel_rfl) (by kernel_rfl) [.tmp 4] (by kernel_rfl) (by kernel_rfl) (by decide) c28 L28
    (by intro x hx; cases hx) (by intro k x hx; cases hx) (fun d out h => ⟨0, (q28_m 0 d).trans h⟩)

/- horologe/horologelaw03.OctetsCuts -/
@[reducible] def pi4 : PSh := ⟨[], [.mk false [.v (.sl (.int .u8))], .mk false [.v (.int .i64)], .mk false [.v (.int .i64)]]⟩
@[reducible] def po4 : PSh := ⟨[], [.mk false [.v .bool]]⟩
@[reducible] def sh4_15 : PSh := ⟨[.row 5 (.int .u8), .row 5 (.int .u8)], [.mk false [.v (.sl (.int .u8))], .any, .any, .any, .any, .any, .any, .mk false [.osl 0], .mk false [.osl 1], .any, .any, .any, .any, .any, .any, .any, .any, .any, .any, .any, .any, .any, .any, .any, .any, .any, .any, .any, .any, .any, .any, .any, .any, .any, .any, .any, .any, .any, .any, .any, .any, .any, .any, .any, .any, .any, .mk false [.v (.int .i64)], .mk false [.v (.int .i64)], .any, .any, .any, .any, .any, .any, .any, .any, .any, .any, .any, .any]⟩
def f4_p15 (T : (((((List Int) × ((List Int) × Unit)) × (((List Int) × Unit) × (Unit × (Unit × ((Int × Unit) × ((Int × Unit) × Unit)))))) → Option (Unit × ((Bool × Unit) × Unit))) × Unit)) (d : ((List Int) × ((List Int) × Unit)) × (((List Int) × Unit) × (Unit × (Unit × ((Int × Unit) × ((Int × Unit) × Unit)))))) : Option (Unit × ((Bool × Unit) × Unit)) :=
  let x14 : Bool := (decide (d.2.2.2.2.2.1.1 < d.2.2.2.2.1.1))
  bif x14 then (
  bif decide ((0 : Int) ≤ d.2.2.2.2.2.1.1) && decide (d.2.2.2.2.2.1.1 < (d.1.2.1.length : Int)) then (
  let x15 : Int := (ixor .u8 (gd (.int .u8) d.1.2.1 d.2.2.2.2.2.1.1) (1 : Int))
  bif decide ((0 : Int) ≤ d.2.2.2.2.2.1.1) && decide (d.2.2.2.2.2.1.1 < (d.1.2.1.length : Int)) then (
  let x16 : (List Int) := (List.set d.1.2.1 (Int.toNat d.2.2.2.2.2.1.1) x15)
  let x17 : Int := (iadd .i64 d.2.2.2.2.2.1.1 (1 : Int))
  (T.1 ((d.1.1, (x16, ())), ((d.2.1.1, ()), ((), ((), ((d.2.2.2.2.1.1, ()), ((x17, ()), ()))))))))
  else none)
  else none)
  else (
  (g28 ((), ((d.1.1, ()), ((d.2.1.1, ()), ())))).bind fun x18 =>
  some ((), ((x18.2.1.1, ()), ())))
def f4_t : Nat → (((((List Int) × ((List Int) × Unit)) × (((List Int) × Unit) × (Unit × (Unit × ((Int × Unit) × ((Int × Unit) × Unit)))))) → Option (Unit × ((Bool × Unit) × Unit))) × Unit)
  | 0 => (fun _ => none, ())
  | k + 1 => (f4_p15 (f4_t k), ())
theorem t4_s (k : Nat) : f4_t (k + 1) = (f4_p15 (f4_t k), ()) := rfl
def f4_m (T : (((((List Int) × ((List Int) × Unit)) × (((List Int) × Unit) × (Unit × (Unit × ((Int × Unit) × ((Int × Unit) × Unit)))))) → Option (Unit × ((Bool × Unit) × Unit))) × Unit)) (d : Unit × (((List Int) × Unit) × ((Int × Unit) × ((Int × Unit) × Unit)))) : Option (Unit × ((Bool × Unit) × Unit)) :=
  (g24 ((), ())).bind fun x1 =>
  let x2 : Bool := (!x1.2.1.1)
  bif x2 then (
  some ((), ((false, ()), ())))
  else (
  let x3 : Int := (d.2.1.1.length : Int)
  let x4 : Bool := (decide (x3 > (300 : Int)))
  bif x4 then (
  some ((), ((true, ()), ())))
  else (
  let x5 : (List Int) := ([] : List Int)
  bif decide (((x5.length + d.2.1.1.length) * 1 : Nat) ≤ 140737488355328) && decide (x5.length + d.2.1.1.length ≤ 9223372036854775807) then (
  let x6 : (List Int) := (x5 ++ d.2.1.1)
  (g25 ((), ((x6, ()), ((d.2.2.1.1, ()), ((d.2.2.2.1.1, ()), ()))))).bind fun x7 =>
  (g26 ((), ((d.2.1.1, ()), ((d.2.2.1.1, ()), ((d.2.2.2.1.1, ()), ()))))).bind fun x8 =>
  (g27 ((), ((x7.2.2.1.1, ()), ()))).bind fun x9 =>
  let x10 : Bool := (x9.2.1.1 != x8.2.2.1.1)
  bif x10 then (
  some ((), ((false, ()), ())))
  else (
  (g28 ((), ((x7.1.1, ()), ((x8.2.1.1, ()), ())))).bind fun x11 =>
  let x12 : Bool := (!x11.2.1.1)
  bif x12 then (
  some ((), ((false, ()), ())))
  else (
  let x13 : Int := (x7.1.1.length : Int)
  (T.1 ((x6, (x7.1.1, ())), ((d.2.1.1, ()), ((), ((), ((x13, ()), (((0 : Int), ()), ()))))))))))
  else none))
def c4 : List Nat := []
def L4 (k : Nat) : Pts po4.den := [(15, ⟨sh4_15, (f4_t k).1⟩)]
def E4 : Env := (((((E0.add 24 (typedSem pi24 po24 g24)).add 25 (typedSem pi25 po25 g25)).add 26 (typedSem pi26 po26 g26)).add 27 (typedSem pi27 po27 g27)).add 28 (typedSem pi28 po28 g28))
theorem q4_15 (k : Nat) (d : ((List Int) × ((List Int) × Unit)) × (((List Int) × Unit) × (Unit × (Unit × ((Int × Unit) × ((Int × Unit) × Unit)))))) : evAt E4 (tab (L4 k)) c4 15 (bodyOf Try.f4) 0 (finK E4 po4 [.tmp 6]) (ptSt sh4_15 d) = f4_p15 (f4_t k) d := by kernel_rfl
theorem q4_m (k : Nat) (d : Unit × (((List Int) × Unit) × ((Int × Unit) × ((Int × Unit) × Unit)))) : evCode E4 (tab (L4 k)) c4 (bodyOf Try.f4) 0 (finK E4 po4 [.tmp 6]) (startSt pi4 60 d) = f4_m (f4_t k) d := by kernel_rfl
theorem go4 (G : pi4.den → Option po4.den) (hG : ∀ d out, G d = some out → ∃ k, f4_m (f4_t k) d = some out) : FnOk Try.prog ET0 4 pi4 po4 G :=
  fn_of_body (E := E4) (envOk_add (envOk_add (envOk_add (envOk_add (envOk_add e0_ok (typed_ok ok24)) (typed_ok ok25)) (typed_ok ok26)) (typed_ok ok27)) (typed_ok ok28)) (fn := Try.f4) Try.func4 (by kernel_rfl) (by kernel_rfl) [.tmp 6] (by kernel_rfl) (by kernel_rfl) (by decide) c4 L4
    (by intro x hx d; simp only [L4, List.mem_cons, List.not_mem_nil, or_false] at hx; subst hx; rfl)
    (by intro k x hx d out h; simp only [L4, List.mem_cons, List.not_mem_nil, or_false] at hx; subst hx; exact (q4_15 k d).trans h)
    (by intro d out h; obtain ⟨k, hk⟩ := hG d out h; exact ⟨k, (q4_m k d).trans hk⟩)
def g4 (d : pi4.den) : Option po4.den := lim fun k => f4_m (f4_t k) d
theorem ok4 : FnOk Try.prog ET0 4 pi4 po4 g4 := go4 g4 fun d out h => lim_some h

/- horologe/era.Fold[uint32] -/
@[reducible] def pi77 : PSh := ⟨[], [.mk false [.v (.int .i64)]]⟩
@[reducible] def po77 : PSh := ⟨[], [.mk false [.v (.int .u32)]]⟩
def f77_m (T : Unit) (d : Unit × ((Int × Unit) × Unit)) : Option (Unit × ((Int × Unit) × Unit)) :=
  let x1 : Int := (iconv .u32 d.2.1.1)
  some ((), ((x1, ()), ()))
def c77 : List Nat := []
def L77 (_ : Nat) : Pts po77.den := []
def E77 : Env := E0
theorem q77_m (k : Nat) (d : Unit × ((Int × Unit) × Unit)) : evCode E77 (tab (L77 k)) c77 (bodyOf Try.f77) 0 (finK E77 po77 [.tmp 2]) (startSt pi77 5 d) = f77_m () d := by kernel_rfl
def g77 (d : pi77.den) : Option po77.den := f77_m () d
theorem ok77 : FnOk Try.prog ET0 77 pi77 po77 g77 :=
  fn_of_body (E := E77) e0_ok (fn := Try.f77) Try.func77 (by kernel_rfl) (by kernel_rfl) [.tmp 2] (by kernel_rfl) (by kernel_rfl) (by decide) c77 L77
    (by intro x hx; cases hx) (by intro k x hx; cases hx) (fun d out h => ⟨0, (q77_m 0 d).trans h⟩)

/- horologe/stamp.Of -/
@[reducible] def pi29 : PSh := ⟨[], [.mk false [.v (.int .i64)], .mk false [.v (.int .i64)]]⟩
@[reducible] def po29 : PSh := ⟨[], [.mk true [.v (.int .u32), .v (.int .u32)], .mk false [.v .err]]⟩
def f29_m (T : Unit) (d : Unit × ((Int × Unit) × ((Int × Unit) × Unit))) : Option (Unit × ((Int × (Int × Unit)) × (((Option Int) × Unit) × Unit))) :=
  (g19 ((), ((d.2.2.1.1, ()), ()))).bind fun x1 =>
  let x2 : Bool := (!x1.2.2.1.1.isNone)
  bif x2 then (
  some ((), (((0 : Int), ((0 : Int), ())), ((x1.2.2.1.1, ()), ()))))
  else (
  (g77 ((), ((d.2.1.1, ()), ()))).bind fun x3 =>
  some ((), ((x3.2.1.1, (x1.2.1.1, ())), (((none : Option Int), ()), ()))))
def c29 : List Nat := []
def L29 (_ : Nat) : Pts po29.den := []
def E29 : Env := ((E0.add 19 (typedSem pi19 po19 g19)).add 77 (typedSem pi77 po77 g77))
theorem q29_m (k : Nat) (d : Unit × ((Int × Unit) × ((Int × Unit) × Unit))) : evCode E29 (tab (L29 k)) c29 (bodyOf Try.f29) 0 (finK E29 po29 [.cell 4 51, .tmp 5]) (startSt pi29 21 d) = f29_m () d := by kernel_rfl
def g29 (d : pi29.den) : Option po29.den := f29_m () d
theorem ok29 : FnOk Try.prog ET0 29 pi29 po29 g29 :=
  fn_of_body (E := E29) (envOk_add (envOk_add e0_ok (typed_ok ok19)) (typed_ok ok77)) (fn := Try.f29) Try.func29 (by kernel_rfl) (by kernel_rfl) [.cell 4 51, .tmp 5] (by kernel_rfl) (by kernel_rfl) (by decide) c29 L29
    (by intro x hx; cases hx) (by intro k x hx; cases hx) (fun d out h => ⟨0, (q29_m 0 d).trans h⟩)

/- horologe/horologeref13.Fold -/
@[reducible] def pi30 : PSh := ⟨[], [.mk false [.v (.int .i64)], .mk false [.v (.int .i64)]]⟩
@[reducible] def po30 : PSh := ⟨[], [.mk false [.v (.int .i64)]]⟩
@[reducible] def sh30_4 : PSh := ⟨[], [.mk false [.v (.int .i64)], .mk false [.v (.int .i64)], .any, .any, .any, .mk false [.v (.int .i64)], .mk false [.v (.int .i64)], .any, .any, .any, .any, .any, .any, .any, .any, .any, .any, .any, .any, .any, .any, .any, .any, .any]⟩
def f30_p4 (T : (((Unit × ((Int × Unit) × ((Int × Unit) × ((Int × Unit) × ((Int × Unit) × Unit))))) → Option (Unit × ((Int × Unit) × Unit))) × Unit)) (d : Unit × ((Int × Unit) × ((Int × Unit) × ((Int × Unit) × ((Int × Unit) × Unit))))) : Option (Unit × ((Int × Unit) × Unit)) :=
  let x1 : Bool := (decide (d.2.2.2.2.1.1 < d.2.2.1.1))
  bif x1 then (
  let x2 : Int := (imul .i64 d.2.2.2.1.1 (2 : Int))
  let x3 : Int := (iadd .i64 d.2.2.2.2.1.1 (1 : Int))
  (T.1 ((), ((d.2.1.1, ()), ((d.2.2.1.1, ()), ((x2, ()), ((x3, ()), ())))))))
  else (
  bif (d.2.2.2.1.1 == 0) then (
  none)
  else (
  let x4 : Int := (Int.tmod d.2.1.1 d.2.2.2.1.1)
  let x5 : Bool := (decide (x4 < (0 : Int)))
  bif x5 then (
  let x6 : Int := (iadd .i64 x4 d.2.2.2.1.1)
  some ((), ((x6, ()), ())))
  else (
  some ((), ((x4, ()), ())))))
def f30_t : Nat → (((Unit × ((Int × Unit) × ((Int × Unit) × ((Int × Unit) × ((Int × Unit) × Unit))))) → Option (Unit × ((Int × Unit) × Unit))) × Unit)
  | 0 => (fun _ => none, ())
  | k + 1 => (f30_p4 (f30_t k), ())
theorem t30_s (k : Nat) : f30_t (k + 1) = (f30_p4 (f30_t k), ()) := rfl
def f30_m (T : (((Unit × ((Int × Unit) × ((Int × Unit) × ((Int × Unit) × ((Int × Unit) × Unit))))) → Option (Unit × ((Int × Unit) × Unit))) × Unit)) (d : Unit × ((Int × Unit) × ((Int × Unit) × Unit))) : Option (Unit × ((Int × Unit) × Unit)) :=
  (T.1 ((), ((d.2.1.1, ()), ((d.2.2.1.1, ()), (((1 : Int), ()), (((0 : Int), ()), ()))))))
def c30 : List Nat := []
def L30 (k : Nat) : Pts po30.den := [(4, ⟨sh30_4, (f30_t k).1⟩)]
def E30 : Env := E0
theorem q30_4 (k : Nat) (d : Unit × ((Int × Unit) × ((Int × Unit) × ((Int × Unit) × ((Int × Unit) × Unit))))) : evAt E30 (tab (L30 k)) c30 4 (bodyOf Try.f30) 0 (finK E30 po30 [.tmp 4]) (ptSt sh30_4 d) = f30_p4 (f30_t k) d := by kernel_rfl
theorem q30_m (k : Nat) (d : Unit × ((Int × Unit) × ((Int × Unit) × Unit))) : evCode E30 (tab (L30 k)) c30 (bodyOf Try.f30) 0 (finK E30 po30 [.tmp 4]) (startSt pi30 24 d) = f30_m (f30_t k) d := by kernel_rfl
theorem go30 (G : pi30.den → Option po30.den) (hG : ∀ d out, G d = some out → ∃ k, f30_m (f30_t k) d = some out) : FnOk Try.prog ET0 30 pi30 po30 G :=
  fn_of_body (E := E30) e0_ok (fn := Try.f30) Try.func30 (by kernel_rfl) (by kernel_rfl) [.tmp 4] (by kernel_rfl) (by kernel_rfl) (by decide) c30 L30
    (by intro x hx d; simp only [L30, List.mem_cons, List.not_mem_nil, or_false] at hx; subst hx; rfl)
    (by intro k x hx d out h; simp only [L30, List.mem_cons, List.not_mem_nil, or_false] at hx; subst hx; exact (q30_4 k d).trans h)
    (by intro d out h; obtain ⟨k, hk⟩ := hG d out h; exact ⟨k, (q30_m k d).trans hk⟩)
def g30 (d : pi30.den) : Option po30.den := lim fun k => f30_m (f30_t k) d
theorem ok30 : FnOk Try.prog ET0 30 pi30 po30 g30 := go30 g30 fun d out h => lim_some h

/- horologe/octets.Size[uint32] -/
@[reducible] def pi91 : PSh := ⟨[], []⟩
@[reducible] def po91 : PSh := ⟨[], [.mk false [.v (.int .i64)]]⟩
@[reducible] def sh91_4 : PSh := ⟨[], [.any, .mk false [.v (.int .i64)], .mk false [.v (.int .u32)], .any, .any, .any, .any, .any, .any, .any, .any, .any, .any, .any]⟩
def f91_p4 (T : (((Unit × ((Int × Unit) × ((Int × Unit) × Unit))) → Option (Unit × ((Int × Unit) × Unit))) × Unit)) (d : Unit × ((Int × Unit) × ((Int × Unit) × Unit))) : Option (Unit × ((Int × Unit) × Unit)) :=
  let x3 : Bool := (decide (d.2.2.1.1 > (0 : Int)))
  bif x3 then (
  let x4 : Int := (iadd .i64 d.2.1.1 (1 : Int))
  let x5 : Int := (iconv .u64 d.2.2.1.1)
  let x6 : Int := (ishr .u64 x5 (8 : Int))
  let x7 : Int := (iconv .u32 x6)
  (T.1 ((), ((x4, ()), ((x7, ()), ())))))
  else (
  some ((), ((d.2.1.1, ()), ())))
def f91_t : Nat → (((Unit × ((Int × Unit) × ((Int × Unit) × Unit))) → Option (Unit × ((Int × Unit) × Unit))) × Unit)
  | 0 => (fun _ => none, ())
  | k + 1 => (f91_p4 (f91_t k), ())
theorem t91_s (k : Nat) : f91_t (k + 1) = (f91_p4 (f91_t k), ()) := rfl
def f91_m (T : (((Unit × ((Int × Unit) × ((Int × Unit) × Unit))) → Option (Unit × ((Int × Unit) × Unit))) × Unit)) (d : Unit × Unit) : Option (Unit × ((Int × Unit) × Unit)) :=
  let x1 : Int := (iconv .u32 (0 : Int))
  let x2 : Int := (inot .u32 x1)
  (T.1 ((), (((0 : Int), ()), ((x2, ()), ()))))
def c91 : List Nat := []
def L91 (k : Nat) : Pts po91.den := [(4, ⟨sh91_4, (f91_t k).1⟩)]
def E91 : Env := E0
theorem q91_4 (k : Nat) (d : Unit × ((Int × Unit) × ((Int × Unit) × Unit))) : evAt E91 (tab (L91 k)) c91 4 (bodyOf Try.f91) 0 (finK E91 po91 [.tmp 0]) (ptSt sh91_4 d) = f91_p4 (f91_t k) d := by kernel_rfl
theorem q91_m (k : Nat) (d : Unit × Unit) : evCode E91 (tab (L91 k)) c91 (bodyOf Try.f91) 0 (finK E91 po91 [.tmp 0]) (startSt pi91 14 d) = f91_m (f91_t k) d := by kernel_rfl
theorem go91 (G : pi91.den → Option po91.den) (hG : ∀ d out, G d = some out → ∃ k, f91_m (f91_t k) d = some out) : FnOk Try.prog ET0 91 pi91 po91 G :=
  fn_of_body (E := E91) e0_ok (fn := Try.f91) Try.func91 (by kernel_rfl) (by kernel_rfl) [.tmp 0] (by kernel_rfl) (by kernel_rfl) (by decide) c91 L91
    (by intro x hx d; simp only [L91, List.mem_cons, List.not_mem_nil, or_false] at hx; subst hx; rfl)
    (by intro k x hx d out h; simp only [L91, List.mem_cons, List.not_mem_nil, or_false] at hx; subst hx; exact (q91_4 k d).trans h)
    (by intro d out h; obtain ⟨k, hk⟩ := hG d out h; exact ⟨k, (q91_m k d).trans hk⟩)
def g91 (d : pi91.den) : Option po91.den := lim fun k => f91_m (f91_t k) d
theorem ok91 : FnOk Try.prog ET0 91 pi91 po91 g91 := go91 g91 fun d out h => lim_some h

/- horologe/num.Add -/
@[reducible] def pi85 : PSh := ⟨[], [.mk false [.v (.int .i64)], .mk false [.v (.int .i64)]]⟩
@[reducible] def po85 : PSh := ⟨[], [.mk false [.v (.int .i64)], .mk false [.v .err]]⟩
def f85_m (T : Unit) (d : Unit × ((Int × Unit) × ((Int × Unit) × Unit))) : Option (Unit × ((Int × Unit) × (((Option Int) × Unit) × Unit))) :=
  let x1 : Int := (iadd .i64 d.2.1.1 d.2.2.1.1)
  let x2 : Bool := (decide (d.2.2.1.1 > (0 : Int)))
  bif x2 then (
  let x3 : Bool := (decide (x1 < d.2.1.1))
  bif x3 then (
  let x4 : (Option Int) := (some (5 : Int))
  some ((), (((0 : Int), ()), ((x4, ()), ()))))
  else (
  let x5 : Bool := (decide (d.2.2.1.1 < (0 : Int)))
  bif x5 then (
  let x6 : Bool := (decide (x1 > d.2.1.1))
  bif x6 then (
  let x7 : (Option Int) := (some (5 : Int))
  some ((), (((0 : Int), ()), ((x7, ()), ()))))
  else (
  some ((), ((x1, ()), (((none : Option Int), ()), ())))))
  else (
  some ((), ((x1, ()), (((none : Option Int), ()), ()))))))
  else (
  let x8 : Bool := (decide (d.2.2.1.1 < (0 : Int)))
  bif x8 then (
  let x9 : Bool := (decide (x1 > d.2.1.1))
  bif x9 then (
  let x10 : (Option Int) := (some (5 : Int))
  some ((), (((0 : Int), ()), ((x10, ()), ()))))
  else (
  some ((), ((x1, ()), (((none : Option Int), ()), ())))))
  else (
  some ((), ((x1, ()), (((none : Option Int), ()), ())))))
def c85 : List Nat := []
def L85 (_ : Nat) : Pts po85.den := []
def E85 : Env := E0
theorem q85_m (k : Nat) (d : Unit × ((Int × Unit) × ((Int × Unit) × Unit))) : evCode E85 (tab (L85 k)) c85 (bodyOf Try.f85) 0 (finK E85 po85 [.tmp 4, .tmp 5]) (startSt pi85 28 d) = f85_m () d := by kernel_rfl
def g85 (d : pi85.den) : Option po85.den := f85_m () d
theorem ok85 : FnOk Try.prog ET0 85 pi85 po85 g85 :=
  fn_of_body (E := E85) e0_ok (fn := Try.f85) Try.func85 (by kernel_rfl) (by kernel_rfl) [.tmp 4, .tmp 5] (by kernel_rfl) (by kernel_rfl) (by decide) c85 L85
    (by intro x hx; cases hx) (by intro k x hx; cases hx) (fun d out h => ⟨0, (q85_m 0 d).trans h⟩)

/- horologe/era.right -/
@[reducible] def pi127 : PSh := ⟨[], [.mk false [.v (.int .i64)]]⟩
@[reducible] def po127 : PSh := ⟨[], [.mk false [.v .bool]]⟩
def f127_m (T : Unit) (d : Unit × ((Int × Unit) × Unit)) : Option (Unit × ((Bool × Unit) × Unit)) :=
  let x1 : Bool := (decide (d.2.1.1 ≥ (1 : Int)))
  bif x1 then (
  let x2 : Bool := (decide (d.2.1.1 ≤ (62 : Int)))
  some ((), ((x2, ()), ())))
  else (
  some ((), ((false, ()), ())))
def c127 : List Nat := []
def L127 (_ : Nat) : Pts po127.den := []
def E127 : Env := E0
theorem q127_m (k : Nat) (d : Unit × ((Int × Unit) × Unit)) : evCode E127 (tab (L127 k)) c127 (bodyOf Try.f127) 0 (finK E127 po127 [.tmp 2]) (startSt pi127 9 d) = f127_m () d := by kernel_rfl
def g127 (d : pi127.den) : Option po127.den := f127_m () d
theorem ok127 : FnOk Try.prog ET0 127 pi127 po127 g127 :=
  fn_of_body (E := E127) e0_ok (fn := Try.f127) Try.func127 (by kernel_rfl) (by kernel_rfl) [.tmp 2] (by kernel_rfl) (by kernel_rfl) (by decide) c127 L127
    (by intro x hx; cases hx) (by intro k x hx; cases hx) (fun d out h => ⟨0, (q127_m 0 d).trans h⟩)

/- horologe/era.mask -/
@[reducible] def pi128 : PSh := ⟨[], [.mk false [.v (.int .i64)]]⟩
@[reducible] def po128 : PSh := ⟨[], [.mk false [.v (.int .u64)]]⟩
def f128_m (T : Unit) (d : Unit × ((Int × Unit) × Unit)) : Option (Unit × ((Int × Unit) × Unit)) :=
  bif decide (d.2.1.1 < 0) then (
  none)
  else (
  let x1 : Int := (ishl .u64 (1 : Int) d.2.1.1)
  let x2 : Int := (isub .u64 x1 (1 : Int))
  some ((), ((x2, ()), ())))
def c128 : List Nat := []
def L128 (_ : Nat) : Pts po128.den := []
def E128 : Env := E0
theorem q128_m (k : Nat) (d : Unit × ((Int × Unit) × Unit)) : evCode E128 (tab (L128 k)) c128 (bodyOf Try.f128) 0 (finK E128 po128 [.tmp 2]) (startSt pi128 6 d) = f128_m () d := by kernel_rfl
def g128 (d : pi128.den) : Option po128.den := f128_m () d
theorem ok128 : FnOk Try.prog ET0 128 pi128 po128 g128 :=
  fn_of_body (E := E128) e0_ok (fn := Try.f128) Try.func128 (by kernel_rfl) (by kernel_rfl) [.tmp 2] (by kernel_rfl) (by kernel_rfl) (by decide) c128 L128
    (by intro x hx; cases hx) (by intro k x hx; cases hx) (fun d out h => ⟨0, (q128_m 0 d).trans h⟩)

/- horologe/era.Bits -/
@[reducible] def pi116 : PSh := ⟨[], [.mk false [.v (.int .u64)], .mk false [.v (.int .i64)], .mk false [.v (.int .i64)]]⟩
@[reducible] def po116 : PSh := ⟨[], [.mk false [.v (.int .i64)], .mk false [.v .err]]⟩
def f116_m (T : Unit) (d : Unit × ((Int × Unit) × ((Int × Unit) × ((Int × Unit) × Unit)))) : Option (Unit × ((Int × Unit) × (((Option Int) × Unit) × Unit))) :=
  (g127 ((), ((d.2.2.1.1, ()), ()))).bind fun x1 =>
  let x2 : Bool := (!x1.2.1.1)
  bif x2 then (
  let x3 : (Option Int) := (some (1 : Int))
  some ((), (((0 : Int), ()), ((x3, ()), ()))))
  else (
  (g128 ((), ((d.2.2.1.1, ()), ()))).bind fun x4 =>
  let x5 : Bool := (decide (d.2.1.1 > x4.2.1.1))
  bif x5 then (
  let x6 : (Option Int) := (some (1 : Int))
  some ((), (((0 : Int), ()), ((x6, ()), ()))))
  else (
  let x7 : Int := (iconv .u64 d.2.2.2.1.1)
  let x8 : Int := (isub .u64 d.2.1.1 x7)
  (g128 ((), ((d.2.2.1.1, ()), ()))).bind fun x9 =>
  let x10 : Int := (iand .u64 x8 x9.2.1.1)
  let x11 : Int := (iconv .i64 x10)
  let x12 : Int := (isub .i64 d.2.2.1.1 (1 : Int))
  bif decide (x12 < 0) then (
  none)
  else (
  let x13 : Int := (ishl .i64 (1 : Int) x12)
  let x14 : Bool := (decide (x11 ≥ x13))
  bif x14 then (
  bif decide (d.2.2.1.1 < 0) then (
  none)
  else (
  let x15 : Int := (ishl .i64 (1 : Int) d.2.2.1.1)
  let x16 : Int := (isub .i64 x11 x15)
  (g85 ((), ((d.2.2.2.1.1, ()), ((x16, ()), ())))).bind fun x17 =>
  some ((), ((x17.2.1.1, ()), ((x17.2.2.1.1, ()), ())))))
  else (
  (g85 ((), ((d.2.2.2.1.1, ()), ((x11, ()), ())))).bind fun x18 =>
  some ((), ((x18.2.1.1, ()), ((x18.2.2.1.1, ()), ())))))))
def c116 : List Nat := []
def L116 (_ : Nat) : Pts po116.den := []
def E116 : Env := (((E0.add 85 (typedSem pi85 po85 g85)).add 127 (typedSem pi127 po127 g127)).add 128 (typedSem pi128 po128 g128))
theorem q116_m (k : Nat) (d : Unit × ((Int × Unit) × ((Int × Unit) × ((Int × Unit) × Unit)))) : evCode E116 (tab (L116 k)) c116 (bodyOf Try.f116) 0 (finK E116 po116 [.tmp 6, .tmp 7]) (startSt pi116 41 d) = f116_m () d := by kernel_rfl
def g116 (d : pi116.den) : Option po116.den := f116_m () d
theorem ok116 : FnOk Try.prog ET0 116 pi116 po116 g116 :=
  fn_of_body (E := E116) (envOk_add (envOk_add (envOk_add e0_ok (typed_ok ok85)) (typed_ok ok127)) (typed_ok ok128)) (fn := Try.f116) Try.func116 (by kernel_rfl) (by kernel_rfl) [.tmp 6, .tmp 7] (by kernel_rfl) (by kernel_rfl) (by decide) c116 L116
    (by intro x hx; cases hx) (by intro k x hx; cases hx) (fun d out h => ⟨0, (q116_m 0 d).trans h⟩)

/- horologe/era.Unfold[uint32] -/
@[reducible] def pi78 : PSh := ⟨[], [.mk false [.v (.int .u32)], .mk false [.v (.int .i64)]]⟩
@[reducible] def po78 : PSh := ⟨[], [.mk false [.v (.int .i64)], .mk false [.v .err]]⟩
def f78_m (T : Unit) (d : Unit × ((Int × Unit) × ((Int × Unit) × Unit))) : Option (Unit × ((Int × Unit) × (((Option Int) × Unit) × Unit))) :=
  let x1 : Int := (iconv .u64 d.2.1.1)
  (g91 ((), ())).bind fun x2 =>
  let x3 : Int := (imul .i64 x2.2.1.1 (8 : Int))
  (g116 ((), ((x1, ()), ((x3, ()), ((d.2.2.1.1, ()), ()))))).bind fun x4 =>
  some ((), ((x4.2.1.1, ()), ((x4.2.2.1.1, ()), ())))
def c78 : List Nat := []
def L78 (_ : Nat) : Pts po78.den := []
def E78 : Env := ((E0.add 91 (typedSem pi91 po91 g91)).add 116 (typedSem pi116 po116 g116))
theorem q78_m (k : Nat) (d : Unit × ((Int × Unit) × ((Int × Unit) × Unit))) : evCode E78 (tab (L78 k)) c78 (bodyOf Try.f78) 0 (finK E78 po78 [.tmp 4, .tmp 5]) (startSt pi78 14 d) = f78_m () d := by kernel_rfl
def g78 (d : pi78.den) : Option po78.den := f78_m () d
theorem ok78 : FnOk Try.prog ET0 78 pi78 po78 g78 :=
  fn_of_body (E := E78) (envOk_add (envOk_add e0_ok (typed_ok ok91)) (typed_ok ok116)) (fn := Try.f78) Try.func78 (by kernel_rfl) (by kernel_rfl) [.tmp 4, .tmp 5] (by kernel_rfl) (by kernel_rfl) (by decide) c78 L78
    (by intro x hx; cases hx) (by intro k x hx; cases hx) (fun d out h => ⟨0, (q78_m 0 d).trans h⟩)

/- horologe/stamp.Time -/
@[reducible] def pi31 : PSh := ⟨[], [.mk true [.v (.int .u32), .v (.int .u32)], .mk false [.v (.int .i64)]]⟩
@[reducible] def po31 : PSh := ⟨[], [.mk false [.v (.int .i64)], .mk false [.v (.int .i64)], .mk false [.v .err]]⟩
def f31_m (T : Unit) (d : Unit × ((Int × (Int × Unit)) × ((Int × Unit) × Unit))) : Option (Unit × ((Int × Unit) × ((Int × Unit) × (((Option Int) × Unit) × Unit)))) :=
  (g78 ((), ((d.2.1.1, ()), ((d.2.2.1.1, ()), ())))).bind fun x1 =>
  let x2 : Bool := (!x1.2.2.1.1.isNone)
  bif x2 then (
  some ((), (((0 : Int), ()), (((0 : Int), ()), ((x1.2.2.1.1, ()), ())))))
  else (
  (g16 ((), ((d.2.1.2.1, ()), ()))).bind fun x3 =>
  some ((), ((x1.2.1.1, ()), ((x3.2.1.1, ()), (((none : Option Int), ()), ())))))
def c31 : List Nat := []
def L31 (_ : Nat) : Pts po31.den := []
def E31 : Env := ((E0.add 16 (typedSem pi16 po16 g16)).add 78 (typedSem pi78 po78 g78))
theorem q31_m (k : Nat) (d : Unit × ((Int × (Int × Unit)) × ((Int × Unit) × Unit))) : evCode E31 (tab (L31 k)) c31 (bodyOf Try.f31) 0 (finK E31 po31 [.tmp 4, .tmp 5, .tmp 6]) (startSt pi31 21 d) = f31_m () d := by kernel_rfl
def g31 (d : pi31.den) : Option po31.den := f31_m () d
theorem ok31 : FnOk Try.prog ET0 31 pi31 po31 g31 :=
  fn_of_body (E := E31) (envOk_add (envOk_add e0_ok (typed_ok ok16)) (typed_ok ok78)) (fn := Try.f31) Try.func31 (by kernel_rfl) (by kernel_rfl) [.tmp 4, .tmp 5, .tmp 6] (by kernel_rfl) (by kernel_rfl) (by decide) c31 L31
    (by intro x hx; cases hx) (by intro k x hx; cases hx) (fun d out h => ⟨0, (q31_m 0 d).trans h⟩)

/- horologe/horologeref01.Of -/
@[reducible] def pi79 : PSh := ⟨[], [.mk false [.v (.int .i64)]]⟩
@[reducible] def po79 : PSh := ⟨[.row 26 (.int .u64)], [.mk true [.v .bool, .osl 0]]⟩
@[reducible] def sh79_4 : PSh := ⟨[.var 129 [.v .bool, .top], .row 26 (.int .u64)], [.mk false [.v (.int .i64)], .any, .mk false [.ref 0 0], .mk false [.osl 1], .mk false [.v .bool], .any, .any, .any, .any, .any, .any, .any, .any, .any, .any, .any, .any, .any, .any, .any, .any, .any, .any, .any, .any, .any]⟩
def f79_p4 (T : (((((Bool × Unit) × ((List Int) × Unit)) × ((Int × Unit) × (Unit × (Unit × ((Bool × Unit) × Unit))))) → Option (((List Int) × Unit) × ((Bool × Unit) × Unit))) × Unit)) (d : ((Bool × Unit) × ((List Int) × Unit)) × ((Int × Unit) × (Unit × (Unit × ((Bool × Unit) × Unit))))) : Option (((List Int) × Unit) × ((Bool × Unit) × Unit)) :=
  let x2 : Bool := (d.2.1.1 != (0 : Int))
  bif x2 then (
  let x3 : Int := (Int.tmod d.2.1.1 (65536 : Int))
  let x4 : Bool := (decide (x3 < (0 : Int)))
  bif x4 then (
  let x5 : Int := (isub .i64 (0 : Int) x3)
  let x6 : Int := (iconv .u64 x5)
  let x7 : (List Int) := ([x6] : List Int)
  bif decide (((d.1.2.1.length + x7.length) * 8 : Nat) ≤ 140737488355328) && decide (d.1.2.1.length + x7.length ≤ 9223372036854775807) then (
  let x8 : (List Int) := (d.1.2.1 ++ x7)
  let x9 : Int := (iquo .i64 d.2.1.1 (65536 : Int))
  (T.1 (((d.1.1.1, ()), (x8, ())), ((x9, ()), ((), ((), ((d.2.2.2.2.1.1, ()), ())))))))
  else none)
  else (
  let x10 : Int := (iconv .u64 x3)
  let x11 : (List Int) := ([x10] : List Int)
  bif decide (((d.1.2.1.length + x11.length) * 8 : Nat) ≤ 140737488355328) && decide (d.1.2.1.length + x11.length ≤ 9223372036854775807) then (
  let x12 : (List Int) := (d.1.2.1 ++ x11)
  let x13 : Int := (iquo .i64 d.2.1.1 (65536 : Int))
  (T.1 (((d.1.1.1, ()), (x12, ())), ((x13, ()), ((), ((), ((d.2.2.2.2.1.1, ()), ())))))))
  else none))
  else (
  some ((d.1.2.1, ()), ((d.2.2.2.2.1.1, ()), ())))
def f79_t : Nat → (((((Bool × Unit) × ((List Int) × Unit)) × ((Int × Unit) × (Unit × (Unit × ((Bool × Unit) × Unit))))) → Option (((List Int) × Unit) × ((Bool × Unit) × Unit))) × Unit)
  | 0 => (fun _ => none, ())
  | k + 1 => (f79_p4 (f79_t k), ())
theorem t79_s (k : Nat) : f79_t (k + 1) = (f79_p4 (f79_t k), ()) := rfl
def f79_m (T : (((((Bool × Unit) × ((List Int) × Unit)) × ((Int × Unit) × (Unit × (Unit × ((Bool × Unit) × Unit))))) → Option (((List Int) × Unit) × ((Bool × Unit) × Unit))) × Unit)) (d : Unit × ((Int × Unit) × Unit)) : Option (((List Int) × Unit) × ((Bool × Unit) × Unit)) :=
  let x1 : Bool := (decide (d.2.1.1 < (0 : Int)))
  (T.1 (((false, ()), (([] : List Int), ())), ((d.2.1.1, ()), ((), ((), ((x1, ()), ()))))))
def c79 : List Nat := []
def L79 (k : Nat) : Pts po79.den := [(4, ⟨sh79_4, (f79_t k).1⟩)]
def E79 : Env := E0
theorem q79_4 (k : Nat) (d : ((Bool × Unit) × ((List Int) × Unit)) × ((Int × Unit) × (Unit × (Unit × ((Bool × Unit) × Unit))))) : evAt E79 (tab (L79 k)) c79 4 (bodyOf Try.f79) 0 (finK E79 po79 [.cell 2 129]) (ptSt sh79_4 d) = f79_p4 (f79_t k) d := by kernel_rfl
theorem q79_m (k : Nat) (d : Unit × ((Int × Unit) × Unit)) : evCode E79 (tab (L79 k)) c79 (bodyOf Try.f79) 0 (finK E79 po79 [.cell 2 129]) (startSt pi79 26 d) = f79_m (f79_t k) d := by kernel_rfl
theorem go79 (G : pi79.den → Option po79.den) (hG : ∀ d out, G d = some out → ∃ k, f79_m (f79_t k) d = some out) : FnOk Try.prog ET0 79 pi79 po79 G :=
  fn_of_body (E := E79) e0_ok (fn := Try.f79) Try.func79 (by kernel_rfl) (by kernel_rfl) [.cell 2 129] (by kernel_rfl) (by kernel_rfl) (by decide) c79 L79
    (by intro x hx d; simp only [L79, List.mem_cons, List.not_mem_nil, or_false] at hx; subst hx; rfl)
    (by intro k x hx d out h; simp only [L79, List.mem_cons, List.not_mem_nil, or_false] at hx; subst hx; exact (q79_4 k d).trans h)
    (by intro d out h; obtain ⟨k, hk⟩ := hG d out h; exact ⟨k, (q79_m k d).trans hk⟩)
def g79 (d : pi79.den) : Option po79.den := lim fun k => f79_m (f79_t k) d
theorem ok79 : FnOk Try.prog ET0 79 pi79 po79 g79 := go79 g79 fun d out h => lim_some h

/- horologe/horologeref01.digit -/
@[reducible] def pi129 : PSh := ⟨[], [.mk false [.v (.sl (.int .u64))], .mk false [.v (.int .i64)]]⟩
@[reducible] def po129 : PSh := ⟨[], [.mk false [.v (.int .u64)]]⟩
def f129_m (T : Unit) (d : Unit × (((List Int) × Unit) × ((Int × Unit) × Unit))) : Option (Unit × ((Int × Unit) × Unit)) :=
  let x1 : Int := (d.2.1.1.length : Int)
  let x2 : Bool := (decide (d.2.2.1.1 < x1))
  bif x2 then (
  bif decide ((0 : Int) ≤ d.2.2.1.1) && decide (d.2.2.1.1 < (d.2.1.1.length : Int)) then (
  some ((), (((gd (.int .u64) d.2.1.1 d.2.2.1.1), ()), ())))
  else none)
  else (
  some ((), (((0 : Int), ()), ())))
def c129 : List Nat := []
def L129 (_ : Nat) : Pts po129.den := []
def E129 : Env := E0
theorem q129_m (k : Nat) (d : Unit × (((List Int) × Unit) × ((Int × Unit) × Unit))) : evCode E129 (tab (L129 k)) c129 (bodyOf Try.f129) 0 (finK E129 po129 [.tmp 4]) (startSt pi129 13 d) = f129_m () d := by kernel_rfl
def g129 (d : pi129.den) : Option po129.den := f129_m () d
theorem ok129 : FnOk Try.prog ET0 129 pi129 po129 g129 :=
  fn_of_body (E := E129) e0_ok (fn := Try.f129) Try.func129 (by kernel_rfl) (by kernel_rfl) [.tmp 4] (by kernel_rfl) (by kernel_rfl) (by decide) c129 L129
    (by intro x hx; cases hx) (by intro k x hx; cases hx) (fun d out h => ⟨0, (q129_m 0 d).trans h⟩)

/- horologe/horologeref01.plus -/
@[reducible] def pi117 : PSh := ⟨[], [.mk false [.v (.sl (.int .u64))], .mk false [.v (.sl (.int .u64))]]⟩
@[reducible] def po117 : PSh := ⟨[.row 26 (.int .u64)], [.mk false [.osl 0]]⟩
@[reducible] def sh117_5 : PSh := ⟨[.row 26 (.int .u64)], [.mk false [.v (.sl (.int .u64))], .mk false [.v (.sl (.int .u64))], .any, .any, .any, .mk false [.osl 0], .mk false [.v (.int .u64)], .mk false [.v (.int .i64)], .any, .any, .any, .any, .any, .any, .any, .any, .any, .any, .any, .any, .any, .any, .any, .any, .any, .any, .any, .any, .any, .any, .any, .any, .any, .any, .any, .any, .any, .any, .any, .any, .any, .any]⟩
def f117_p5 (T : (((((List Int) × Unit) × (((List Int) × Unit) × (((List Int) × Unit) × (Unit × ((Int × Unit) × ((Int × Unit) × Unit)))))) → Option (((List Int) × Unit) × (Unit × Unit))) × Unit)) (d : ((List Int) × Unit) × (((List Int) × Unit) × (((List Int) × Unit) × (Unit × ((Int × Unit) × ((Int × Unit) × Unit)))))) : Option (((List Int) × Unit) × (Unit × Unit)) :=
  let x1 : Int := (d.2.1.1.length : Int)
  let x2 : Bool := (decide (d.2.2.2.2.2.1.1 < x1))
  bif x2 then (
  (g129 ((), ((d.2.1.1, ()), ((d.2.2.2.2.2.1.1, ()), ())))).bind fun x3 =>
  (g129 ((), ((d.2.2.1.1, ()), ((d.2.2.2.2.2.1.1, ()), ())))).bind fun x4 =>
  let x5 : Int := (iadd .u64 x3.2.1.1 x4.2.1.1)
  let x6 : Int := (iadd .u64 x5 d.2.2.2.2.1.1)
  let x7 : Int := (Int.tmod x6 (65536 : Int))
  let x8 : (List Int) := ([x7] : List Int)
  bif decide (((d.1.1.length + x8.length) * 8 : Nat) ≤ 140737488355328) && decide (d.1.1.length + x8.length ≤ 9223372036854775807) then (
  let x9 : (List Int) := (d.1.1 ++ x8)
  let x10 : Int := (iquo .u64 x6 (65536 : Int))
  let x11 : Int := (iadd .i64 d.2.2.2.2.2.1.1 (1 : Int))
  (T.1 ((x9, ()), ((d.2.1.1, ()), ((d.2.2.1.1, ()), ((), ((x10, ()), ((x11, ()), ()))))))))
  else none)
  else (
  let x12 : Int := (d.2.2.1.1.length : Int)
  let x13 : Bool := (decide (d.2.2.2.2.2.1.1 < x12))
  bif x13 then (
  (g129 ((), ((d.2.1.1, ()), ((d.2.2.2.2.2.1.1, ()), ())))).bind fun x14 =>
  (g129 ((), ((d.2.2.1.1, ()), ((d.2.2.2.2.2.1.1, ()), ())))).bind fun x15 =>
  let x16 : Int := (iadd .u64 x14.2.1.1 x15.2.1.1)
  let x17 : Int := (iadd .u64 x16 d.2.2.2.2.1.1)
  let x18 : Int := (Int.tmod x17 (65536 : Int))
  let x19 : (List Int) := ([x18] : List Int)
  bif decide (((d.1.1.length + x19.length) * 8 : Nat) ≤ 140737488355328) && decide (d.1.1.length + x19.length ≤ 9223372036854775807) then (
  let x20 : (List Int) := (d.1.1 ++ x19)
  let x21 : Int := (iquo .u64 x17 (65536 : Int))
  let x22 : Int := (iadd .i64 d.2.2.2.2.2.1.1 (1 : Int))
  (T.1 ((x20, ()), ((d.2.1.1, ()), ((d.2.2.1.1, ()), ((), ((x21, ()), ((x22, ()), ()))))))))
  else none)
  else (
  let x23 : Bool := (decide (d.2.2.2.2.1.1 > (0 : Int)))
  bif x23 then (
  (g129 ((), ((d.2.1.1, ()), ((d.2.2.2.2.2.1.1, ()), ())))).bind fun x24 =>
  (g129 ((), ((d.2.2.1.1, ()), ((d.2.2.2.2.2.1.1, ()), ())))).bind fun x25 =>
  let x26 : Int := (iadd .u64 x24.2.1.1 x25.2.1.1)
  let x27 : Int := (iadd .u64 x26 d.2.2.2.2.1.1)
  let x28 : Int := (Int.tmod x27 (65536 : Int))
  let x29 : (List Int) := ([x28] : List Int)
  bif decide (((d.1.1.length + x29.length) * 8 : Nat) ≤ 140737488355328) && decide (d.1.1.length + x29.length ≤ 9223372036854775807) then (
  let x30 : (List Int) := (d.1.1 ++ x29)
  let x31 : Int := (iquo .u64 x27 (65536 : Int))
  let x32 : Int := (iadd .i64 d.2.2.2.2.2.1.1 (1 : Int))
  (T.1 ((x30, ()), ((d.2.1.1, ()), ((d.2.2.1.1, ()), ((), ((x31, ()), ((x32, ()), ()))))))))
  else none)
  else (
  some ((d.1.1, ()), ((), ())))))
def f117_t : Nat → (((((List Int) × Unit) × (((List Int) × Unit) × (((List Int) × Unit) × (Unit × ((Int × Unit) × ((Int × Unit) × Unit)))))) → Option (((List Int) × Unit) × (Unit × Unit))) × Unit)
  | 0 => (fun _ => none, ())
  | k + 1 => (f117_p5 (f117_t k), ())
theorem t117_s (k : Nat) : f117_t (k + 1) = (f117_p5 (f117_t k), ()) := rfl
def f117_m (T : (((((List Int) × Unit) × (((List Int) × Unit) × (((List Int) × Unit) × (Unit × ((Int × Unit) × ((Int × Unit) × Unit)))))) → Option (((List Int) × Unit) × (Unit × Unit))) × Unit)) (d : Unit × (((List Int) × Unit) × (((List Int) × Unit) × Unit))) : Option (((List Int) × Unit) × (Unit × Unit)) :=
  (T.1 ((([] : List Int), ()), ((d.2.1.1, ()), ((d.2.2.1.1, ()), ((), (((0 : Int), ()), (((0 : Int), ()), ())))))))
def c117 : List Nat := []
def L117 (k : Nat) : Pts po117.den := [(5, ⟨sh117_5, (f117_t k).1⟩)]
def E117 : Env := (E0.add 129 (typedSem pi129 po129 g129))
theorem q117_5 (k : Nat) (d : ((List Int) × Unit) × (((List Int) × Unit) × (((List Int) × Unit) × (Unit × ((Int × Unit) × ((Int × Unit) × Unit)))))) : evAt E117 (tab (L117 k)) c117 5 (bodyOf Try.f117) 0 (finK E117 po117 [.tmp 4]) (ptSt sh117_5 d) = f117_p5 (f117_t k) d := by kernel_rfl
theorem q117_m (k : Nat) (d : Unit × (((List Int) × Unit) × (((List Int) × Unit) × Unit))) : evCode E117 (tab (L117 k)) c117 (bodyOf Try.f117) 0 (finK E117 po117 [.tmp 4]) (startSt pi117 42 d) = f117_m (f117_t k) d := by kernel_rfl
theorem go117 (G : pi117.den → Option po117.den) (hG : ∀ d out, G d = some out → ∃ k, f117_m (f117_t k) d = some out) : FnOk Try.prog ET0 117 pi117 po117 G :=
  fn_of_body (E := E117) (envOk_add e0_ok (typed_ok ok129)) (fn := Try.f117) Try.func117 (by kernel_rfl) (by kernel_rfl) [.tmp 4] (by kernel_rfl) (by kernel_rfl) (by decide) c117 L117
    (by intro x hx d; simp only [L117, List.mem_cons, List.not_mem_nil, or_false] at hx; subst hx; rfl)
    (by intro k x hx d out h; simp only [L117, List.mem_cons, List.not_mem_nil, or_false] at hx; subst hx; exact (q117_5 k d).trans h)
    (by intro d out h; obtain ⟨k, hk⟩ := hG d out h; exact ⟨k, (q117_m k d).trans hk⟩)
def g117 (d : pi117.den) : Option po117.den := lim fun k => f117_m (f117_t k) d
theorem ok117 : FnOk Try.prog ET0 117 pi117 po117 g117 := go117 g117 fun d out h => lim_some h

/- horologe/horologeref01.less -/
@[reducible] def pi118 : PSh := ⟨[], [.mk false [.v (.sl (.int .u64))], .mk false [.v (.sl (.int .u64))]]⟩
@[reducible] def po118 : PSh := ⟨[], [.mk false [.v .bool]]⟩
@[reducible] def sh118_3 : PSh := ⟨[], [.mk false [.v (.sl (.int .u64))], .mk false [.v (.sl (.int .u64))], .any, .any, .any, .mk false [.v (.int .i64)], .any, .any, .any, .any, .any, .any, .any, .any, .any, .any, .any, .any, .any, .any, .any, .any, .any, .any, .any, .any, .any, .any, .any, .any]⟩
def f118_p3 (T : (((Unit × (((List Int) × Unit) × (((List Int) × Unit) × ((Int × Unit) × Unit)))) → Option (Unit × ((Bool × Unit) × Unit))) × Unit)) (d : Unit × (((List Int) × Unit) × (((List Int) × Unit) × ((Int × Unit) × Unit)))) : Option (Unit × ((Bool × Unit) × Unit)) :=
  let x5 : Bool := (decide (d.2.2.2.1.1 ≥ (0 : Int)))
  bif x5 then (
  (g129 ((), ((d.2.1.1, ()), ((d.2.2.2.1.1, ()), ())))).bind fun x6 =>
  (g129 ((), ((d.2.2.1.1, ()), ((d.2.2.2.1.1, ()), ())))).bind fun x7 =>
  let x8 : Bool := (x6.2.1.1 != x7.2.1.1)
  bif x8 then (
  (g129 ((), ((d.2.1.1, ()), ((d.2.2.2.1.1, ()), ())))).bind fun x9 =>
  (g129 ((), ((d.2.2.1.1, ()), ((d.2.2.2.1.1, ()), ())))).bind fun x10 =>
  let x11 : Bool := (decide (x9.2.1.1 < x10.2.1.1))
  some ((), ((x11, ()), ())))
  else (
  let x12 : Int := (isub .i64 d.2.2.2.1.1 (1 : Int))
  (T.1 ((), ((d.2.1.1, ()), ((d.2.2.1.1, ()), ((x12, ()), ())))))))
  else (
  some ((), ((false, ()), ())))
def f118_t : Nat → (((Unit × (((List Int) × Unit) × (((List Int) × Unit) × ((Int × Unit) × Unit)))) → Option (Unit × ((Bool × Unit) × Unit))) × Unit)
  | 0 => (fun _ => none, ())
  | k + 1 => (f118_p3 (f118_t k), ())
theorem t118_s (k : Nat) : f118_t (k + 1) = (f118_p3 (f118_t k), ()) := rfl
def f118_m (T : (((Unit × (((List Int) × Unit) × (((List Int) × Unit) × ((Int × Unit) × Unit)))) → Option (Unit × ((Bool × Unit) × Unit))) × Unit)) (d : Unit × (((List Int) × Unit) × (((List Int) × Unit) × Unit))) : Option (Unit × ((Bool × Unit) × Unit)) :=
  let x1 : Int := (d.2.1.1.length : Int)
  let x2 : Int := (d.2.2.1.1.length : Int)
  let x3 : Int := (if x2 > x1 then x2 else x1)
  let x4 : Int := (isub .i64 x3 (1 : Int))
  (T.1 ((), ((d.2.1.1, ()), ((d.2.2.1.1, ()), ((x4, ()), ())))))
def c118 : List Nat := []
def L118 (k : Nat) : Pts po118.den := [(3, ⟨sh118_3, (f118_t k).1⟩)]
def E118 : Env := (E0.add 129 (typedSem pi129 po129 g129))
theorem q118_3 (k : Nat) (d : Unit × (((List Int) × Unit) × (((List Int) × Unit) × ((Int × Unit) × Unit)))) : evAt E118 (tab (L118 k)) c118 3 (bodyOf Try.f118) 0 (finK E118 po118 [.tmp 4]) (ptSt sh118_3 d) = f118_p3 (f118_t k) d := by kernel_rfl
theorem q118_m (k : Nat) (d : Unit × (((List Int) × Unit) × (((List Int) × Unit) × Unit))) : evCode E118 (tab (L118 k)) c118 (bodyOf Try.f118) 0 (finK E118 po118 [.tmp 4]) (startSt pi118 30 d) = f118_m (f118_t k) d := by kernel_rfl
theorem go118 (G : pi118.den → Option po118.den) (hG : ∀ d out, G d = some out → ∃ k, f118_m (f118_t k) d = some out) : FnOk Try.prog ET0 118 pi118 po118 G :=
  fn_of_body (E := E118) (envOk_add e0_ok (typed_ok ok129)) (fn := Try.f118) Try.func118 (by kernel_rfl) (by kernel_rfl) [.tmp 4] (by kernel_rfl) (by kernel_rfl) (by decide) c118 L118
    (by intro x hx d; simp only [L118, List.mem_cons, List.not_mem_nil, or_false] at hx; subst hx; rfl)
    (by intro k x hx d out h; simp only [L118, List.mem_cons, List.not_mem_nil, or_false] at hx; subst hx; exact (q118_3 k d).trans h)
    (by intro d out h; obtain ⟨k, hk⟩ := hG d out h; exact ⟨k, (q118_m k d).trans hk⟩)
def g118 (d : pi118.den) : Option po118.den := lim fun k => f118_m (f118_t k) d
theorem ok118 : FnOk Try.prog ET0 118 pi118 po118 g118 := go118 g118 fun d out h => lim_some h

/- horologe/horologeref01.cut -/
@[reducible] def pi130 : PSh := ⟨[], [.mk false [.v (.sl (.int .u64))]]⟩
@[reducible] def po130 : PSh := ⟨[], [.mk false [.v (.sl (.int .u64))]]⟩
@[reducible] def sh130_2 : PSh := ⟨[], [.mk false [.v (.sl (.int .u64))], .any, .any, .any, .any, .any, .any, .any, .any, .any, .any, .any, .any, .any, .any, .any, .any, .any, .any, .any, .any]⟩
def f130_p2 (T : (((Unit × (((List Int) × Unit) × Unit)) → Option (Unit × (((List Int) × Unit) × Unit))) × Unit)) (d : Unit × (((List Int) × Unit) × Unit)) : Option (Unit × (((List Int) × Unit) × Unit)) :=
  let x1 : Int := (d.2.1.1.length : Int)
  let x2 : Bool := (decide (x1 > (0 : Int)))
  bif x2 then (
  let x3 : Int := (d.2.1.1.length : Int)
  let x4 : Int := (isub .i64 x3 (1 : Int))
  bif decide ((0 : Int) ≤ x4) && decide (x4 < (d.2.1.1.length : Int)) then (
  let x5 : Bool := ((gd (.int .u64) d.2.1.1 x4) == (0 : Int))
  bif x5 then (
  let x6 : Int := (d.2.1.1.length : Int)
  let x7 : Int := (isub .i64 x6 (1 : Int))
  bif decide ((0 : Int) ≤ (0 : Int)) && decide ((0 : Int) ≤ x7) && decide (x7 ≤ (d.2.1.1.length : Int)) then (
  let x8 : (List Int) := (List.drop (Int.toNat (0 : Int)) (List.take (Int.toNat x7) d.2.1.1))
  (T.1 ((), ((x8, ()), ()))))
  else none)
  else (
  some ((), ((d.2.1.1, ()), ()))))
  else none)
  else (
  some ((), ((d.2.1.1, ()), ())))
def f130_t : Nat → (((Unit × (((List Int) × Unit) × Unit)) → Option (Unit × (((List Int) × Unit) × Unit))) × Unit)
  | 0 => (fun _ => none, ())
  | k + 1 => (f130_p2 (f130_t k), ())
theorem t130_s (k : Nat) : f130_t (k + 1) = (f130_p2 (f130_t k), ()) := rfl
def f130_m (T : (((Unit × (((List Int) × Unit) × Unit)) → Option (Unit × (((List Int) × Unit) × Unit))) × Unit)) (d : Unit × (((List Int) × Unit) × Unit)) : Option (Unit × (((List Int) × Unit) × Unit)) :=
  (T.1 ((), ((d.2.1.1, ()), ())))
def c130 : List Nat := []
def L130 (k : Nat) : Pts po130.den := [(2, ⟨sh130_2, (f130_t k).1⟩)]
def E130 : Env := E0
theorem q130_2 (k : Nat) (d : Unit × (((List Int) × Unit) × Unit)) : evAt E130 (tab (L130 k)) c130 2 (bodyOf Try.f130) 0 (finK E130 po130 [.tmp 2]) (ptSt sh130_2 d) = f130_p2 (f130_t k) d := by kernel_rfl
theorem q130_m (k : Nat) (d : Unit × (((List Int) × Unit) × Unit)) : evCode E130 (tab (L130 k)) c130 (bodyOf Try.f130) 0 (finK E130 po130 [.tmp 2]) (startSt pi130 21 d) = f130_m (f130_t k) d := by kernel_rfl
theorem go130 (G : pi130.den → Option po130.den) (hG : ∀ d out, G d = some out → ∃ k, f130_m (f130_t k) d = some out) : FnOk Try.prog ET0 130 pi130 po130 G :=
  fn_of_body (E := E130) e0_ok (fn := Try.f130) Try.func130 (by kernel_rfl) (by kernel_rfl) [.tmp 2] (by kernel_rfl) (by kernel_rfl) (by decide) c130 L130
    (by intro x hx d; simp only [L130, List.mem_cons, List.not_mem_nil, or_false] at hx; subst hx; rfl)
    (by intro k x hx d out h; simp only [L130, List.mem_cons, List.not_mem_nil, or_false] at hx; subst hx; exact (q130_2 k d).trans h)
    (by intro d out h; obtain ⟨k, hk⟩ := hG d out h; exact ⟨k, (q130_m k d).trans hk⟩)
def g130 (d : pi130.den) : Option po130.den := lim fun k => f130_m (f130_t k) d
theorem ok130 : FnOk Try.prog ET0 130 pi130 po130 g130 := go130 g130 fun d out h => lim_some h

/- horologe/horologeref01.minus -/
@[reducible] def pi119 : PSh := ⟨[], [.mk false [.v (.sl (.int .u64))], .mk false [.v (.sl (.int .u64))]]⟩
@[reducible] def po119 : PSh := ⟨[], [.mk false [.v (.sl (.int .u64))]]⟩
@[reducible] def sh119_5 : PSh := ⟨[.row 26 (.int .u64)], [.mk false [.v (.sl (.int .u64))], .mk false [.v (.sl (.int .u64))], .any, .any, .any, .mk false [.osl 0], .mk false [.v (.int .u64)], .mk false [.v (.int .i64)], .any, .any, .any, .any, .any, .any, .any, .any, .any, .any, .any, .any, .any, .any, .any, .any, .any, .any, .any, .any, .any, .any, .any, .any, .any, .any, .any]⟩
def f119_p5 (T : (((((List Int) × Unit) × (((List Int) × Unit) × (((List Int) × Unit) × (Unit × ((Int × Unit) × ((Int × Unit) × Unit)))))) → Option (Unit × (((List Int) × Unit) × Unit))) × Unit)) (d : ((List Int) × Unit) × (((List Int) × Unit) × (((List Int) × Unit) × (Unit × ((Int × Unit) × ((Int × Unit) × Unit)))))) : Option (Unit × (((List Int) × Unit) × Unit)) :=
  let x1 : Int := (d.2.1.1.length : Int)
  let x2 : Bool := (decide (d.2.2.2.2.2.1.1 < x1))
  bif x2 then (
  (g129 ((), ((d.2.1.1, ()), ((d.2.2.2.2.2.1.1, ()), ())))).bind fun x3 =>
  let x4 : Int := (iadd .u64 (65536 : Int) x3.2.1.1)
  (g129 ((), ((d.2.2.1.1, ()), ((d.2.2.2.2.2.1.1, ()), ())))).bind fun x5 =>
  let x6 : Int := (isub .u64 x4 x5.2.1.1)
  let x7 : Int := (isub .u64 x6 d.2.2.2.2.1.1)
  let x8 : Int := (Int.tmod x7 (65536 : Int))
  let x9 : (List Int) := ([x8] : List Int)
  bif decide (((d.1.1.length + x9.length) * 8 : Nat) ≤ 140737488355328) && decide (d.1.1.length + x9.length ≤ 9223372036854775807) then (
  let x10 : (List Int) := (d.1.1 ++ x9)
  let x11 : Int := (iquo .u64 x7 (65536 : Int))
  let x12 : Int := (isub .u64 (1 : Int) x11)
  let x13 : Int := (iadd .i64 d.2.2.2.2.2.1.1 (1 : Int))
  (T.1 ((x10, ()), ((d.2.1.1, ()), ((d.2.2.1.1, ()), ((), ((x12, ()), ((x13, ()), ()))))))))
  else none)
  else (
  (g130 ((), ((d.1.1, ()), ()))).bind fun x14 =>
  some ((), ((x14.2.1.1, ()), ())))
def f119_t : Nat → (((((List Int) × Unit) × (((List Int) × Unit) × (((List Int) × Unit) × (Unit × ((Int × Unit) × ((Int × Unit) × Unit)))))) → Option (Unit × (((List Int) × Unit) × Unit))) × Unit)
  | 0 => (fun _ => none, ())
  | k + 1 => (f119_p5 (f119_t k), ())
theorem t119_s (k : Nat) : f119_t (k + 1) = (f119_p5 (f119_t k), ()) := rfl
def f119_m (T : (((((List Int) × Unit) × (((List Int) × Unit) × (((List Int) × Unit) × (Unit × ((Int × Unit) × ((Int × Unit) × Unit)))))) → Option (Unit × (((List Int) × Unit) × Unit))) × Unit)) (d : Unit × (((List Int) × Unit) × (((List Int) × Unit) × Unit))) : Option (Unit × (((List Int) × Unit) × Unit)) :=
  (T.1 ((([] : List Int), ()), ((d.2.1.1, ()), ((d.2.2.1.1, ()), ((), (((0 : Int), ()), (((0 : Int), ()), ())))))))
def c119 : List Nat := []
def L119 (k : Nat) : Pts po119.den := [(5, ⟨sh119_5, (f119_t k).1⟩)]
def E119 : Env := ((E0.add 129 (typedSem pi129 po129 g129)).add 130 (typedSem pi130 po130 g130))
theorem q119_5 (k : Nat) (d : ((List Int) × Unit) × (((List Int) × Unit) × (((List Int) × Unit) × (Unit × ((Int × Unit) × ((Int × Unit) × Unit)))))) : evAt E119 (tab (L119 k)) c119 5 (bodyOf Try.f119) 0 (finK E119 po119 [.tmp 4]) (ptSt sh119_5 d) = f119_p5 (f119_t k) d := by kernel_rfl
theorem q119_m (k : Nat) (d : Unit × (((List Int) × Unit) × (((List Int) × Unit) × Unit))) : evCode E119 (tab (L119 k)) c119 (bodyOf Try.f119) 0 (finK E119 po119 [.tmp 4]) (startSt pi119 35 d) = f119_m (f119_t k) d := by kernel_rfl
theorem go119 (G : pi119.den → Option po119.den) (hG : ∀ d out, G d = some out → ∃ k, f119_m (f119_t k) d = some out) : FnOk Try.prog ET0 119 pi119 po119 G :=
  fn_of_body (E := E119) (envOk_add (envOk_add e0_ok (typed_ok ok129)) (typed_ok ok130)) (fn := Try.f119) Try.func119 (by kernel_rfl) (by kernel_rfl) [.tmp 4] (by kernel_rfl) (by kernel_rfl) (by decide) c119 L119
    (by intro x hx d; simp only [L119, List.mem_cons, List.not_mem_nil, or_false] at hx; subst hx; rfl)
    (by intro k x hx d out h; simp only [L119, List.mem_cons, List.not_mem_nil, or_false] at hx; subst hx; exact (q119_5 k d).trans h)
    (by intro d out h; obtain ⟨k, hk⟩ := hG d out h; exact ⟨k, (q119_m k d).trans hk⟩)
def g119 (d : pi119.den) : Option po119.den := lim fun k => f119_m (f119_t k) d
theorem ok119 : FnOk Try.prog ET0 119 pi119 po119 g119 := go119 g119 fun d out h => lim_some h

/- horologe/horologeref01.Minus -/
@[reducible] def pi81 : PSh := ⟨[], [.mk true [.v .bool, .v (.sl (.int .u64))]]⟩
@[reducible] def po81 : PSh := ⟨[], [.mk true [.v .bool, .v (.sl (.int .u64))]]⟩
def f81_m (T : Unit) (d : Unit × ((Bool × ((List Int) × Unit)) × Unit)) : Option (Unit × ((Bool × ((List Int) × Unit)) × Unit)) :=
  let x1 : Bool := (!d.2.1.1)
  bif x1 then (
  let x2 : Int := (d.2.1.2.1.length : Int)
  let x3 : Bool := (decide (x2 > (0 : Int)))
  some ((), ((x3, (d.2.1.2.1, ())), ())))
  else (
  some ((), ((false, (d.2.1.2.1, ())), ())))
def c81 : List Nat := []
def L81 (_ : Nat) : Pts po81.den := []
def E81 : Env := E0
theorem q81_m (k : Nat) (d : Unit × ((Bool × ((List Int) × Unit)) × Unit)) : evCode E81 (tab (L81 k)) c81 (bodyOf Try.f81) 0 (finK E81 po81 [.cell 2 129]) (startSt pi81 15 d) = f81_m () d := by kernel_rfl
def g81 (d : pi81.den) : Option po81.den := f81_m () d
theorem ok81 : FnOk Try.prog ET0 81 pi81 po81 g81 :=
  fn_of_body (E := E81) e0_ok (fn := Try.f81) Try.func81 (by kernel_rfl) (by kernel_rfl) [.cell 2 129] (by kernel_rfl) (by kernel_rfl) (by decide) c81 L81
    (by intro x hx; cases hx) (by intro k x hx; cases hx) (fun d out h => ⟨0, (q81_m 0 d).trans h⟩)

/- horologe/horologeref01.Less -/
@[reducible] def pi120 : PSh := ⟨[], [.mk true [.v .bool, .v (.sl (.int .u64))], .mk true [.v .bool, .v (.sl (.int .u64))]]⟩
@[reducible] def po120 : PSh := ⟨[], [.mk false [.v .bool]]⟩
def f120_m (T : Unit) (d : Unit × ((Bool × ((List Int) × Unit)) × ((Bool × ((List Int) × Unit)) × Unit))) : Option (Unit × ((Bool × Unit) × Unit)) :=
  let x1 : Bool := (!(d.2.1.1 == d.2.2.1.1))
  bif x1 then (
  some ((), ((d.2.1.1, ()), ())))
  else (
  bif d.2.1.1 then (
  (g118 ((), ((d.2.2.1.2.1, ()), ((d.2.1.2.1, ()), ())))).bind fun x2 =>
  some ((), ((x2.2.1.1, ()), ())))
  else (
  (g118 ((), ((d.2.1.2.1, ()), ((d.2.2.1.2.1, ()), ())))).bind fun x3 =>
  some ((), ((x3.2.1.1, ()), ()))))
def c120 : List Nat := []
def L120 (_ : Nat) : Pts po120.den := []
def E120 : Env := (E0.add 118 (typedSem pi118 po118 g118))
theorem q120_m (k : Nat) (d : Unit × ((Bool × ((List Int) × Unit)) × ((Bool × ((List Int) × Unit)) × Unit))) : evCode E120 (tab (L120 k)) c120 (bodyOf Try.f120) 0 (finK E120 po120 [.tmp 4]) (startSt pi120 24 d) = f120_m () d := by kernel_rfl
def g120 (d : pi120.den) : Option po120.den := f120_m () d
theorem ok120 : FnOk Try.prog ET0 120 pi120 po120 g120 :=
  fn_of_body (E := E120) (envOk_add e0_ok (typed_ok ok118)) (fn := Try.f120) Try.func120 (by kernel_rfl) (by kernel_rfl) [.tmp 4] (by kernel_rfl) (by kernel_rfl) (by decide) c120 L120
    (by intro x hx; cases hx) (by intro k x hx; cases hx) (fun d out h => ⟨0, (q120_m 0 d).trans h⟩)

/- horologe/horologeref01.Small -/
@[reducible] def pi84 : PSh := ⟨[], [.mk true [.v .bool, .v (.sl (.int .u64))]]⟩
@[reducible] def po84 : PSh := ⟨[], [.mk false [.v (.int .i64)], .mk false [.v (.int .i64)]]⟩
@[reducible] def sh84_8 : PSh := ⟨[.var 129 [.v .bool, .v (.sl (.int .u64))]], [.any, .mk false [.ref 0 0], .any, .any, .any, .any, .mk false [.v (.int .i64)], .mk false [.v (.int .i64)], .any, .any, .any, .any, .any, .any, .any, .any, .any, .any, .any, .any, .any, .any, .any, .any, .any, .any, .any, .any, .any, .any, .any, .any, .any, .any, .any, .any, .any, .any, .any, .any, .any, .any, .any, .any, .any, .any, .any]⟩
def f84_p8 (T : (((((Bool × ((List Int) × Unit)) × Unit) × (Unit × ((Int × Unit) × ((Int × Unit) × Unit)))) → Option (Unit × ((Int × Unit) × ((Int × Unit) × Unit)))) × Unit)) (d : ((Bool × ((List Int) × Unit)) × Unit) × (Unit × ((Int × Unit) × ((Int × Unit) × Unit)))) : Option (Unit × ((Int × Unit) × ((Int × Unit) × Unit))) :=
  let x7 : Bool := (decide (d.2.2.2.1.1 ≥ (0 : Int)))
  bif x7 then (
  let x8 : Int := (imul .i64 d.2.2.1.1 (65536 : Int))
  bif d.1.1.1 then (
  bif decide ((0 : Int) ≤ d.2.2.2.1.1) && decide (d.2.2.2.1.1 < (d.1.1.2.1.length : Int)) then (
  let x9 : Int := (iconv .i64 (gd (.int .u64) d.1.1.2.1 d.2.2.2.1.1))
  let x10 : Int := (isub .i64 x8 x9)
  let x11 : Int := (isub .i64 d.2.2.2.1.1 (1 : Int))
  (T.1 (((d.1.1.1, (d.1.1.2.1, ())), ()), ((), ((x10, ()), ((x11, ()), ()))))))
  else none)
  else (
  bif decide ((0 : Int) ≤ d.2.2.2.1.1) && decide (d.2.2.2.1.1 < (d.1.1.2.1.length : Int)) then (
  let x12 : Int := (iconv .i64 (gd (.int .u64) d.1.1.2.1 d.2.2.2.1.1))
  let x13 : Int := (iadd .i64 x8 x12)
  let x14 : Int := (isub .i64 d.2.2.2.1.1 (1 : Int))
  (T.1 (((d.1.1.1, (d.1.1.2.1, ())), ()), ((), ((x13, ()), ((x14, ()), ()))))))
  else none))
  else (
  some ((), ((d.2.2.1.1, ()), (((0 : Int), ()), ()))))
def f84_t : Nat → (((((Bool × ((List Int) × Unit)) × Unit) × (Unit × ((Int × Unit) × ((Int × Unit) × Unit)))) → Option (Unit × ((Int × Unit) × ((Int × Unit) × Unit)))) × Unit)
  | 0 => (fun _ => none, ())
  | k + 1 => (f84_p8 (f84_t k), ())
theorem t84_s (k : Nat) : f84_t (k + 1) = (f84_p8 (f84_t k), ()) := rfl
def f84_m (T : (((((Bool × ((List Int) × Unit)) × Unit) × (Unit × ((Int × Unit) × ((Int × Unit) × Unit)))) → Option (Unit × ((Int × Unit) × ((Int × Unit) × Unit)))) × Unit)) (d : Unit × ((Bool × ((List Int) × Unit)) × Unit)) : Option (Unit × ((Int × Unit) × ((Int × Unit) × Unit))) :=
  (g79 ((), (((-9223372036854775808 : Int), ()), ()))).bind fun x1 =>
  (g79 ((), (((9223372036854775807 : Int), ()), ()))).bind fun x2 =>
  (g120 ((), ((d.2.1.1, (d.2.1.2.1, ())), ((x1.2.1.1, (x1.1.1, ())), ())))).bind fun x3 =>
  bif x3.2.1.1 then (
  some ((), (((0 : Int), ()), (((5 : Int), ()), ()))))
  else (
  (g120 ((), ((x2.2.1.1, (x2.1.1, ())), ((d.2.1.1, (d.2.1.2.1, ())), ())))).bind fun x4 =>
  bif x4.2.1.1 then (
  some ((), (((0 : Int), ()), (((5 : Int), ()), ()))))
  else (
  let x5 : Int := (d.2.1.2.1.length : Int)
  let x6 : Int := (isub .i64 x5 (1 : Int))
  (T.1 (((d.2.1.1, (d.2.1.2.1, ())), ()), ((), (((0 : Int), ()), ((x6, ()), ())))))))
def c84 : List Nat := []
def L84 (k : Nat) : Pts po84.den := [(8, ⟨sh84_8, (f84_t k).1⟩)]
def E84 : Env := ((E0.add 79 (typedSem pi79 po79 g79)).add 120 (typedSem pi120 po120 g120))
theorem q84_8 (k : Nat) (d : ((Bool × ((List Int) × Unit)) × Unit) × (Unit × ((Int × Unit) × ((Int × Unit) × Unit)))) : evAt E84 (tab (L84 k)) c84 8 (bodyOf Try.f84) 0 (finK E84 po84 [.tmp 2, .tmp 3]) (ptSt sh84_8 d) = f84_p8 (f84_t k) d := by kernel_rfl
theorem q84_m (k : Nat) (d : Unit × ((Bool × ((List Int) × Unit)) × Unit)) : evCode E84 (tab (L84 k)) c84 (bodyOf Try.f84) 0 (finK E84 po84 [.tmp 2, .tmp 3]) (startSt pi84 47 d) = f84_m (f84_t k) d := by kernel_rfl
theorem go84 (G : pi84.den → Option po84.den) (hG : ∀ d out, G d = some out → ∃ k, f84_m (f84_t k) d = some out) : FnOk Try.prog ET0 84 pi84 po84 G :=
  fn_of_body (E := E84) (envOk_add (envOk_add e0_ok (typed_ok ok79)) (typed_ok ok120)) (fn := Try.f84) Try.func84 (by kernel_rfl) (by kernel_rfl) [.tmp 2, .tmp 3] (by kernel_rfl) (by kernel_rfl) (by decide) c84 L84
    (by intro x hx d; simp only [L84, List.mem_cons, List.not_mem_nil, or_false] at hx; subst hx; rfl)
    (by intro k x hx d out h; simp only [L84, List.mem_cons, List.not_mem_nil, or_false] at hx; subst hx; exact (q84_8 k d).trans h)
    (by intro d out h; obtain ⟨k, hk⟩ := hG d out h; exact ⟨k, (q84_m k d).trans hk⟩)
def g84 (d : pi84.den) : Option po84.den := lim fun k => f84_m (f84_t k) d
theorem ok84 : FnOk Try.prog ET0 84 pi84 po84 g84 := go84 g84 fun d out h => lim_some h

/- horologe/stamp.FromPosix -/
@[reducible] def pi33 : PSh := ⟨[], [.mk false [.v (.int .i64)]]⟩
@[reducible] def po33 : PSh := ⟨[], [.mk false [.v (.int .i64)], .mk false [.v .err]]⟩
def f33_m (T : Unit) (d : Unit × ((Int × Unit) × Unit)) : Option (Unit × ((Int × Unit) × (((Option Int) × Unit) × Unit))) :=
  (g85 ((), ((d.2.1.1, ()), (((2208988800 : Int), ()), ())))).bind fun x1 =>
  some ((), ((x1.2.1.1, ()), ((x1.2.2.1.1, ()), ())))
def c33 : List Nat := []
def L33 (_ : Nat) : Pts po33.den := []
def E33 : Env := (E0.add 85 (typedSem pi85 po85 g85))
theorem q33_m (k : Nat) (d : Unit × ((Int × Unit) × Unit)) : evCode E33 (tab (L33 k)) c33 (bodyOf Try.f33) 0 (finK E33 po33 [.tmp 2, .tmp 3]) (startSt pi33 8 d) = f33_m () d := by kernel_rfl
def g33 (d : pi33.den) : Option po33.den := f33_m () d
theorem ok33 : FnOk Try.prog ET0 33 pi33 po33 g33 :=
  fn_of_body (E := E33) (envOk_add e0_ok (typed_ok ok85)) (fn := Try.f33) Try.func33 (by kernel_rfl) (by kernel_rfl) [.tmp 2, .tmp 3] (by kernel_rfl) (by kernel_rfl) (by decide) c33 L33
    (by intro x hx; cases hx) (by intro k x hx; cases hx) (fun d out h => ⟨0, (q33_m 0 d).trans h⟩)

/- horologe/num.Sub -/
@[reducible] def pi86 : PSh := ⟨[], [.mk false [.v (.int .i64)], .mk false [.v (.int .i64)]]⟩
@[reducible] def po86 : PSh := ⟨[], [.mk false [.v (.int .i64)], .mk false [.v .err]]⟩
def f86_m (T : Unit) (d : Unit × ((Int × Unit) × ((Int × Unit) × Unit))) : Option (Unit × ((Int × Unit) × (((Option Int) × Unit) × Unit))) :=
  let x1 : Int := (isub .i64 d.2.1.1 d.2.2.1.1)
  let x2 : Bool := (decide (d.2.2.1.1 > (0 : Int)))
  bif x2 then (
  let x3 : Bool := (decide (x1 > d.2.1.1))
  bif x3 then (
  let x4 : (Option Int) := (some (5 : Int))
  some ((), (((0 : Int), ()), ((x4, ()), ()))))
  else (
  let x5 : Bool := (decide (d.2.2.1.1 < (0 : Int)))
  bif x5 then (
  let x6 : Bool := (decide (x1 < d.2.1.1))
  bif x6 then (
  let x7 : (Option Int) := (some (5 : Int))
  some ((), (((0 : Int), ()), ((x7, ()), ()))))
  else (
  some ((), ((x1, ()), (((none : Option Int), ()), ())))))
  else (
  some ((), ((x1, ()), (((none : Option Int), ()), ()))))))
  else (
  let x8 : Bool := (decide (d.2.2.1.1 < (0 : Int)))
  bif x8 then (
  let x9 : Bool := (decide (x1 < d.2.1.1))
  bif x9 then (
  let x10 : (Option Int) := (some (5 : Int))
  some ((), (((0 : Int), ()), ((x10, ()), ()))))
  else (
  some ((), ((x1, ()), (((none : Option Int), ()), ())))))
  else (
  some ((), ((x1, ()), (((none : Option Int), ()), ())))))
def c86 : List Nat := []
def L86 (_ : Nat) : Pts po86.den := []
def E86 : Env := E0
theorem q86_m (k : Nat) (d : Unit × ((Int × Unit) × ((Int × Unit) × Unit))) : evCode E86 (tab (L86 k)) c86 (bodyOf Try.f86) 0 (finK E86 po86 [.tmp 4, .tmp 5]) (startSt pi86 28 d) = f86_m () d := by kernel_rfl
def g86 (d : pi86.den) : Option po86.den := f86_m () d
theorem ok86 : FnOk Try.prog ET0 86 pi86 po86 g86 :=
  fn_of_body (E := E86) e0_ok (fn := Try.f86) Try.func86 (by kernel_rfl) (by kernel_rfl) [.tmp 4, .tmp 5] (by kernel_rfl) (by kernel_rfl) (by decide) c86 L86
    (by intro x hx; cases hx) (by intro k x hx; cases hx) (fun d out h => ⟨0, (q86_m 0 d).trans h⟩)

/- horologe/stamp.ToPosix -/
@[reducible] def pi34 : PSh := ⟨[], [.mk false [.v (.int .i64)]]⟩
@[reducible] def po34 : PSh := ⟨[], [.mk false [.v (.int .i64)], .mk false [.v .err]]⟩
def f34_m (T : Unit) (d : Unit × ((Int × Unit) × Unit)) : Option (Unit × ((Int × Unit) × (((Option Int) × Unit) × Unit))) :=
  (g86 ((), ((d.2.1.1, ()), (((2208988800 : Int), ()), ())))).bind fun x1 =>
  some ((), ((x1.2.1.1, ()), ((x1.2.2.1.1, ()), ())))
def c34 : List Nat := []
def L34 (_ : Nat) : Pts po34.den := []
def E34 : Env := (E0.add 86 (typedSem pi86 po86 g86))
theorem q34_m (k : Nat) (d : Unit × ((Int × Unit) × Unit)) : evCode E34 (tab (L34 k)) c34 (bodyOf Try.f34) 0 (finK E34 po34 [.tmp 2, .tmp 3]) (startSt pi34 8 d) = f34_m () d := by kernel_rfl
def g34 (d : pi34.den) : Option po34.den := f34_m () d
theorem ok34 : FnOk Try.prog ET0 34 pi34 po34 g34 :=
  fn_of_body (E := E34) (envOk_add e0_ok (typed_ok ok86)) (fn := Try.f34) Try.func34 (by kernel_rfl) (by kernel_rfl) [.tmp 2, .tmp 3] (by kernel_rfl) (by kernel_rfl) (by decide) c34 L34
    (by intro x hx; cases hx) (by intro k x hx; cases hx) (fun d out h => ⟨0, (q34_m 0 d).trans h⟩)

/- horologe/horologeref05.Leap -/
@[reducible] def pi134 : PSh := ⟨[], [.mk false [.v (.int .i64)]]⟩
@[reducible] def po134 : PSh := ⟨[], [.mk false [.v .bool]]⟩
def f134_m (T : Unit) (d : Unit × ((Int × Unit) × Unit)) : Option (Unit × ((Bool × Unit) × Unit)) :=
  let x1 : Int := (Int.tmod d.2.1.1 (400 : Int))
  let x2 : Bool := (x1 == (0 : Int))
  bif x2 then (
  some ((), ((true, ()), ())))
  else (
  let x3 : Int := (Int.tmod d.2.1.1 (4 : Int))
  let x4 : Bool := (x3 == (0 : Int))
  bif x4 then (
  let x5 : Int := (Int.tmod d.2.1.1 (100 : Int))
  let x6 : Bool := (x5 != (0 : Int))
  some ((), ((x6, ()), ())))
  else (
  some ((), ((false, ()), ()))))
def c134 : List Nat := []
def L134 (_ : Nat) : Pts po134.den := []
def E134 : Env := E0
theorem q134_m (k : Nat) (d : Unit × ((Int × Unit) × Unit)) : evCode E134 (tab (L134 k)) c134 (bodyOf Try.f134) 0 (finK E134 po134 [.tmp 2]) (startSt pi134 14 d) = f134_m () d := by kernel_rfl
def g134 (d : pi134.den) : Option po134.den := f134_m () d
theorem ok134 : FnOk Try.prog ET0 134 pi134 po134 g134 :=
  fn_of_body (E := E134) e0_ok (fn := Try.f134) Try.func134 (by kernel_rfl) (by kernel_rfl) [.tmp 2] (by kernel_rfl) (by kernel_rfl) (by decide) c134 L134
    (by intro x hx; cases hx) (by intro k x hx; cases hx) (fun d out h => ⟨0, (q134_m 0 d).trans h⟩)

/- horologe/horologeref05.Days -/
@[reducible] def pi133 : PSh := ⟨[], [.mk false [.v (.int .i64)]]⟩
@[reducible] def po133 : PSh := ⟨[], [.mk false [.v (.int .i64)]]⟩
def f133_m (T : Unit) (d : Unit × ((Int × Unit) × Unit)) : Option (Unit × ((Int × Unit) × Unit)) :=
  (g134 ((), ((d.2.1.1, ()), ()))).bind fun x1 =>
  bif x1.2.1.1 then (
  some ((), (((366 : Int), ()), ())))
  else (
  some ((), (((365 : Int), ()), ())))
def c133 : List Nat := []
def L133 (_ : Nat) : Pts po133.den := []
def E133 : Env := (E0.add 134 (typedSem pi134 po134 g134))
theorem q133_m (k : Nat) (d : Unit × ((Int × Unit) × Unit)) : evCode E133 (tab (L133 k)) c133 (bodyOf Try.f133) 0 (finK E133 po133 [.tmp 2]) (startSt pi133 5 d) = f133_m () d := by kernel_rfl
def g133 (d : pi133.den) : Option po133.den := f133_m () d
theorem ok133 : FnOk Try.prog ET0 133 pi133 po133 g133 :=
  fn_of_body (E := E133) (envOk_add e0_ok (typed_ok ok134)) (fn := Try.f133) Try.func133 (by kernel_rfl) (by kernel_rfl) [.tmp 2] (by kernel_rfl) (by kernel_rfl) (by decide) c133 L133
    (by intro x hx; cases hx) (by intro k x hx; cases hx) (fun d out h => ⟨0, (q133_m 0 d).trans h⟩)

/- horologe/horologeref05.Start -/
@[reducible] def pi131 : PSh := ⟨[], [.mk false [.v (.int .i64)]]⟩
@[reducible] def po131 : PSh := ⟨[], [.mk false [.v (.int .i64)]]⟩
@[reducible] def sh131_3 : PSh := ⟨[], [.mk false [.v (.int .i64)], .any, .any, .mk false [.v (.int .i64)], .any, .any, .any, .any, .any, .any, .any, .any, .any, .any, .any, .any, .any, .any, .any, .any, .any, .any, .any, .any, .any, .any, .any]⟩
@[reducible] def sh131_8 : PSh := ⟨[], [.mk false [.v (.int .i64)], .any, .any, .mk false [.v (.int .i64)], .any, .any, .any, .any, .any, .any, .any, .any, .any, .any, .any, .any, .any, .any, .any, .any, .any, .any, .any, .any, .any, .any, .any]⟩
@[reducible] def sh131_14 : PSh := ⟨[], [.mk false [.v (.int .i64)], .any, .any, .mk false [.v (.int .i64)], .mk false [.v (.int .i64)], .any, .any, .any, .any, .any, .any, .any, .any, .any, .any, .any, .any, .any, .any, .any, .any, .any, .any, .any, .any, .any, .any]⟩
def f131_p3 (T : (((Unit × ((Int × Unit) × ((Int × Unit) × Unit))) → Option (Unit × ((Int × Unit) × Unit))) × (((Unit × ((Int × Unit) × ((Int × Unit) × Unit))) → Option (Unit × ((Int × Unit) × Unit))) × (((Unit × ((Int × Unit) × ((Int × Unit) × ((Int × Unit) × Unit)))) → Option (Unit × ((Int × Unit) × Unit))) × Unit)))) (d : Unit × ((Int × Unit) × ((Int × Unit) × Unit))) : Option (Unit × ((Int × Unit) × Unit)) :=
  let x1 : Bool := (decide (d.2.1.1 < (1970 : Int)))
  bif x1 then (
  let x2 : Int := (iadd .i64 d.2.1.1 (400 : Int))
  let x3 : Int := (isub .i64 d.2.2.1.1 (146097 : Int))
  (T.1 ((), ((x2, ()), ((x3, ()), ())))))
  else (
  (T.2.1 ((), ((d.2.1.1, ()), ((d.2.2.1.1, ()), ())))))
def f131_p8 (T : (((Unit × ((Int × Unit) × ((Int × Unit) × Unit))) → Option (Unit × ((Int × Unit) × Unit))) × (((Unit × ((Int × Unit) × ((Int × Unit) × Unit))) → Option (Unit × ((Int × Unit) × Unit))) × (((Unit × ((Int × Unit) × ((Int × Unit) × ((Int × Unit) × Unit)))) → Option (Unit × ((Int × Unit) × Unit))) × Unit)))) (d : Unit × ((Int × Unit) × ((Int × Unit) × Unit))) : Option (Unit × ((Int × Unit) × Unit)) :=
  let x4 : Bool := (decide (d.2.1.1 ≥ (2370 : Int)))
  bif x4 then (
  let x5 : Int := (isub .i64 d.2.1.1 (400 : Int))
  let x6 : Int := (iadd .i64 d.2.2.1.1 (146097 : Int))
  (T.2.1 ((), ((x5, ()), ((x6, ()), ())))))
  else (
  (T.2.2.1 ((), ((d.2.1.1, ()), ((d.2.2.1.1, ()), (((1970 : Int), ()), ()))))))
def f131_p14 (T : (((Unit × ((Int × Unit) × ((Int × Unit) × Unit))) → Option (Unit × ((Int × Unit) × Unit))) × (((Unit × ((Int × Unit) × ((Int × Unit) × Unit))) → Option (Unit × ((Int × Unit) × Unit))) × (((Unit × ((Int × Unit) × ((Int × Unit) × ((Int × Unit) × Unit)))) → Option (Unit × ((Int × Unit) × Unit))) × Unit)))) (d : Unit × ((Int × Unit) × ((Int × Unit) × ((Int × Unit) × Unit)))) : Option (Unit × ((Int × Unit) × Unit)) :=
  let x7 : Bool := (decide (d.2.2.2.1.1 < d.2.1.1))
  bif x7 then (
  (g133 ((), ((d.2.2.2.1.1, ()), ()))).bind fun x8 =>
  let x9 : Int := (iadd .i64 d.2.2.1.1 x8.2.1.1)
  let x10 : Int := (iadd .i64 d.2.2.2.1.1 (1 : Int))
  (T.2.2.1 ((), ((d.2.1.1, ()), ((x9, ()), ((x10, ()), ()))))))
  else (
  some ((), ((d.2.2.1.1, ()), ())))
def f131_t : Nat → (((Unit × ((Int × Unit) × ((Int × Unit) × Unit))) → Option (Unit × ((Int × Unit) × Unit))) × (((Unit × ((Int × Unit) × ((Int × Unit) × Unit))) → Option (Unit × ((Int × Unit) × Unit))) × (((Unit × ((Int × Unit) × ((Int × Unit) × ((Int × Unit) × Unit)))) → Option (Unit × ((Int × Unit) × Unit))) × Unit)))
  | 0 => (fun _ => none, (fun _ => none, (fun _ => none, ())))
  | k + 1 => (f131_p3 (f131_t k), (f131_p8 (f131_t k), (f131_p14 (f131_t k), ())))
theorem t131_s (k : Nat) : f131_t (k + 1) = (f131_p3 (f131_t k), (f131_p8 (f131_t k), (f131_p14 (f131_t k), ()))) := rfl
def f131_m (T : (((Unit × ((Int × Unit) × ((Int × Unit) × Unit))) → Option (Unit × ((Int × Unit) × Unit))) × (((Unit × ((Int × Unit) × ((Int × Unit) × Unit))) → Option (Unit × ((Int × Unit) × Unit))) × (((Unit × ((Int × Unit) × ((Int × Unit) × ((Int × Unit) × Unit)))) → Option (Unit × ((Int × Unit) × Unit))) × Unit)))) (d : Unit × ((Int × Unit) × Unit)) : Option (Unit × ((Int × Unit) × Unit)) :=
  (T.1 ((), ((d.2.1.1, ()), (((0 : Int), ()), ()))))
def c131 : List Nat := []
def L131 (k : Nat) : Pts po131.den := [(3, ⟨sh131_3, (f131_t k).1⟩), (8, ⟨sh131_8, (f131_t k).2.1⟩), (14, ⟨sh131_14, (f131_t k).2.2.1⟩)]
def E131 : Env := (E0.add 133 (typedSem pi133 po133 g133))
theorem q131_3 (k : Nat) (d : Unit × ((Int × Unit) × ((Int × Unit) × Unit))) : evAt E131 (tab (L131 k)) c131 3 (bodyOf Try.f131) 0 (finK E131 po131 [.tmp 2]) (ptSt sh131_3 d) = f131_p3 (f131_t k) d := by kernel_rfl
theorem q131_8 (k : Nat) (d : Unit × ((Int × Unit) × ((Int × Unit) × Unit))) : evAt E131 (tab (L131 k)) c131 8 (bodyOf Try.f131) 0 (finK E131 po131 [.tmp 2]) (ptSt sh131_8 d) = f131_p8 (f131_t k) d := by kernel_rfl
theorem q131_14 (k : Nat) (d : Unit × ((Int × Unit) × ((Int × Unit) × ((Int × Unit) × Unit)))) : evAt E131 (tab (L131 k)) c131 14 (bodyOf Try.f131) 0 (finK E131 po131 [.tmp 2]) (ptSt sh131_14 d) = f131_p14 (f131_t k) d := by kernel_rfl
theorem q131_m (k : Nat) (d : Unit × ((Int × Unit) × Unit)) : evCode E131 (tab (L131 k)) c131 (bodyOf Try.f131) 0 (finK E131 po131 [.tmp 2]) (startSt pi131 27 d) = f131_m (f131_t k) d := by kernel_rfl
theorem go131 (G : pi131.den → Option po131.den) (hG : ∀ d out, G d = some out → ∃ k, f131_m (f131_t k) d = some out) : FnOk Try.prog ET0 131 pi131 po131 G :=
  fn_of_body (E := E131) (envOk_add e0_ok (typed_ok ok133)) (fn := Try.f131) Try.func131 (by kernel_rfl) (by kernel_rfl) [.tmp 2] (by kernel_rfl) (by kernel_rfl) (by decide) c131 L131
    (by intro x hx d; simp only [L131, List.mem_cons, List.not_mem_nil, or_false] at hx; rcases hx with rfl | rfl | rfl <;> first | (rfl) | (rfl) | (rfl))
    (by intro k x hx d out h; simp only [L131, List.mem_cons, List.not_mem_nil, or_false] at hx; rcases hx with rfl | rfl | rfl <;> first | (exact (q131_3 k d).trans h) | (exact (q131_8 k d).trans h) | (exact (q131_14 k d).trans h))
    (by intro d out h; obtain ⟨k, hk⟩ := hG d out h; exact ⟨k, (q131_m k d).trans hk⟩)
def g131 (d : pi131.den) : Option po131.den := lim fun k => f131_m (f131_t k) d
theorem ok131 : FnOk Try.prog ET0 131 pi131 po131 g131 := go131 g131 fun d out h => lim_some h

/- horologe/horologeref05.Month -/
@[reducible] def pi132 : PSh := ⟨[], [.mk false [.v (.int .i64)], .mk false [.v (.int .i64)]]⟩
@[reducible] def po132 : PSh := ⟨[], [.mk false [.v (.int .i64)]]⟩
def f132_m (T : Unit) (d : Unit × ((Int × Unit) × ((Int × Unit) × Unit))) : Option (Unit × ((Int × Unit) × Unit)) :=
  let x1 : (List Int) := ([(31 : Int), (28 : Int), (31 : Int), (30 : Int), (31 : Int), (30 : Int), (31 : Int), (31 : Int), (30 : Int), (31 : Int), (30 : Int), (31 : Int)] : List Int)
  let x2 : Bool := (d.2.2.1.1 == (2 : Int))
  bif x2 then (
  (g134 ((), ((d.2.1.1, ()), ()))).bind fun x3 =>
  bif x3.2.1.1 then (
  some ((), (((29 : Int), ()), ())))
  else (
  let x4 : Int := (isub .i64 d.2.2.1.1 (1 : Int))
  bif decide ((0 : Int) ≤ x4) && decide (x4 < (x1.length : Int)) then (
  some ((), (((gd (.int .i64) x1 x4), ()), ())))
  else none))
  else (
  let x5 : Int := (isub .i64 d.2.2.1.1 (1 : Int))
  bif decide ((0 : Int) ≤ x5) && decide (x5 < (x1.length : Int)) then (
  some ((), (((gd (.int .i64) x1 x5), ()), ())))
  else none)
def c132 : List Nat := []
def L132 (_ : Nat) : Pts po132.den := []
def E132 : Env := (E0.add 134 (typedSem pi134 po134 g134))
theorem q132_m (k : Nat) (d : Unit × ((Int × Unit) × ((Int × Unit) × Unit))) : evCode E132 (tab (L132 k)) c132 (bodyOf Try.f132) 0 (finK E132 po132 [.tmp 4]) (startSt pi132 18 d) = f132_m () d := by kernel_rfl
def g132 (d : pi132.den) : Option po132.den := f132_m () d
theorem ok132 : FnOk Try.prog ET0 132 pi132 po132 g132 :=
  fn_of_body (E := E132) (envOk_add e0_ok (typed_ok ok134)) (fn := Try.f132) Try.func132 (by kernel_rfl) (by kernel_rfl) [.tmp 4] (by kernel_rfl) (by kernel_rfl) (by decide) c132 L132
    (by intro x hx; cases hx) (by intro k x hx; cases hx) (fun d out h => ⟨0, (q132_m 0 d).trans h⟩)

/- horologe/horologeref05.Of -/
@[reducible] def pi121 : PSh := ⟨[], [.mk false [.v (.int .i64)], .mk false [.v (.int .i64)], .mk false [.v (.int .i64)]]⟩
@[reducible] def po121 : PSh := ⟨[], [.mk false [.v (.int .i64)]]⟩
@[reducible] def sh121_4 : PSh := ⟨[], [.mk false [.v (.int .i64)], .mk false [.v (.int .i64)], .any, .any, .any, .any, .any, .mk false [.v (.int .i64)], .mk false [.v (.int .i64)], .any, .any, .any, .any, .any, .any, .any, .any, .any, .any, .any, .any, .any, .any, .any, .any]⟩
def f121_p4 (T : (((Unit × ((Int × Unit) × ((Int × Unit) × ((Int × Unit) × ((Int × Unit) × Unit))))) → Option (Unit × ((Int × Unit) × Unit))) × Unit)) (d : Unit × ((Int × Unit) × ((Int × Unit) × ((Int × Unit) × ((Int × Unit) × Unit))))) : Option (Unit × ((Int × Unit) × Unit)) :=
  let x4 : Bool := (decide (d.2.2.2.2.1.1 < d.2.2.1.1))
  bif x4 then (
  (g132 ((), ((d.2.1.1, ()), ((d.2.2.2.2.1.1, ()), ())))).bind fun x5 =>
  let x6 : Int := (iadd .i64 d.2.2.2.1.1 x5.2.1.1)
  let x7 : Int := (iadd .i64 d.2.2.2.2.1.1 (1 : Int))
  (T.1 ((), ((d.2.1.1, ()), ((d.2.2.1.1, ()), ((x6, ()), ((x7, ()), ())))))))
  else (
  some ((), ((d.2.2.2.1.1, ()), ())))
def f121_t : Nat → (((Unit × ((Int × Unit) × ((Int × Unit) × ((Int × Unit) × ((Int × Unit) × Unit))))) → Option (Unit × ((Int × Unit) × Unit))) × Unit)
  | 0 => (fun _ => none, ())
  | k + 1 => (f121_p4 (f121_t k), ())
theorem t121_s (k : Nat) : f121_t (k + 1) = (f121_p4 (f121_t k), ()) := rfl
def f121_m (T : (((Unit × ((Int × Unit) × ((Int × Unit) × ((Int × Unit) × ((Int × Unit) × Unit))))) → Option (Unit × ((Int × Unit) × Unit))) × Unit)) (d : Unit × ((Int × Unit) × ((Int × Unit) × ((Int × Unit) × Unit)))) : Option (Unit × ((Int × Unit) × Unit)) :=
  (g131 ((), ((d.2.1.1, ()), ()))).bind fun x1 =>
  let x2 : Int := (iadd .i64 x1.2.1.1 d.2.2.2.1.1)
  let x3 : Int := (isub .i64 x2 (1 : Int))
  (T.1 ((), ((d.2.1.1, ()), ((d.2.2.1.1, ()), ((x3, ()), (((1 : Int), ()), ()))))))
def c121 : List Nat := []
def L121 (k : Nat) : Pts po121.den := [(4, ⟨sh121_4, (f121_t k).1⟩)]
def E121 : Env := ((E0.add 131 (typedSem pi131 po131 g131)).add 132 (typedSem pi132 po132 g132))
theorem q121_4 (k : Nat) (d : Unit × ((Int × Unit) × ((Int × Unit) × ((Int × Unit) × ((Int × Unit) × Unit))))) : evAt E121 (tab (L121 k)) c121 4 (bodyOf Try.f121) 0 (finK E121 po121 [.tmp 6]) (ptSt sh121_4 d) = f121_p4 (f121_t k) d := by kernel_rfl
theorem q121_m (k : Nat) (d : Unit × ((Int × Unit) × ((Int × Unit) × ((Int × Unit) × Unit)))) : evCode E121 (tab (L121 k)) c121 (bodyOf Try.f121) 0 (finK E121 po121 [.tmp 6]) (startSt pi121 25 d) = f121_m (f121_t k) d := by kernel_rfl
theorem go121 (G : pi121.den → Option po121.den) (hG : ∀ d out, G d = some out → ∃ k, f121_m (f121_t k) d = some out) : FnOk Try.prog ET0 121 pi121 po121 G :=
  fn_of_body (E := E121) (envOk_add (envOk_add e0_ok (typed_ok ok131)) (typed_ok ok132)) (fn := Try.f121) Try.func121 (by kernel_rfl) (by kernel_rfl) [.tmp 6] (by kernel_rfl) (by kernel_rfl) (by decide) c121 L121
    (by intro x hx d; simp only [L121, List.mem_cons, List.not_mem_nil, or_false] at hx; subst hx; rfl)
    (by intro k x hx d out h; simp only [L121, List.mem_cons, List.not_mem_nil, or_false] at hx; subst hx; exact (q121_4 k d).trans h)
    (by intro d out h; obtain ⟨k, hk⟩ := hG d out h; exact ⟨k, (q121_m k d).trans hk⟩)
def g121 (d : pi121.den) : Option po121.den := lim fun k => f121_m (f121_t k) d
theorem ok121 : FnOk Try.prog ET0 121 pi121 po121 g121 := go121 g121 fun d out h => lim_some h

/- horologe/horologeref15.Begin -/
@[reducible] def pi87 : PSh := ⟨[], []⟩
@[reducible] def po87 : PSh := ⟨[], [.mk false [.v (.int .i64)]]⟩
def f87_m (T : Unit) (d : Unit × Unit) : Option (Unit × ((Int × Unit) × Unit)) :=
  (g121 ((), (((1900 : Int), ()), (((1 : Int), ()), (((1 : Int), ()), ()))))).bind fun x1 =>
  let x2 : Int := (ineg .i64 x1.2.1.1)
  let x3 : Int := (imul .i64 x2 (86400 : Int))
  some ((), ((x3, ()), ()))
def c87 : List Nat := []
def L87 (_ : Nat) : Pts po87.den := []
def E87 : Env := (E0.add 121 (typedSem pi121 po121 g121))
theorem q87_m (k : Nat) (d : Unit × Unit) : evCode E87 (tab (L87 k)) c87 (bodyOf Try.f87) 0 (finK E87 po87 [.tmp 0]) (startSt pi87 4 d) = f87_m () d := by kernel_rfl
def g87 (d : pi87.den) : Option po87.den := f87_m () d
theorem ok87 : FnOk Try.prog ET0 87 pi87 po87 g87 :=
  fn_of_body (E := E87) (envOk_add e0_ok (typed_ok ok121)) (fn := Try.f87) Try.func87 (by kernel_rfl) (by kernel_rfl) [.tmp 0] (by kernel_rfl) (by kernel_rfl) (by decide) c87 L87
    (by intro x hx; cases hx) (by intro k x hx; cases hx) (fun d out h => ⟨0, (q87_m 0 d).trans h⟩)

/- horologe/head.in -/
@[reducible] def pi90 : PSh := ⟨[], [.mk false [.v (.int .i64)], .mk false [.v (.int .i64)]]⟩
@[reducible] def po90 : PSh := ⟨[], [.mk false [.v .bool]]⟩
def f90_m (T : Unit) (d : Unit × ((Int × Unit) × ((Int × Unit) × Unit))) : Option (Unit × ((Bool × Unit) × Unit)) :=
  let x1 : Bool := (decide (d.2.1.1 ≥ (0 : Int)))
  bif x1 then (
  let x2 : Bool := (decide (d.2.1.1 ≤ d.2.2.1.1))
  some ((), ((x2, ()), ())))
  else (
  some ((), ((false, ()), ())))
def c90 : List Nat := []
def L90 (_ : Nat) : Pts po90.den := []
def E90 : Env := E0
theorem q90_m (k : Nat) (d : Unit × ((Int × Unit) × ((Int × Unit) × Unit))) : evCode E90 (tab (L90 k)) c90 (bodyOf Try.f90) 0 (finK E90 po90 [.tmp 4]) (startSt pi90 12 d) = f90_m () d := by kernel_rfl
def g90 (d : pi90.den) : Option po90.den := f90_m () d
theorem ok90 : FnOk Try.prog ET0 90 pi90 po90 g90 :=
  fn_of_body (E := E90) e0_ok (fn := Try.f90) Try.func90 (by kernel_rfl) (by kernel_rfl) [.tmp 4] (by kernel_rfl) (by kernel_rfl) (by decide) c90 L90
    (by intro x hx; cases hx) (by intro k x hx; cases hx) (fun d out h => ⟨0, (q90_m 0 d).trans h⟩)

/- horologe/head.Check -/
@[reducible] def pi41 : PSh := ⟨[], [.mk true [.v (.int .i64), .v (.int .i64), .v (.int .i64), .v (.int .u8), .v (.int .i8), .v (.int .i8), .v (.int .u16), .v (.int .u16), .v (.int .u16), .v (.int .u16), .v (.int .u8), .v (.int .u8), .v (.int .u8), .v (.int .u8), .v (.int .u32), .v (.int .u32), .v (.int .u32), .v (.int .u32), .v (.int .u32), .v (.int .u32), .v (.int .u32), .v (.int .u32)]]⟩
@[reducible] def po41 : PSh := ⟨[], [.mk false [.v .err]]⟩
def f41_m (T : Unit) (d : Unit × ((Int × (Int × (Int × (Int × (Int × (Int × (Int × (Int × (Int × (Int × (Int × (Int × (Int × (Int × (Int × (Int × (Int × (Int × (Int × (Int × (Int × (Int × Unit)))))))))))))))))))))) × Unit)) : Option (Unit × (((Option Int) × Unit) × Unit)) :=
  (g90 ((), ((d.2.1.1, ()), (((3 : Int), ()), ())))).bind fun x1 =>
  let x2 : Bool := (!x1.2.1.1)
  bif x2 then (
  let x3 : (Option Int) := (some (1 : Int))
  some ((), ((x3, ()), ())))
  else (
  (g90 ((), ((d.2.1.2.1, ()), (((7 : Int), ()), ())))).bind fun x4 =>
  let x5 : Bool := (!x4.2.1.1)
  bif x5 then (
  let x6 : (Option Int) := (some (1 : Int))
  some ((), ((x6, ()), ())))
  else (
  (g90 ((), ((d.2.1.2.2.1, ()), (((7 : Int), ()), ())))).bind fun x7 =>
  let x8 : Bool := (!x7.2.1.1)
  bif x8 then (
  let x9 : (Option Int) := (some (1 : Int))
  some ((), ((x9, ()), ())))
  else (
  some ((), (((none : Option Int), ()), ())))))
def c41 : List Nat := []
def L41 (_ : Nat) : Pts po41.den := []
def E41 : Env := (E0.add 90 (typedSem pi90 po90 g90))
theorem q41_m (k : Nat) (d : Unit × ((Int × (Int × (Int × (Int × (Int × (Int × (Int × (Int × (Int × (Int × (Int × (Int × (Int × (Int × (Int × (Int × (Int × (Int × (Int × (Int × (Int × (Int × Unit)))))))))))))))))))))) × Unit)) : evCode E41 (tab (L41 k)) c41 (bodyOf Try.f41) 0 (finK E41 po41 [.tmp 2]) (startSt pi41 20 d) = f41_m () d := by kernel_rfl
def g41 (d : pi41.den) : Option po41.den := f41_m () d
theorem ok41 : FnOk Try.prog ET0 41 pi41 po41 g41 :=
  fn_of_body (E := E41) (envOk_add e0_ok (typed_ok ok90)) (fn := Try.f41) Try.func41 (by kernel_rfl) (by kernel_rfl) [.tmp 2] (by kernel_rfl) (by kernel_rfl) (by decide) c41 L41
    (by intro x hx; cases hx) (by intro k x hx; cases hx) (fun d out h => ⟨0, (q41_m 0 d).trans h⟩)

/- horologe/octets.Put[uint32] -/
@[reducible] def pi43 : PSh := ⟨[], [.mk false [.v (.sl (.int .u8))], .mk false [.v (.sl (.int .u32))]]⟩
@[reducible] def po43 : PSh := ⟨[.row 5 (.int .u8)], [.mk false [.osl 0]]⟩
@[reducible] def sh43_5 : PSh := ⟨[.row 5 (.int .u8)], [.any, .any, .any, .any, .any, .mk false [.v (.int .i64)], .mk false [.osl 0], .any, .any, .any, .any, .any, .any, .mk false [.v (.sl (.int .u32))], .mk false [.v (.int .i64)], .mk false [.v (.int .i64)], .any, .any, .any, .any, .any, .any, .any, .any, .any, .any, .any, .any, .any, .any, .any, .any, .any, .any, .any, .any]⟩
@[reducible] def sh43_11 : PSh := ⟨[.row 5 (.int .u8)], [.any, .any, .any, .any, .any, .mk false [.v (.int .i64)], .mk false [.osl 0], .any, .mk false [.v (.int .u32)], .mk false [.v (.int .i64)], .any, .any, .any, .mk false [.v (.sl (.int .u32))], .mk false [.v (.int .i64)], .mk false [.v (.int .i64)], .any, .any, .any, .any, .any, .any, .any, .any, .any, .any, .any, .any, .any, .any, .any, .any, .any, .any, .any, .any]⟩
def f43_p5 (T : (((((List Int) × Unit) × ((Int × Unit) × (Unit × (((List Int) × Unit) × ((Int × Unit) × ((Int × Unit) × Unit)))))) → Option (((List Int) × Unit) × (Unit × Unit))) × (((((List Int) × Unit) × ((Int × Unit) × (Unit × ((Int × Unit) × ((Int × Unit) × (((List Int) × Unit) × ((Int × Unit) × ((Int × Unit) × Unit)))))))) → Option (((List Int) × Unit) × (Unit × Unit))) × Unit))) (d : ((List Int) × Unit) × ((Int × Unit) × (Unit × (((List Int) × Unit) × ((Int × Unit) × ((Int × Unit) × Unit)))))) : Option (((List Int) × Unit) × (Unit × Unit)) :=
  let x4 : Bool := (decide (d.2.2.2.2.2.1.1 < d.2.2.2.2.1.1))
  bif x4 then (
  bif decide ((0 : Int) ≤ d.2.2.2.2.2.1.1) && decide (d.2.2.2.2.2.1.1 < (d.2.2.2.1.1.length : Int)) then (
  let x5 : Int := (isub .i64 d.2.1.1 (1 : Int))
  (T.2.1 ((d.1.1, ()), ((d.2.1.1, ()), ((), (((gd (.int .u32) d.2.2.2.1.1 d.2.2.2.2.2.1.1), ()), ((x5, ()), ((d.2.2.2.1.1, ()), ((d.2.2.2.2.1.1, ()), ((d.2.2.2.2.2.1.1, ()), ()))))))))))
  else none)
  else (
  some ((d.1.1, ()), ((), ())))
def f43_p11 (T : (((((List Int) × Unit) × ((Int × Unit) × (Unit × (((List Int) × Unit) × ((Int × Unit) × ((Int × Unit) × Unit)))))) → Option (((List Int) × Unit) × (Unit × Unit))) × (((((List Int) × Unit) × ((Int × Unit) × (Unit × ((Int × Unit) × ((Int × Unit) × (((List Int) × Unit) × ((Int × Unit) × ((Int × Unit) × Unit)))))))) → Option (((List Int) × Unit) × (Unit × Unit))) × Unit))) (d : ((List Int) × Unit) × ((Int × Unit) × (Unit × ((Int × Unit) × ((Int × Unit) × (((List Int) × Unit) × ((Int × Unit) × ((Int × Unit) × Unit)))))))) : Option (((List Int) × Unit) × (Unit × Unit)) :=
  let x6 : Bool := (decide (d.2.2.2.2.1.1 ≥ (0 : Int)))
  bif x6 then (
  let x7 : Int := (iconv .u64 d.2.2.2.1.1)
  let x8 : Int := (imul .i64 (8 : Int) d.2.2.2.2.1.1)
  bif decide (x8 < 0) then (
  none)
  else (
  let x9 : Int := (ishr .u64 x7 x8)
  let x10 : Int := (iconv .u8 x9)
  let x11 : (List Int) := ([x10] : List Int)
  bif decide (((d.1.1.length + x11.length) * 1 : Nat) ≤ 140737488355328) && decide (d.1.1.length + x11.length ≤ 9223372036854775807) then (
  let x12 : (List Int) := (d.1.1 ++ x11)
  let x13 : Int := (isub .i64 d.2.2.2.2.1.1 (1 : Int))
  (T.2.1 ((x12, ()), ((d.2.1.1, ()), ((), ((d.2.2.2.1.1, ()), ((x13, ()), ((d.2.2.2.2.2.1.1, ()), ((d.2.2.2.2.2.2.1.1, ()), ((d.2.2.2.2.2.2.2.1.1, ()), ()))))))))))
  else none))
  else (
  let x14 : Int := (iadd .i64 d.2.2.2.2.2.2.2.1.1 (1 : Int))
  (T.1 ((d.1.1, ()), ((d.2.1.1, ()), ((), ((d.2.2.2.2.2.1.1, ()), ((d.2.2.2.2.2.2.1.1, ()), ((x14, ()), ()))))))))
def f43_t : Nat → (((((List Int) × Unit) × ((Int × Unit) × (Unit × (((List Int) × Unit) × ((Int × Unit) × ((Int × Unit) × Unit)))))) → Option (((List Int) × Unit) × (Unit × Unit))) × (((((List Int) × Unit) × ((Int × Unit) × (Unit × ((Int × Unit) × ((Int × Unit) × (((List Int) × Unit) × ((Int × Unit) × ((Int × Unit) × Unit)))))))) → Option (((List Int) × Unit) × (Unit × Unit))) × Unit))
  | 0 => (fun _ => none, (fun _ => none, ()))
  | k + 1 => (f43_p5 (f43_t k), (f43_p11 (f43_t k), ()))
theorem t43_s (k : Nat) : f43_t (k + 1) = (f43_p5 (f43_t k), (f43_p11 (f43_t k), ())) := rfl
def f43_m (T : (((((List Int) × Unit) × ((Int × Unit) × (Unit × (((List Int) × Unit) × ((Int × Unit) × ((Int × Unit) × Unit)))))) → Option (((List Int) × Unit) × (Unit × Unit))) × (((((List Int) × Unit) × ((Int × Unit) × (Unit × ((Int × Unit) × ((Int × Unit) × (((List Int) × Unit) × ((Int × Unit) × ((Int × Unit) × Unit)))))))) → Option (((List Int) × Unit) × (Unit × Unit))) × Unit))) (d : Unit × (((List Int) × Unit) × (((List Int) × Unit) × Unit))) : Option (((List Int) × Unit) × (Unit × Unit)) :=
  (g91 ((), ())).bind fun x1 =>
  (g76 ((), ((d.2.1.1, ()), ()))).bind fun x2 =>
  let x3 : Int := (d.2.2.1.1.length : Int)
  (T.1 ((x2.1.1, ()), ((x1.2.1.1, ()), ((), ((d.2.2.1.1, ()), ((x3, ()), (((0 : Int), ()), ())))))))
def c43 : List Nat := []
def L43 (k : Nat) : Pts po43.den := [(5, ⟨sh43_5, (f43_t k).1⟩), (11, ⟨sh43_11, (f43_t k).2.1⟩)]
def E43 : Env := ((E0.add 76 (typedSem pi76 po76 g76)).add 91 (typedSem pi91 po91 g91))
theorem q43_5 (k : Nat) (d : ((List Int) × Unit) × ((Int × Unit) × (Unit × (((List Int) × Unit) × ((Int × Unit) × ((Int × Unit) × Unit)))))) : evAt E43 (tab (L43 k)) c43 5 (bodyOf Try.f43) 0 (finK E43 po43 [.tmp 4]) (ptSt sh43_5 d) = f43_p5 (f43_t k) d := by kernel_rfl
theorem q43_11 (k : Nat) (d : ((List Int) × Unit) × ((Int × Unit) × (Unit × ((Int × Unit) × ((Int × Unit) × (((List Int) × Unit) × ((Int × Unit) × ((Int × Unit) × Unit)))))))) : evAt E43 (tab (L43 k)) c43 11 (bodyOf Try.f43) 0 (finK E43 po43 [.tmp 4]) (ptSt sh43_11 d) = f43_p11 (f43_t k) d := by kernel_rfl
theorem q43_m (k : Nat) (d : Unit × (((List Int) × Unit) × (((List Int) × Unit) × Unit))) : evCode E43 (tab (L43 k)) c43 (bodyOf Try.f43) 0 (finK E43 po43 [.tmp 4]) (startSt pi43 36 d) = f43_m (f43_t k) d := by kernel_rfl
theorem go43 (G : pi43.den → Option po43.den) (hG : ∀ d out, G d = some out → ∃ k, f43_m (f43_t k) d = some out) : FnOk Try.prog ET0 43 pi43 po43 G :=
  fn_of_body (E := E43) (envOk_add (envOk_add e0_ok (typed_ok ok76)) (typed_ok ok91)) (fn := Try.f43) Try.func43 (by kernel_rfl) (by kernel_rfl) [.tmp 4] (by kernel_rfl) (by kernel_rfl) (by decide) c43 L43
    (by intro x hx d; simp only [L43, List.mem_cons, List.not_mem_nil, or_false] at hx; rcases hx with rfl | rfl <;> first | (rfl) | (rfl))
    (by intro k x hx d out h; simp only [L43, List.mem_cons, List.not_mem_nil, or_false] at hx; rcases hx with rfl | rfl <;> first | (exact (q43_5 k d).trans h) | (exact (q43_11 k d).trans h))
    (by intro d out h; obtain ⟨k, hk⟩ := hG d out h; exact ⟨k, (q43_m k d).trans hk⟩)
def g43 (d : pi43.den) : Option po43.den := lim fun k => f43_m (f43_t k) d
theorem ok43 : FnOk Try.prog ET0 43 pi43 po43 g43 := go43 g43 fun d out h => lim_some h

/- horologe/stamp.Bytes -/
@[reducible] def pi55 : PSh := ⟨[], [.mk true [.v (.int .u32), .v (.int .u32)]]⟩
@[reducible] def po55 : PSh := ⟨[.row 5 (.int .u8)], [.mk false [.osl 0]]⟩
def f55_m (T : Unit) (d : Unit × ((Int × (Int × Unit)) × Unit)) : Option (((List Int) × Unit) × (Unit × Unit)) :=
  let x1 : (List Int) := ([d.2.1.1, d.2.1.2.1] : List Int)
  (g43 ((), ((([] : List Int), ()), ((x1, ()), ())))).bind fun x2 =>
  some ((x2.1.1, ()), ((), ()))
def c55 : List Nat := []
def L55 (_ : Nat) : Pts po55.den := []
def E55 : Env := (E0.add 43 (typedSem pi43 po43 g43))
theorem q55_m (k : Nat) (d : Unit × ((Int × (Int × Unit)) × Unit)) : evCode E55 (tab (L55 k)) c55 (bodyOf Try.f55) 0 (finK E55 po55 [.tmp 2]) (startSt pi55 9 d) = f55_m () d := by kernel_rfl
def g55 (d : pi55.den) : Option po55.den := f55_m () d
theorem ok55 : FnOk Try.prog ET0 55 pi55 po55 g55 :=
  fn_of_body (E := E55) (envOk_add e0_ok (typed_ok ok43)) (fn := Try.f55) Try.func55 (by kernel_rfl) (by kernel_rfl) [.tmp 2] (by kernel_rfl) (by kernel_rfl) (by decide) c55 L55
    (by intro x hx; cases hx) (by intro k x hx; cases hx) (fun d out h => ⟨0, (q55_m 0 d).trans h⟩)

/- horologe/stamp.ShortBytes -/
@[reducible] def pi57 : PSh := ⟨[], [.mk true [.v (.int .u16), .v (.int .u16)]]⟩
@[reducible] def po57 : PSh := ⟨[.row 5 (.int .u8)], [.mk false [.osl 0]]⟩
def f57_m (T : Unit) (d : Unit × ((Int × (Int × Unit)) × Unit)) : Option (((List Int) × Unit) × (Unit × Unit)) :=
  let x1 : (List Int) := ([d.2.1.1, d.2.1.2.1] : List Int)
  (g44 ((), ((([] : List Int), ()), ((x1, ()), ())))).bind fun x2 =>
  some ((x2.1.1, ()), ((), ()))
def c57 : List Nat := []
def L57 (_ : Nat) : Pts po57.den := []
def E57 : Env := (E0.add 44 (typedSem pi44 po44 g44))
theorem q57_m (k : Nat) (d : Unit × ((Int × (Int × Unit)) × Unit)) : evCode E57 (tab (L57 k)) c57 (bodyOf Try.f57) 0 (finK E57 po57 [.tmp 2]) (startSt pi57 9 d) = f57_m () d := by kernel_rfl
def g57 (d : pi57.den) : Option po57.den := f57_m () d
theorem ok57 : FnOk Try.prog ET0 57 pi57 po57 g57 :=
  fn_of_body (E := E57) (envOk_add e0_ok (typed_ok ok44)) (fn := Try.f57) Try.func57 (by kernel_rfl) (by kernel_rfl) [.tmp 2] (by kernel_rfl) (by kernel_rfl) (by decide) c57 L57
    (by intro x hx; cases hx) (by intro k x hx; cases hx) (fun d out h => ⟨0, (q57_m 0 d).trans h⟩)

/- horologe/octets.Size[uint8] -/
@[reducible] def pi98 : PSh := ⟨[], []⟩
@[reducible] def po98 : PSh := ⟨[], [.mk false [.v (.int .i64)]]⟩
@[reducible] def sh98_4 : PSh := ⟨[], [.any, .mk false [.v (.int .i64)], .mk false [.v (.int .u8)], .any, .any, .any, .any, .any, .any, .any, .any, .any, .any, .any]⟩
def f98_p4 (T : (((Unit × ((Int × Unit) × ((Int × Unit) × Unit))) → Option (Unit × ((Int × Unit) × Unit))) × Unit)) (d : Unit × ((Int × Unit) × ((Int × Unit) × Unit))) : Option (Unit × ((Int × Unit) × Unit)) :=
  let x3 : Bool := (decide (d.2.2.1.1 > (0 : Int)))
  bif x3 then (
  let x4 : Int := (iadd .i64 d.2.1.1 (1 : Int))
  let x5 : Int := (iconv .u64 d.2.2.1.1)
  let x6 : Int := (ishr .u64 x5 (8 : Int))
  let x7 : Int := (iconv .u8 x6)
  (T.1 ((), ((x4, ()), ((x7, ()), ())))))
  else (
  some ((), ((d.2.1.1, ()), ())))
def f98_t : Nat → (((Unit × ((Int × Unit) × ((Int × Unit) × Unit))) → Option (Unit × ((Int × Unit) × Unit))) × Unit)
  | 0 => (fun _ => none, ())
  | k + 1 => (f98_p4 (f98_t k), ())
theorem t98_s (k : Nat) : f98_t (k + 1) = (f98_p4 (f98_t k), ()) := rfl
def f98_m (T : (((Unit × ((Int × Unit) × ((Int × Unit) × Unit))) → Option (Unit × ((Int × Unit) × Unit))) × Unit)) (d : Unit × Unit) : Option (Unit × ((Int × Unit) × Unit)) :=
  let x1 : Int := (iconv .u8 (0 : Int))
  let x2 : Int := (inot .u8 x1)
  (T.1 ((), (((0 : Int), ()), ((x2, ()), ()))))
def c98 : List Nat := []
def L98 (k : Nat) : Pts po98.den := [(4, ⟨sh98_4, (f98_t k).1⟩)]
def E98 : Env := E0
theorem q98_4 (k : Nat) (d : Unit × ((Int × Unit) × ((Int × Unit) × Unit))) : evAt E98 (tab (L98 k)) c98 4 (bodyOf Try.f98) 0 (finK E98 po98 [.tmp 0]) (ptSt sh98_4 d) = f98_p4 (f98_t k) d := by kernel_rfl
theorem q98_m (k : Nat) (d : Unit × Unit) : evCode E98 (tab (L98 k)) c98 (bodyOf Try.f98) 0 (finK E98 po98 [.tmp 0]) (startSt pi98 14 d) = f98_m (f98_t k) d := by kernel_rfl
theorem go98 (G : pi98.den → Option po98.den) (hG : ∀ d out, G d = some out → ∃ k, f98_m (f98_t k) d = some out) : FnOk Try.prog ET0 98 pi98 po98 G :=
  fn_of_body (E := E98) e0_ok (fn := Try.f98) Try.func98 (by kernel_rfl) (by kernel_rfl) [.tmp 0] (by kernel_rfl) (by kernel_rfl) (by decide) c98 L98
    (by intro x hx d; simp only [L98, List.mem_cons, List.not_mem_nil, or_false] at hx; subst hx; rfl)
    (by intro k x hx d out h; simp only [L98, List.mem_cons, List.not_mem_nil, or_false] at hx; subst hx; exact (q98_4 k d).trans h)
    (by intro d out h; obtain ⟨k, hk⟩ := hG d out h; exact ⟨k, (q98_m k d).trans hk⟩)
def g98 (d : pi98.den) : Option po98.den := lim fun k => f98_m (f98_t k) d
theorem ok98 : FnOk Try.prog ET0 98 pi98 po98 g98 := go98 g98 fun d out h => lim_some h

/- horologe/octets.word[uint8] -/
@[reducible] def pi123 : PSh := ⟨[], [.mk false [.v (.sl (.int .u8))]]⟩
@[reducible] def po123 : PSh := ⟨[], [.mk false [.v (.int .u8)]]⟩
@[reducible] def sh123_4 : PSh := ⟨[], [.any, .any, .any, .mk false [.v (.int .u64)], .any, .any, .mk false [.v (.sl (.int .u8))], .mk false [.v (.int .i64)], .mk false [.v (.int .i64)], .any, .any, .any, .any, .any, .any, .any, .any, .any, .any, .any]⟩
def f123_p4 (T : (((Unit × ((Int × Unit) × (((List Int) × Unit) × ((Int × Unit) × ((Int × Unit) × Unit))))) → Option (Unit × ((Int × Unit) × Unit))) × Unit)) (d : Unit × ((Int × Unit) × (((List Int) × Unit) × ((Int × Unit) × ((Int × Unit) × Unit))))) : Option (Unit × ((Int × Unit) × Unit)) :=
  let x2 : Bool := (decide (d.2.2.2.2.1.1 < d.2.2.2.1.1))
  bif x2 then (
  bif decide ((0 : Int) ≤ d.2.2.2.2.1.1) && decide (d.2.2.2.2.1.1 < (d.2.2.1.1.length : Int)) then (
  let x3 : Int := (ishl .u64 d.2.1.1 (8 : Int))
  let x4 : Int := (iconv .u64 (gd (.int .u8) d.2.2.1.1 d.2.2.2.2.1.1))
  let x5 : Int := (ior .u64 x3 x4)
  let x6 : Int := (iadd .i64 d.2.2.2.2.1.1 (1 : Int))
  (T.1 ((), ((x5, ()), ((d.2.2.1.1, ()), ((d.2.2.2.1.1, ()), ((x6, ()), ())))))))
  else none)
  else (
  let x7 : Int := (iconv .u8 d.2.1.1)
  some ((), ((x7, ()), ())))
def f123_t : Nat → (((Unit × ((Int × Unit) × (((List Int) × Unit) × ((Int × Unit) × ((Int × Unit) × Unit))))) → Option (Unit × ((Int × Unit) × Unit))) × Unit)
  | 0 => (fun _ => none, ())
  | k + 1 => (f123_p4 (f123_t k), ())
theorem t123_s (k : Nat) : f123_t (k + 1) = (f123_p4 (f123_t k), ()) := rfl
def f123_m (T : (((Unit × ((Int × Unit) × (((List Int) × Unit) × ((Int × Unit) × ((Int × Unit) × Unit))))) → Option (Unit × ((Int × Unit) × Unit))) × Unit)) (d : Unit × (((List Int) × Unit) × Unit)) : Option (Unit × ((Int × Unit) × Unit)) :=
  let x1 : Int := (d.2.1.1.length : Int)
  (T.1 ((), (((0 : Int), ()), ((d.2.1.1, ()), ((x1, ()), (((0 : Int), ()), ()))))))
def c123 : List Nat := []
def L123 (k : Nat) : Pts po123.den := [(4, ⟨sh123_4, (f123_t k).1⟩)]
def E123 : Env := E0
theorem q123_4 (k : Nat) (d : Unit × ((Int × Unit) × (((List Int) × Unit) × ((Int × Unit) × ((Int × Unit) × Unit))))) : evAt E123 (tab (L123 k)) c123 4 (bodyOf Try.f123) 0 (finK E123 po123 [.tmp 2]) (ptSt sh123_4 d) = f123_p4 (f123_t k) d := by kernel_rfl
theorem q123_m (k : Nat) (d : Unit × (((List Int) × Unit) × Unit)) : evCode E123 (tab (L123 k)) c123 (bodyOf Try.f123) 0 (finK E123 po123 [.tmp 2]) (startSt pi123 20 d) = f123_m (f123_t k) d := by kernel_rfl
theorem go123 (G : pi123.den → Option po123.den) (hG : ∀ d out, G d = some out → ∃ k, f123_m (f123_t k) d = some out) : FnOk Try.prog ET0 123 pi123 po123 G :=
  fn_of_body (E := E123) e0_ok (fn := Try.f123) Try.func123 (by kernel_rfl) (by kernel_rfl) [.tmp 2] (by kernel_rfl) (by kernel_rfl) (by decide) c123 L123
    (by intro x hx d; simp only [L123, List.mem_cons, List.not_mem_nil, or_false] at hx; subst hx; rfl)
    (by intro k x hx d out h; simp only [L123, List.mem_cons, List.not_mem_nil, or_false] at hx; subst hx; exact (q123_4 k d).trans h)
    (by intro d out h; obtain ⟨k, hk⟩ := hG d out h; exact ⟨k, (q123_m k d).trans hk⟩)
def g123 (d : pi123.den) : Option po123.den := lim fun k => f123_m (f123_t k) d
theorem ok123 : FnOk Try.prog ET0 123 pi123 po123 g123 := go123 g123 fun d out h => lim_some h

/- horologe/octets.Get[uint8] -/
@[reducible] def pi99 : PSh := ⟨[], [.mk false [.v (.sl (.int .u8))], .mk false [.v (.int .i64)]]⟩
@[reducible] def po99 : PSh := ⟨[], [.mk false [.v (.int .u8)], .mk false [.v .err]]⟩
def f99_m (T : Unit) (d : Unit × (((List Int) × Unit) × ((Int × Unit) × Unit))) : Option (Unit × ((Int × Unit) × (((Option Int) × Unit) × Unit))) :=
  (g98 ((), ())).bind fun x1 =>
  (g75 ((), ((d.2.1.1, ()), ((d.2.2.1.1, ()), ((x1.2.1.1, ()), ()))))).bind fun x2 =>
  let x3 : Bool := (!x2.2.2.1.1.isNone)
  bif x3 then (
  some ((), (((0 : Int), ()), ((x2.2.2.1.1, ()), ()))))
  else (
  (g123 ((), ((x2.2.1.1, ()), ()))).bind fun x4 =>
  some ((), ((x4.2.1.1, ()), (((none : Option Int), ()), ()))))
def c99 : List Nat := []
def L99 (_ : Nat) : Pts po99.den := []
def E99 : Env := (((E0.add 75 (typedSem pi75 po75 g75)).add 98 (typedSem pi98 po98 g98)).add 123 (typedSem pi123 po123 g123))
theorem q99_m (k : Nat) (d : Unit × (((List Int) × Unit) × ((Int × Unit) × Unit))) : evCode E99 (tab (L99 k)) c99 (bodyOf Try.f99) 0 (finK E99 po99 [.tmp 4, .tmp 5]) (startSt pi99 20 d) = f99_m () d := by kernel_rfl
def g99 (d : pi99.den) : Option po99.den := f99_m () d
theorem ok99 : FnOk Try.prog ET0 99 pi99 po99 g99 :=
  fn_of_body (E := E99) (envOk_add (envOk_add (envOk_add e0_ok (typed_ok ok75)) (typed_ok ok98)) (typed_ok ok123)) (fn := Try.f99) Try.func99 (by kernel_rfl) (by kernel_rfl) [.tmp 4, .tmp 5] (by kernel_rfl) (by kernel_rfl) (by decide) c99 L99
    (by intro x hx; cases hx) (by intro k x hx; cases hx) (fun d out h => ⟨0, (q99_m 0 d).trans h⟩)

/- horologe/head.First -/
@[reducible] def pi66 : PSh := ⟨[], [.mk false [.v (.sl (.int .u8))]]⟩
@[reducible] def po66 : PSh := ⟨[], [.mk false [.v (.int .i64)], .mk false [.v (.int .i64)], .mk false [.v (.int .i64)], .mk false [.v .err]]⟩
def f66_m (T : Unit) (d : Unit × (((List Int) × Unit) × Unit)) : Option (Unit × ((Int × Unit) × ((Int × Unit) × ((Int × Unit) × (((Option Int) × Unit) × Unit))))) :=
  (g99 ((), ((d.2.1.1, ()), (((0 : Int), ()), ())))).bind fun x1 =>
  let x2 : Bool := (!x1.2.2.1.1.isNone)
  bif x2 then (
  some ((), (((0 : Int), ()), (((0 : Int), ()), (((0 : Int), ()), ((x1.2.2.1.1, ()), ()))))))
  else (
  let x3 : Int := (ishr .u8 x1.2.1.1 (6 : Int))
  let x4 : Int := (iconv .i64 x3)
  let x5 : Int := (ishr .u8 x1.2.1.1 (3 : Int))
  let x6 : Int := (iand .u8 x5 (7 : Int))
  let x7 : Int := (iconv .i64 x6)
  let x8 : Int := (iand .u8 x1.2.1.1 (7 : Int))
  let x9 : Int := (iconv .i64 x8)
  some ((), ((x4, ()), ((x7, ()), ((x9, ()), (((none : Option Int), ()), ()))))))
def c66 : List Nat := []
def L66 (_ : Nat) : Pts po66.den := []
def E66 : Env := (E0.add 99 (typedSem pi99 po99 g99))
theorem q66_m (k : Nat) (d : Unit × (((List Int) × Unit) × Unit)) : evCode E66 (tab (L66 k)) c66 (bodyOf Try.f66) 0 (finK E66 po66 [.tmp 2, .tmp 3, .tmp 4, .tmp 5]) (startSt pi66 25 d) = f66_m () d := by kernel_rfl
def g66 (d : pi66.den) : Option po66.den := f66_m () d
theorem ok66 : FnOk Try.prog ET0 66 pi66 po66 g66 :=
  fn_of_body (E := E66) (envOk_add e0_ok (typed_ok ok99)) (fn := Try.f66) Try.func66 (by kernel_rfl) (by kernel_rfl) [.tmp 2, .tmp 3, .tmp 4, .tmp 5] (by kernel_rfl) (by kernel_rfl) (by decide) c66 L66
    (by intro x hx; cases hx) (by intro k x hx; cases hx) (fun d out h => ⟨0, (q66_m 0 d).trans h⟩)

/- horologe/horologeref28.Check -/
@[reducible] def pi39 : PSh := ⟨[], [.mk true [.v (.int .i64), .v (.int .i64), .v (.int .i64), .v (.int .i64), .v (.int .i64), .v (.int .i64), .v (.int .u64), .v (.int .u64), .v (.int .u8), .v (.int .u8), .v (.int .u8), .v (.int .u8), .v (.int .u64), .v (.int .u64), .v (.int .u64), .v (.int .u64)]]⟩
@[reducible] def po39 : PSh := ⟨[], [.mk false [.v (.int .i64)]]⟩
def f39_m (T : Unit) (d : Unit × ((Int × (Int × (Int × (Int × (Int × (Int × (Int × (Int × (Int × (Int × (Int × (Int × (Int × (Int × (Int × (Int × Unit)))))))))))))))) × Unit)) : Option (Unit × ((Int × Unit) × Unit)) :=
  let x1 : Bool := (decide (d.2.1.1 < (0 : Int)))
  bif x1 then (
  some ((), (((1 : Int), ()), ())))
  else (
  let x2 : Bool := (decide (d.2.1.1 > (3 : Int)))
  bif x2 then (
  some ((), (((1 : Int), ()), ())))
  else (
  let x3 : Bool := (decide (d.2.1.2.1 < (0 : Int)))
  bif x3 then (
  some ((), (((1 : Int), ()), ())))
  else (
  let x4 : Bool := (decide (d.2.1.2.1 > (7 : Int)))
  bif x4 then (
  some ((), (((1 : Int), ()), ())))
  else (
  let x5 : Bool := (decide (d.2.1.2.2.1 < (0 : Int)))
  bif x5 then (
  some ((), (((1 : Int), ()), ())))
  else (
  let x6 : Bool := (decide (d.2.1.2.2.1 > (7 : Int)))
  bif x6 then (
  some ((), (((1 : Int), ()), ())))
  else (
  some ((), (((0 : Int), ()), ()))))))))
def c39 : List Nat := []
def L39 (_ : Nat) : Pts po39.den := []
def E39 : Env := E0
theorem q39_m (k : Nat) (d : Unit × ((Int × (Int × (Int × (Int × (Int × (Int × (Int × (Int × (Int × (Int × (Int × (Int × (Int × (Int × (Int × (Int × Unit)))))))))))))))) × Unit)) : evCode E39 (tab (L39 k)) c39 (bodyOf Try.f39) 0 (finK E39 po39 [.tmp 2]) (startSt pi39 31 d) = f39_m () d := by kernel_rfl
def g39 (d : pi39.den) : Option po39.den := f39_m () d
theorem ok39 : FnOk Try.prog ET0 39 pi39 po39 g39 :=
  fn_of_body (E := E39) e0_ok (fn := Try.f39) Try.func39 (by kernel_rfl) (by kernel_rfl) [.tmp 2] (by kernel_rfl) (by kernel_rfl) (by decide) c39 L39
    (by intro x hx; cases hx) (by intro k x hx; cases hx) (fun d out h => ⟨0, (q39_m 0 d).trans h⟩)

/- horologe/horologelaw28.bits -/
@[reducible] def pi64 : PSh := ⟨[], [.mk true [.v (.int .u32), .v (.int .u32)]]⟩
@[reducible] def po64 : PSh := ⟨[], [.mk false [.v (.int .u64)]]⟩
def f64_m (T : Unit) (d : Unit × ((Int × (Int × Unit)) × Unit)) : Option (Unit × ((Int × Unit) × Unit)) :=
  let x1 : Int := (iconv .u64 d.2.1.1)
  let x2 : Int := (ishl .u64 x1 (32 : Int))
  let x3 : Int := (iconv .u64 d.2.1.2.1)
  let x4 : Int := (ior .u64 x2 x3)
  some ((), ((x4, ()), ()))
def c64 : List Nat := []
def L64 (_ : Nat) : Pts po64.den := []
def E64 : Env := E0
theorem q64_m (k : Nat) (d : Unit × ((Int × (Int × Unit)) × Unit)) : evCode E64 (tab (L64 k)) c64 (bodyOf Try.f64) 0 (finK E64 po64 [.tmp 2]) (startSt pi64 11 d) = f64_m () d := by kernel_rfl
def g64 (d : pi64.den) : Option po64.den := f64_m () d
theorem ok64 : FnOk Try.prog ET0 64 pi64 po64 g64 :=
  fn_of_body (E := E64) e0_ok (fn := Try.f64) Try.func64 (by kernel_rfl) (by kernel_rfl) [.tmp 2] (by kernel_rfl) (by kernel_rfl) (by decide) c64 L64
    (by intro x hx; cases hx) (by intro k x hx; cases hx) (fun d out h => ⟨0, (q64_m 0 d).trans h⟩)

/- horologe/horologelaw28.short -/
@[reducible] def pi89 : PSh := ⟨[], [.mk true [.v (.int .u16), .v (.int .u16)]]⟩
@[reducible] def po89 : PSh := ⟨[], [.mk false [.v (.int .u64)]]⟩
def f89_m (T : Unit) (d : Unit × ((Int × (Int × Unit)) × Unit)) : Option (Unit × ((Int × Unit) × Unit)) :=
  let x1 : Int := (iconv .u64 d.2.1.1)
  let x2 : Int := (ishl .u64 x1 (16 : Int))
  let x3 : Int := (iconv .u64 d.2.1.2.1)
  let x4 : Int := (ior .u64 x2 x3)
  some ((), ((x4, ()), ()))
def c89 : List Nat := []
def L89 (_ : Nat) : Pts po89.den := []
def E89 : Env := E0
theorem q89_m (k : Nat) (d : Unit × ((Int × (Int × Unit)) × Unit)) : evCode E89 (tab (L89 k)) c89 (bodyOf Try.f89) 0 (finK E89 po89 [.tmp 2]) (startSt pi89 11 d) = f89_m () d := by kernel_rfl
def g89 (d : pi89.den) : Option po89.den := f89_m () d
theorem ok89 : FnOk Try.prog ET0 89 pi89 po89 g89 :=
  fn_of_body (E := E89) e0_ok (fn := Try.f89) Try.func89 (by kernel_rfl) (by kernel_rfl) [.tmp 2] (by kernel_rfl) (by kernel_rfl) (by decide) c89 L89
    (by intro x hx; cases hx) (by intro k x hx; cases hx) (fun d out h => ⟨0, (q89_m 0 d).trans h⟩)

/- horologe/horologeref03.Number -/
@[reducible] def pi56 : PSh := ⟨[], [.mk false [.v (.int .u64)], .mk false [.v (.int .i64)]]⟩
@[reducible] def po56 : PSh := ⟨[.row 5 (.int .u8)], [.mk false [.osl 0]]⟩
@[reducible] def sh56_4 : PSh := ⟨[.row 5 (.int .u8)], [.mk false [.v (.int .u64)], .any, .any, .any, .any, .mk false [.osl 0], .mk false [.v (.int .i64)], .any, .any, .any, .any, .any, .any, .any, .any, .any, .any, .any, .any, .any, .any, .any, .any, .any]⟩
def f56_p4 (T : (((((List Int) × Unit) × ((Int × Unit) × (Unit × ((Int × Unit) × Unit)))) → Option (((List Int) × Unit) × (Unit × Unit))) × Unit)) (d : ((List Int) × Unit) × ((Int × Unit) × (Unit × ((Int × Unit) × Unit)))) : Option (((List Int) × Unit) × (Unit × Unit)) :=
  let x3 : Bool := (decide (d.2.2.2.1.1 ≥ (0 : Int)))
  bif x3 then (
  let x4 : Int := (Int.tmod d.2.1.1 (256 : Int))
  let x5 : Int := (iconv .u8 x4)
  bif decide ((0 : Int) ≤ d.2.2.2.1.1) && decide (d.2.2.2.1.1 < (d.1.1.length : Int)) then (
  let x6 : (List Int) := (List.set d.1.1 (Int.toNat d.2.2.2.1.1) x5)
  let x7 : Int := (iquo .u64 d.2.1.1 (256 : Int))
  let x8 : Int := (isub .i64 d.2.2.2.1.1 (1 : Int))
  (T.1 ((x6, ()), ((x7, ()), ((), ((x8, ()), ()))))))
  else none)
  else (
  some ((d.1.1, ()), ((), ())))
def f56_t : Nat → (((((List Int) × Unit) × ((Int × Unit) × (Unit × ((Int × Unit) × Unit)))) → Option (((List Int) × Unit) × (Unit × Unit))) × Unit)
  | 0 => (fun _ => none, ())
  | k + 1 => (f56_p4 (f56_t k), ())
theorem t56_s (k : Nat) : f56_t (k + 1) = (f56_p4 (f56_t k), ()) := rfl
def f56_m (T : (((((List Int) × Unit) × ((Int × Unit) × (Unit × ((Int × Unit) × Unit)))) → Option (((List Int) × Unit) × (Unit × Unit))) × Unit)) (d : Unit × ((Int × Unit) × ((Int × Unit) × Unit))) : Option (((List Int) × Unit) × (Unit × Unit)) :=
  bif decide ((0 : Int) ≤ d.2.2.1.1) && decide (d.2.2.1.1 ≤ d.2.2.1.1) && decide (d.2.2.1.1 * (1 : Int) ≤ 140737488355328) && decide (d.2.2.1.1 ≤ 9223372036854775807) then (
  let x1 : (List Int) := (List.replicate (Int.toNat d.2.2.1.1) (0 : Int))
  let x2 : Int := (isub .i64 d.2.2.1.1 (1 : Int))
  (T.1 ((x1, ()), ((d.2.1.1, ()), ((), ((x2, ()), ()))))))
  else none
def c56 : List Nat := []
def L56 (k : Nat) : Pts po56.den := [(4, ⟨sh56_4, (f56_t k).1⟩)]
def E56 : Env := E0
theorem q56_4 (k : Nat) (d : ((List Int) × Unit) × ((Int × Unit) × (Unit × ((Int × Unit) × Unit)))) : evAt E56 (tab (L56 k)) c56 4 (bodyOf Try.f56) 0 (finK E56 po56 [.tmp 4]) (ptSt sh56_4 d) = f56_p4 (f56_t k) d := by kernel_rfl
theorem q56_m (k : Nat) (d : Unit × ((Int × Unit) × ((Int × Unit) × Unit))) : evCode E56 (tab (L56 k)) c56 (bodyOf Try.f56) 0 (finK E56 po56 [.tmp 4]) (startSt pi56 24 d) = f56_m (f56_t k) d := by kernel_rfl
theorem go56 (G : pi56.den → Option po56.den) (hG : ∀ d out, G d = some out → ∃ k, f56_m (f56_t k) d = some out) : FnOk Try.prog ET0 56 pi56 po56 G :=
  fn_of_body (E := E56) e0_ok (fn := Try.f56) Try.func56 (by kernel_rfl) (by kernel_rfl) [.tmp 4] (by kernel_rfl) (by kernel_rfl) (by decide) c56 L56
    (by intro x hx d; simp only [L56, List.mem_cons, List.not_mem_nil, or_false] at hx; subst hx; rfl)
    (by intro k x hx d out h; simp only [L56, List.mem_cons, List.not_mem_nil, or_false] at hx; subst hx; exact (q56_4 k d).trans h)
    (by intro d out h; obtain ⟨k, hk⟩ := hG d out h; exact ⟨k, (q56_m k d).trans hk⟩)
def g56 (d : pi56.den) : Option po56.den := lim fun k => f56_m (f56_t k) d
theorem ok56 : FnOk Try.prog ET0 56 pi56 po56 g56 := go56 g56 fun d out h => lim_some h

/- horologe/octets.Put[uint64] -/
@[reducible] def pi45 : PSh := ⟨[], [.mk false [.v (.sl (.int .u8))], .mk false [.v (.sl (.int .u64))]]⟩
@[reducible] def po45 : PSh := ⟨[.row 5 (.int .u8)], [.mk false [.osl 0]]⟩
@[reducible] def sh45_5 : PSh := ⟨[.row 5 (.int .u8)], [.any, .any, .any, .any, .any, .mk false [.v (.int .i64)], .mk false [.osl 0], .any, .any, .any, .any, .any, .any, .mk false [.v (.sl (.int .u64))], .mk false [.v (.int .i64)], .mk false [.v (.int .i64)], .any, .any, .any, .any, .any, .any, .any, .any, .any, .any, .any, .any, .any, .any, .any, .any, .any, .any, .any]⟩
@[reducible] def sh45_11 : PSh := ⟨[.row 5 (.int .u8)], [.any, .any, .any, .any, .any, .mk false [.v (.int .i64)], .mk false [.osl 0], .any, .mk false [.v (.int .u64)], .mk false [.v (.int .i64)], .any, .any, .any, .mk false [.v (.sl (.int .u64))], .mk false [.v (.int .i64)], .mk false [.v (.int .i64)], .any, .any, .any, .any, .any, .any, .any, .any, .any, .any, .any, .any, .any, .any, .any, .any, .any, .any, .any]⟩
def f45_p5 (T : (((((List Int) × Unit) × ((Int × Unit) × (Unit × (((List Int) × Unit) × ((Int × Unit) × ((Int × Unit) × Unit)))))) → Option (((List Int) × Unit) × (Unit × Unit))) × (((((List Int) × Unit) × ((Int × Unit) × (Unit × ((Int × Unit) × ((Int × Unit) × (((List Int) × Unit) × ((Int × Unit) × ((Int × Unit) × Unit)))))))) → Option (((List Int) × Unit) × (Unit × Unit))) × Unit))) (d : ((List Int) × Unit) × ((Int × Unit) × (Unit × (((List Int) × Unit) × ((Int × Unit) × ((Int × Unit) × Unit)))))) : Option (((List Int) × Unit) × (Unit × Unit)) :=
  let x4 : Bool := (decide (d.2.2.2.2.2.1.1 < d.2.2.2.2.1.1))
  bif x4 then (
  bif decide ((0 : Int) ≤ d.2.2.2.2.2.1.1) && decide (d.2.2.2.2.2.1.1 < (d.2.2.2.1.1.length : Int)) then (
  let x5 : Int := (isub .i64 d.2.1.1 (1 : Int))
  (T.2.1 ((d.1.1, ()), ((d.2.1.1, ()), ((), (((gd (.int .u64) d.2.2.2.1.1 d.2.2.2.2.2.1.1), ()), ((x5, ()), ((d.2.2.2.1.1, ()), ((d.2.2.2.2.1.1, ()), ((d.2.2.2.2.2.1.1, ()), ()))))))))))
  else none)
  else (
  some ((d.1.1, ()), ((), ())))
def f45_p11 (T : (((((List Int) × Unit) × ((Int × Unit) × (Unit × (((List Int) × Unit) × ((Int × Unit) × ((Int × Unit) × Unit)))))) → Option (((List Int) × Unit) × (Unit × Unit))) × (((((List Int) × Unit) × ((Int × Unit) × (Unit × ((Int × Unit) × ((Int × Unit) × (((List Int) × Unit) × ((Int × Unit) × ((Int × Unit) × Unit)))))))) → Option (((List Int) × Unit) × (Unit × Unit))) × Unit))) (d : ((List Int) × Unit) × ((Int × Unit) × (Unit × ((Int × Unit) × ((Int × Unit) × (((List Int) × Unit) × ((Int × Unit) × ((Int × Unit) × Unit)))))))) : Option (((List Int) × Unit) × (Unit × Unit)) :=
  let x6 : Bool := (decide (d.2.2.2.2.1.1 ≥ (0 : Int)))
  bif x6 then (
  let x7 : Int := (imul .i64 (8 : Int) d.2.2.2.2.1.1)
  bif decide (x7 < 0) then (
  none)
  else (
  let x8 : Int := (ishr .u64 d.2.2.2.1.1 x7)
  let x9 : Int := (iconv .u8 x8)
  let x10 : (List Int) := ([x9] : List Int)
  bif decide (((d.1.1.length + x10.length) * 1 : Nat) ≤ 140737488355328) && decide (d.1.1.length + x10.length ≤ 9223372036854775807) then (
  let x11 : (List Int) := (d.1.1 ++ x10)
  let x12 : Int := (isub .i64 d.2.2.2.2.1.1 (1 : Int))
  (T.2.1 ((x11, ()), ((d.2.1.1, ()), ((), ((d.2.2.2.1.1, ()), ((x12, ()), ((d.2.2.2.2.2.1.1, ()), ((d.2.2.2.2.2.2.1.1, ()), ((d.2.2.2.2.2.2.2.1.1, ()), ()))))))))))
  else none))
  else (
  let x13 : Int := (iadd .i64 d.2.2.2.2.2.2.2.1.1 (1 : Int))
  (T.1 ((d.1.1, ()), ((d.2.1.1, ()), ((), ((d.2.2.2.2.2.1.1, ()), ((d.2.2.2.2.2.2.1.1, ()), ((x13, ()), ()))))))))
def f45_t : Nat → (((((List Int) × Unit) × ((Int × Unit) × (Unit × (((List Int) × Unit) × ((Int × Unit) × ((Int × Unit) × Unit)))))) → Option (((List Int) × Unit) × (Unit × Unit))) × (((((List Int) × Unit) × ((Int × Unit) × (Unit × ((Int × Unit) × ((Int × Unit) × (((List Int) × Unit) × ((Int × Unit) × ((Int × Unit) × Unit)))))))) → Option (((List Int) × Unit) × (Unit × Unit))) × Unit))
  | 0 => (fun _ => none, (fun _ => none, ()))
  | k + 1 => (f45_p5 (f45_t k), (f45_p11 (f45_t k), ()))
theorem t45_s (k : Nat) : f45_t (k + 1) = (f45_p5 (f45_t k), (f45_p11 (f45_t k), ())) := rfl
def f45_m (T : (((((List Int) × Unit) × ((Int × Unit) × (Unit × (((List Int) × Unit) × ((Int × Unit) × ((Int × Unit) × Unit)))))) → Option (((List Int) × Unit) × (Unit × Unit))) × (((((List Int) × Unit) × ((Int × Unit) × (Unit × ((Int × Unit) × ((Int × Unit) × (((List Int) × Unit) × ((Int × Unit) × ((Int × Unit) × Unit)))))))) → Option (((List Int) × Unit) × (Unit × Unit))) × Unit))) (d : Unit × (((List Int) × Unit) × (((List Int) × Unit) × Unit))) : Option (((List Int) × Unit) × (Unit × Unit)) :=
  (g74 ((), ())).bind fun x1 =>
  (g76 ((), ((d.2.1.1, ()), ()))).bind fun x2 =>
  let x3 : Int := (d.2.2.1.1.length : Int)
  (T.1 ((x2.1.1, ()), ((x1.2.1.1, ()), ((), ((d.2.2.1.1, ()), ((x3, ()), (((0 : Int), ()), ())))))))
def c45 : List Nat := []
def L45 (k : Nat) : Pts po45.den := [(5, ⟨sh45_5, (f45_t k).1⟩), (11, ⟨sh45_11, (f45_t k).2.1⟩)]
def E45 : Env := ((E0.add 74 (typedSem pi74 po74 g74)).add 76 (typedSem pi76 po76 g76))
theorem q45_5 (k : Nat) (d : ((List Int) × Unit) × ((Int × Unit) × (Unit × (((List Int) × Unit) × ((Int × Unit) × ((Int × Unit) × Unit)))))) : evAt E45 (tab (L45 k)) c45 5 (bodyOf Try.f45) 0 (finK E45 po45 [.tmp 4]) (ptSt sh45_5 d) = f45_p5 (f45_t k) d := by kernel_rfl
theorem q45_11 (k : Nat) (d : ((List Int) × Unit) × ((Int × Unit) × (Unit × ((Int × Unit) × ((Int × Unit) × (((List Int) × Unit) × ((Int × Unit) × ((Int × Unit) × Unit)))))))) : evAt E45 (tab (L45 k)) c45 11 (bodyOf Try.f45) 0 (finK E45 po45 [.tmp 4]) (ptSt sh45_11 d) = f45_p11 (f45_t k) d := by kernel_rfl
theorem q45_m (k : Nat) (d : Unit × (((List Int) × Unit) × (((List Int) × Unit) × Unit))) : evCode E45 (tab (L45 k)) c45 (bodyOf Try.f45) 0 (finK E45 po45 [.tmp 4]) (startSt pi45 35 d) = f45_m (f45_t k) d := by kernel_rfl
theorem go45 (G : pi45.den → Option po45.den) (hG : ∀ d out, G d = some out → ∃ k, f45_m (f45_t k) d = some out) : FnOk Try.prog ET0 45 pi45 po45 G :=
  fn_of_body (E := E45) (envOk_add (envOk_add e0_ok (typed_ok ok74)) (typed_ok ok76)) (fn := Try.f45) Try.func45 (by kernel_rfl) (by kernel_rfl) [.tmp 4] (by kernel_rfl) (by kernel_rfl) (by decide) c45 L45
    (by intro x hx d; simp only [L45, List.mem_cons, List.not_mem_nil, or_false] at hx; rcases hx with rfl | rfl <;> first | (rfl) | (rfl))
    (by intro k x hx d out h; simp only [L45, List.mem_cons, List.not_mem_nil, or_false] at hx; rcases hx with rfl | rfl <;> first | (exact (q45_5 k d).trans h) | (exact (q45_11 k d).trans h))
    (by intro d out h; obtain ⟨k, hk⟩ := hG d out h; exact ⟨k, (q45_m k d).trans hk⟩)
def g45 (d : pi45.den) : Option po45.den := lim fun k => f45_m (f45_t k) d
theorem ok45 : FnOk Try.prog ET0 45 pi45 po45 g45 := go45 g45 fun d out h => lim_some h

/- horologe/octets.word[uint64] -/
@[reducible] def pi93 : PSh := ⟨[], [.mk false [.v (.sl (.int .u8))]]⟩
@[reducible] def po93 : PSh := ⟨[], [.mk false [.v (.int .u64)]]⟩
@[reducible] def sh93_4 : PSh := ⟨[], [.any, .any, .any, .mk false [.v (.int .u64)], .any, .any, .mk false [.v (.sl (.int .u8))], .mk false [.v (.int .i64)], .mk false [.v (.int .i64)], .any, .any, .any, .any, .any, .any, .any, .any, .any, .any]⟩
def f93_p4 (T : (((Unit × ((Int × Unit) × (((List Int) × Unit) × ((Int × Unit) × ((Int × Unit) × Unit))))) → Option (Unit × ((Int × Unit) × Unit))) × Unit)) (d : Unit × ((Int × Unit) × (((List Int) × Unit) × ((Int × Unit) × ((Int × Unit) × Unit))))) : Option (Unit × ((Int × Unit) × Unit)) :=
  let x2 : Bool := (decide (d.2.2.2.2.1.1 < d.2.2.2.1.1))
  bif x2 then (
  bif decide ((0 : Int) ≤ d.2.2.2.2.1.1) && decide (d.2.2.2.2.1.1 < (d.2.2.1.1.length : Int)) then (
  let x3 : Int := (ishl .u64 d.2.1.1 (8 : Int))
  let x4 : Int := (iconv .u64 (gd (.int .u8) d.2.2.1.1 d.2.2.2.2.1.1))
  let x5 : Int := (ior .u64 x3 x4)
  let x6 : Int := (iadd .i64 d.2.2.2.2.1.1 (1 : Int))
  (T.1 ((), ((x5, ()), ((d.2.2.1.1, ()), ((d.2.2.2.1.1, ()), ((x6, ()), ())))))))
  else none)
  else (
  some ((), ((d.2.1.1, ()), ())))
def f93_t : Nat → (((Unit × ((Int × Unit) × (((List Int) × Unit) × ((Int × Unit) × ((Int × Unit) × Unit))))) → Option (Unit × ((Int × Unit) × Unit))) × Unit)
  | 0 => (fun _ => none, ())
  | k + 1 => (f93_p4 (f93_t k), ())
theorem t93_s (k : Nat) : f93_t (k + 1) = (f93_p4 (f93_t k), ()) := rfl
def f93_m (T : (((Unit × ((Int × Unit) × (((List Int) × Unit) × ((Int × Unit) × ((Int × Unit) × Unit))))) → Option (Unit × ((Int × Unit) × Unit))) × Unit)) (d : Unit × (((List Int) × Unit) × Unit)) : Option (Unit × ((Int × Unit) × Unit)) :=
  let x1 : Int := (d.2.1.1.length : Int)
  (T.1 ((), (((0 : Int), ()), ((d.2.1.1, ()), ((x1, ()), (((0 : Int), ()), ()))))))
def c93 : List Nat := []
def L93 (k : Nat) : Pts po93.den := [(4, ⟨sh93_4, (f93_t k).1⟩)]
def E93 : Env := E0
theorem q93_4 (k : Nat) (d : Unit × ((Int × Unit) × (((List Int) × Unit) × ((Int × Unit) × ((Int × Unit) × Unit))))) : evAt E93 (tab (L93 k)) c93 4 (bodyOf Try.f93) 0 (finK E93 po93 [.tmp 2]) (ptSt sh93_4 d) = f93_p4 (f93_t k) d := by kernel_rfl
theorem q93_m (k : Nat) (d : Unit × (((List Int) × Unit) × Unit)) : evCode E93 (tab (L93 k)) c93 (bodyOf Try.f93) 0 (finK E93 po93 [.tmp 2]) (startSt pi93 19 d) = f93_m (f93_t k) d := by kernel_rfl
theorem go93 (G : pi93.den → Option po93.den) (hG : ∀ d out, G d = some out → ∃ k, f93_m (f93_t k) d = some out) : FnOk Try.prog ET0 93 pi93 po93 G :=
  fn_of_body (E := E93) e0_ok (fn := Try.f93) Try.func93 (by kernel_rfl) (by kernel_rfl) [.tmp 2] (by kernel_rfl) (by kernel_rfl) (by decide) c93 L93
    (by intro x hx d; simp only [L93, List.mem_cons, List.not_mem_nil, or_false] at hx; subst hx; rfl)
    (by intro k x hx d out h; simp only [L93, List.mem_cons, List.not_mem_nil, or_false] at hx; subst hx; exact (q93_4 k d).trans h)
    (by intro d out h; obtain ⟨k, hk⟩ := hG d out h; exact ⟨k, (q93_m k d).trans hk⟩)
def g93 (d : pi93.den) : Option po93.den := lim fun k => f93_m (f93_t k) d
theorem ok93 : FnOk Try.prog ET0 93 pi93 po93 g93 := go93 g93 fun d out h => lim_some h

/- horologe/octets.Get[uint64] -/
@[reducible] def pi46 : PSh := ⟨[], [.mk false [.v (.sl (.int .u8))], .mk false [.v (.int .i64)]]⟩
@[reducible] def po46 : PSh := ⟨[], [.mk false [.v (.int .u64)], .mk false [.v .err]]⟩
def f46_m (T : Unit) (d : Unit × (((List Int) × Unit) × ((Int × Unit) × Unit))) : Option (Unit × ((Int × Unit) × (((Option Int) × Unit) × Unit))) :=
  (g74 ((), ())).bind fun x1 =>
  (g75 ((), ((d.2.1.1, ()), ((d.2.2.1.1, ()), ((x1.2.1.1, ()), ()))))).bind fun x2 =>
  let x3 : Bool := (!x2.2.2.1.1.isNone)
  bif x3 then (
  some ((), (((0 : Int), ()), ((x2.2.2.1.1, ()), ()))))
  else (
  (g93 ((), ((x2.2.1.1, ()), ()))).bind fun x4 =>
  some ((), ((x4.2.1.1, ()), (((none : Option Int), ()), ()))))
def c46 : List Nat := []
def L46 (_ : Nat) : Pts po46.den := []
def E46 : Env := (((E0.add 74 (typedSem pi74 po74 g74)).add 75 (typedSem pi75 po75 g75)).add 93 (typedSem pi93 po93 g93))
theorem q46_m (k : Nat) (d : Unit × (((List Int) × Unit) × ((Int × Unit) × Unit))) : evCode E46 (tab (L46 k)) c46 (bodyOf Try.f46) 0 (finK E46 po46 [.tmp 4, .tmp 5]) (startSt pi46 20 d) = f46_m () d := by kernel_rfl
def g46 (d : pi46.den) : Option po46.den := f46_m () d
theorem ok46 : FnOk Try.prog ET0 46 pi46 po46 g46 :=
  fn_of_body (E := E46) (envOk_add (envOk_add (envOk_add e0_ok (typed_ok ok74)) (typed_ok ok75)) (typed_ok ok93)) (fn := Try.f46) Try.func46 (by kernel_rfl) (by kernel_rfl) [.tmp 4, .tmp 5] (by kernel_rfl) (by kernel_rfl) (by decide) c46 L46
    (by intro x hx; cases hx) (by intro k x hx; cases hx) (fun d out h => ⟨0, (q46_m 0 d).trans h⟩)

/- horologe/octets.word[uint16] -/
@[reducible] def pi94 : PSh := ⟨[], [.mk false [.v (.sl (.int .u8))]]⟩
@[reducible] def po94 : PSh := ⟨[], [.mk false [.v (.int .u16)]]⟩
@[reducible] def sh94_4 : PSh := ⟨[], [.any, .any, .any, .mk false [.v (.int .u64)], .any, .any, .mk false [.v (.sl (.int .u8))], .mk false [.v (.int .i64)], .mk false [.v (.int .i64)], .any, .any, .any, .any, .any, .any, .any, .any, .any, .any, .any]⟩
def f94_p4 (T : (((Unit × ((Int × Unit) × (((List Int) × Unit) × ((Int × Unit) × ((Int × Unit) × Unit))))) → Option (Unit × ((Int × Unit) × Unit))) × Unit)) (d : Unit × ((Int × Unit) × (((List Int) × Unit) × ((Int × Unit) × ((Int × Unit) × Unit))))) : Option (Unit × ((Int × Unit) × Unit)) :=
  let x2 : Bool := (decide (d.2.2.2.2.1.1 < d.2.2.2.1.1))
  bif x2 then (
  bif decide ((0 : Int) ≤ d.2.2.2.2.1.1) && decide (d.2.2.2.2.1.1 < (d.2.2.1.1.length : Int)) then (
  let x3 : Int := (ishl .u64 d.2.1.1 (8 : Int))
  let x4 : Int := (iconv .u64 (gd (.int .u8) d.2.2.1.1 d.2.2.2.2.1.1))
  let x5 : Int := (ior .u64 x3 x4)
  let x6 : Int := (iadd .i64 d.2.2.2.2.1.1 (1 : Int))
  (T.1 ((), ((x5, ()), ((d.2.2.1.1, ()), ((d.2.2.2.1.1, ()), ((x6, ()), ())))))))
  else none)
  else (
  let x7 : Int := (iconv .u16 d.2.1.1)
  some ((), ((x7, ()), ())))
def f94_t : Nat → (((Unit × ((Int × Unit) × (((List Int) × Unit) × ((Int × Unit) × ((Int × Unit) × Unit))))) → Option (Unit × ((Int × Unit) × Unit))) × Unit)
  | 0 => (fun _ => none, ())
  | k + 1 => (f94_p4 (f94_t k), ())
theorem t94_s (k : Nat) : f94_t (k + 1) = (f94_p4 (f94_t k), ()) := rfl
def f94_m (T : (((Unit × ((Int × Unit) × (((List Int) × Unit) × ((Int × Unit) × ((Int × Unit) × Unit))))) → Option (Unit × ((Int × Unit) × Unit))) × Unit)) (d : Unit × (((List Int) × Unit) × Unit)) : Option (Unit × ((Int × Unit) × Unit)) :=
  let x1 : Int := (d.2.1.1.length : Int)
  (T.1 ((), (((0 : Int), ()), ((d.2.1.1, ()), ((x1, ()), (((0 : Int), ()), ()))))))
def c94 : List Nat := []
def L94 (k : Nat) : Pts po94.den := [(4, ⟨sh94_4, (f94_t k).1⟩)]
def E94 : Env := E0
theorem q94_4 (k : Nat) (d : Unit × ((Int × Unit) × (((List Int) × Unit) × ((Int × Unit) × ((Int × Unit) × Unit))))) : evAt E94 (tab (L94 k)) c94 4 (bodyOf Try.f94) 0 (finK E94 po94 [.tmp 2]) (ptSt sh94_4 d) = f94_p4 (f94_t k) d := by kernel_rfl
theorem q94_m (k : Nat) (d : Unit × (((List Int) × Unit) × Unit)) : evCode E94 (tab (L94 k)) c94 (bodyOf Try.f94) 0 (finK E94 po94 [.tmp 2]) (startSt pi94 20 d) = f94_m (f94_t k) d := by kernel_rfl
theorem go94 (G : pi94.den → Option po94.den) (hG : ∀ d out, G d = some out → ∃ k, f94_m (f94_t k) d = some out) : FnOk Try.prog ET0 94 pi94 po94 G :=
  fn_of_body (E := E94) e0_ok (fn := Try.f94) Try.func94 (by kernel_rfl) (by kernel_rfl) [.tmp 2] (by kernel_rfl) (by kernel_rfl) (by decide) c94 L94
    (by intro x hx d; simp only [L94, List.mem_cons, List.not_mem_nil, or_false] at hx; subst hx; rfl)
    (by intro k x hx d out h; simp only [L94, List.mem_cons, List.not_mem_nil, or_false] at hx; subst hx; exact (q94_4 k d).trans h)
    (by intro d out h; obtain ⟨k, hk⟩ := hG d out h; exact ⟨k, (q94_m k d).trans hk⟩)
def g94 (d : pi94.den) : Option po94.den := lim fun k => f94_m (f94_t k) d
theorem ok94 : FnOk Try.prog ET0 94 pi94 po94 g94 := go94 g94 fun d out h => lim_some h

/- horologe/octets.Get[uint16] -/
@[reducible] def pi47 : PSh := ⟨[], [.mk false [.v (.sl (.int .u8))], .mk false [.v (.int .i64)]]⟩
@[reducible] def po47 : PSh := ⟨[], [.mk false [.v (.int .u16)], .mk false [.v .err]]⟩
def f47_m (T : Unit) (d : Unit × (((List Int) × Unit) × ((Int × Unit) × Unit))) : Option (Unit × ((Int × Unit) × (((Option Int) × Unit) × Unit))) :=
  (g92 ((), ())).bind fun x1 =>
  (g75 ((), ((d.2.1.1, ()), ((d.2.2.1.1, ()), ((x1.2.1.1, ()), ()))))).bind fun x2 =>
  let x3 : Bool := (!x2.2.2.1.1.isNone)
  bif x3 then (
  some ((), (((0 : Int), ()), ((x2.2.2.1.1, ()), ()))))
  else (
  (g94 ((), ((x2.2.1.1, ()), ()))).bind fun x4 =>
  some ((), ((x4.2.1.1, ()), (((none : Option Int), ()), ()))))
def c47 : List Nat := []
def L47 (_ : Nat) : Pts po47.den := []
def E47 : Env := (((E0.add 75 (typedSem pi75 po75 g75)).add 92 (typedSem pi92 po92 g92)).add 94 (typedSem pi94 po94 g94))
theorem q47_m (k : Nat) (d : Unit × (((List Int) × Unit) × ((Int × Unit) × Unit))) : evCode E47 (tab (L47 k)) c47 (bodyOf Try.f47) 0 (finK E47 po47 [.tmp 4, .tmp 5]) (startSt pi47 20 d) = f47_m () d := by kernel_rfl
def g47 (d : pi47.den) : Option po47.den := f47_m () d
theorem ok47 : FnOk Try.prog ET0 47 pi47 po47 g47 :=
  fn_of_body (E := E47) (envOk_add (envOk_add (envOk_add e0_ok (typed_ok ok75)) (typed_ok ok92)) (typed_ok ok94)) (fn := Try.f47) Try.func47 (by kernel_rfl) (by kernel_rfl) [.tmp 4, .tmp 5] (by kernel_rfl) (by kernel_rfl) (by decide) c47 L47
    (by intro x hx; cases hx) (by intro k x hx; cases hx) (fun d out h => ⟨0, (q47_m 0 d).trans h⟩)

/- horologe/octets.word[uint32] -/
@[reducible] def pi96 : PSh := ⟨[], [.mk false [.v (.sl (.int .u8))]]⟩
@[reducible] def po96 : PSh := ⟨[], [.mk false [.v (.int .u32)]]⟩
@[reducible] def sh96_4 : PSh := ⟨[], [.any, .any, .any, .mk false [.v (.int .u64)], .any, .any, .mk false [.v (.sl (.int .u8))], .mk false [.v (.int .i64)], .mk false [.v (.int .i64)], .any, .any, .any, .any, .any, .any, .any, .any, .any, .any, .any]⟩
def f96_p4 (T : (((Unit × ((Int × Unit) × (((List Int) × Unit) × ((Int × Unit) × ((Int × Unit) × Unit))))) → Option (Unit × ((Int × Unit) × Unit))) × Unit)) (d : Unit × ((Int × Unit) × (((List Int) × Unit) × ((Int × Unit) × ((Int × Unit) × Unit))))) : Option (Unit × ((Int × Unit) × Unit)) :=
  let x2 : Bool := (decide (d.2.2.2.2.1.1 < d.2.2.2.1.1))
  bif x2 then (
  bif decide ((0 : Int) ≤ d.2.2.2.2.1.1) && decide (d.2.2.2.2.1.1 < (d.2.2.1.1.length : Int)) then (
  let x3 : Int := (ishl .u64 d.2.1.1 (8 : Int))
  let x4 : Int := (iconv .u64 (gd (.int .u8) d.2.2.1.1 d.2.2.2.2.1.1))
  let x5 : Int := (ior .u64 x3 x4)
  let x6 : Int := (iadd .i64 d.2.2.2.2.1.1 (1 : Int))
  (T.1 ((), ((x5, ()), ((d.2.2.1.1, ()), ((d.2.2.2.1.1, ()), ((x6, ()), ())))))))
  else none)
  else (
  let x7 : Int := (iconv .u32 d.2.1.1)
  some ((), ((x7, ()), ())))
def f96_t : Nat → (((Unit × ((Int × Unit) × (((List Int) × Unit) × ((Int × Unit) × ((Int × Unit) × Unit))))) → Option (Unit × ((Int × Unit) × Unit))) × Unit)
  | 0 => (fun _ => none, ())
  | k + 1 => (f96_p4 (f96_t k), ())
theorem t96_s (k : Nat) : f96_t (k + 1) = (f96_p4 (f96_t k), ()) := rfl
def f96_m (T : (((Unit × ((Int × Unit) × (((List Int) × Unit) × ((Int × Unit) × ((Int × Unit) × Unit))))) → Option (Unit × ((Int × Unit) × Unit))) × Unit)) (d : Unit × (((List Int) × Unit) × Unit)) : Option (Unit × ((Int × Unit) × Unit)) :=
  let x1 : Int := (d.2.1.1.length : Int)
  (T.1 ((), (((0 : Int), ()), ((d.2.1.1, ()), ((x1, ()), (((0 : Int), ()), ()))))))
def c96 : List Nat := []
def L96 (k : Nat) : Pts po96.den := [(4, ⟨sh96_4, (f96_t k).1⟩)]
def E96 : Env := E0
theorem q96_4 (k : Nat) (d : Unit × ((Int × Unit) × (((List Int) × Unit) × ((Int × Unit) × ((Int × Unit) × Unit))))) : evAt E96 (tab (L96 k)) c96 4 (bodyOf Try.f96) 0 (finK E96 po96 [.tmp 2]) (ptSt sh96_4 d) = f96_p4 (f96_t k) d := by kernel_rfl
theorem q96_m (k : Nat) (d : Unit × (((List Int) × Unit) × Unit)) : evCode E96 (tab (L96 k)) c96 (bodyOf Try.f96) 0 (finK E96 po96 [.tmp 2]) (startSt pi96 20 d) = f96_m (f96_t k) d := by kernel_rfl
theorem go96 (G : pi96.den → Option po96.den) (hG : ∀ d out, G d = some out → ∃ k, f96_m (f96_t k) d = some out) : FnOk Try.prog ET0 96 pi96 po96 G :=
  fn_of_body (E := E96) e0_ok (fn := Try.f96) Try.func96 (by kernel_rfl) (by kernel_rfl) [.tmp 2] (by kernel_rfl) (by kernel_rfl) (by decide) c96 L96
    (by intro x hx d; simp only [L96, List.mem_cons, List.not_mem_nil, or_false] at hx; subst hx; rfl)
    (by intro k x hx d out h; simp only [L96, List.mem_cons, List.not_mem_nil, or_false] at hx; subst hx; exact (q96_4 k d).trans h)
    (by intro d out h; obtain ⟨k, hk⟩ := hG d out h; exact ⟨k, (q96_m k d).trans hk⟩)
def g96 (d : pi96.den) : Option po96.den := lim fun k => f96_m (f96_t k) d
theorem ok96 : FnOk Try.prog ET0 96 pi96 po96 g96 := go96 g96 fun d out h => lim_some h

/- (horologe/stamp.Long).bits -/
@[reducible] def pi111 : PSh := ⟨[], [.mk true [.v (.int .u32), .v (.int .u32)]]⟩
@[reducible] def po111 : PSh := ⟨[], [.mk false [.v (.int .u64)]]⟩
def f111_m (T : Unit) (d : Unit × ((Int × (Int × Unit)) × Unit)) : Option (Unit × ((Int × Unit) × Unit)) :=
  let x1 : Int := (iconv .u64 d.2.1.1)
  let x2 : Int := (ishl .u64 x1 (32 : Int))
  let x3 : Int := (iconv .u64 d.2.1.2.1)
  let x4 : Int := (ior .u64 x2 x3)
  some ((), ((x4, ()), ()))
def c111 : List Nat := []
def L111 (_ : Nat) : Pts po111.den := []
def E111 : Env := E0
theorem q111_m (k : Nat) (d : Unit × ((Int × (Int × Unit)) × Unit)) : evCode E111 (tab (L111 k)) c111 (bodyOf Try.f111) 0 (finK E111 po111 [.tmp 2]) (startSt pi111 11 d) = f111_m () d := by kernel_rfl
def g111 (d : pi111.den) : Option po111.den := f111_m () d
theorem ok111 : FnOk Try.prog ET0 111 pi111 po111 g111 :=
  fn_of_body (E := E111) e0_ok (fn := Try.f111) Try.func111 (by kernel_rfl) (by kernel_rfl) [.tmp 2] (by kernel_rfl) (by kernel_rfl) (by decide) c111 L111
    (by intro x hx; cases hx) (by intro k x hx; cases hx) (fun d out h => ⟨0, (q111_m 0 d).trans h⟩)

/- horologe/horologeref28.half -/
@[reducible] def pi97 : PSh := ⟨[], [.mk false [.v (.int .i64)]]⟩
@[reducible] def po97 : PSh := ⟨[], [.mk false [.v (.int .i64)], .mk false [.v (.int .i64)]]⟩
def f97_m (T : Unit) (d : Unit × ((Int × Unit) × Unit)) : Option (Unit × ((Int × Unit) × ((Int × Unit) × Unit))) :=
  let x1 : Int := (Int.tmod d.2.1.1 (2 : Int))
  let x2 : Bool := (decide (x1 < (0 : Int)))
  bif x2 then (
  let x3 : Int := (isub .i64 d.2.1.1 (1 : Int))
  let x4 : Int := (iquo .i64 x3 (2 : Int))
  some ((), ((x4, ()), (((1 : Int), ()), ()))))
  else (
  let x5 : Int := (isub .i64 d.2.1.1 x1)
  let x6 : Int := (iquo .i64 x5 (2 : Int))
  some ((), ((x6, ()), ((x1, ()), ()))))
def c97 : List Nat := []
def L97 (_ : Nat) : Pts po97.den := []
def E97 : Env := E0
theorem q97_m (k : Nat) (d : Unit × ((Int × Unit) × Unit)) : evCode E97 (tab (L97 k)) c97 (bodyOf Try.f97) 0 (finK E97 po97 [.tmp 2, .tmp 3]) (startSt pi97 14 d) = f97_m () d := by kernel_rfl
def g97 (d : pi97.den) : Option po97.den := f97_m () d
theorem ok97 : FnOk Try.prog ET0 97 pi97 po97 g97 :=
  fn_of_body (E := E97) e0_ok (fn := Try.f97) Try.func97 (by kernel_rfl) (by kernel_rfl) [.tmp 2, .tmp 3] (by kernel_rfl) (by kernel_rfl) (by decide) c97 L97
    (by intro x hx; cases hx) (by intro k x hx; cases hx) (fun d out h => ⟨0, (q97_m 0 d).trans h⟩)

/- horologe/horologeref03.Value -/
@[reducible] def pi62 : PSh := ⟨[], [.mk false [.v (.sl (.int .u8))]]⟩
@[reducible] def po62 : PSh := ⟨[], [.mk false [.v (.int .u64)]]⟩
@[reducible] def sh62_4 : PSh := ⟨[], [.mk false [.v (.sl (.int .u8))], .any, .any, .mk false [.v (.int .u64)], .mk false [.v (.int .i64)], .any, .any, .any, .any, .any, .any, .any, .any, .any, .any, .any, .any, .any, .any, .any]⟩
def f62_p4 (T : (((Unit × (((List Int) × Unit) × ((Int × Unit) × ((Int × Unit) × Unit)))) → Option (Unit × ((Int × Unit) × Unit))) × Unit)) (d : Unit × (((List Int) × Unit) × ((Int × Unit) × ((Int × Unit) × Unit)))) : Option (Unit × ((Int × Unit) × Unit)) :=
  let x1 : Int := (d.2.1.1.length : Int)
  let x2 : Bool := (decide (d.2.2.2.1.1 < x1))
  bif x2 then (
  let x3 : Int := (imul .u64 d.2.2.1.1 (256 : Int))
  bif decide ((0 : Int) ≤ d.2.2.2.1.1) && decide (d.2.2.2.1.1 < (d.2.1.1.length : Int)) then (
  let x4 : Int := (iconv .u64 (gd (.int .u8) d.2.1.1 d.2.2.2.1.1))
  let x5 : Int := (iadd .u64 x3 x4)
  let x6 : Int := (iadd .i64 d.2.2.2.1.1 (1 : Int))
  (T.1 ((), ((d.2.1.1, ()), ((x5, ()), ((x6, ()), ()))))))
  else none)
  else (
  some ((), ((d.2.2.1.1, ()), ())))
def f62_t : Nat → (((Unit × (((List Int) × Unit) × ((Int × Unit) × ((Int × Unit) × Unit)))) → Option (Unit × ((Int × Unit) × Unit))) × Unit)
  | 0 => (fun _ => none, ())
  | k + 1 => (f62_p4 (f62_t k), ())
theorem t62_s (k : Nat) : f62_t (k + 1) = (f62_p4 (f62_t k), ()) := rfl
def f62_m (T : (((Unit × (((List Int) × Unit) × ((Int × Unit) × ((Int × Unit) × Unit)))) → Option (Unit × ((Int × Unit) × Unit))) × Unit)) (d : Unit × (((List Int) × Unit) × Unit)) : Option (Unit × ((Int × Unit) × Unit)) :=
  (T.1 ((), ((d.2.1.1, ()), (((0 : Int), ()), (((0 : Int), ()), ())))))
def c62 : List Nat := []
def L62 (k : Nat) : Pts po62.den := [(4, ⟨sh62_4, (f62_t k).1⟩)]
def E62 : Env := E0
theorem q62_4 (k : Nat) (d : Unit × (((List Int) × Unit) × ((Int × Unit) × ((Int × Unit) × Unit)))) : evAt E62 (tab (L62 k)) c62 4 (bodyOf Try.f62) 0 (finK E62 po62 [.tmp 2]) (ptSt sh62_4 d) = f62_p4 (f62_t k) d := by kernel_rfl
theorem q62_m (k : Nat) (d : Unit × (((List Int) × Unit) × Unit)) : evCode E62 (tab (L62 k)) c62 (bodyOf Try.f62) 0 (finK E62 po62 [.tmp 2]) (startSt pi62 20 d) = f62_m (f62_t k) d := by kernel_rfl
theorem go62 (G : pi62.den → Option po62.den) (hG : ∀ d out, G d = some out → ∃ k, f62_m (f62_t k) d = some out) : FnOk Try.prog ET0 62 pi62 po62 G :=
  fn_of_body (E := E62) e0_ok (fn := Try.f62) Try.func62 (by kernel_rfl) (by kernel_rfl) [.tmp 2] (by kernel_rfl) (by kernel_rfl) (by decide) c62 L62
    (by intro x hx d; simp only [L62, List.mem_cons, List.not_mem_nil, or_false] at hx; subst hx; rfl)
    (by intro k x hx d out h; simp only [L62, List.mem_cons, List.not_mem_nil, or_false] at hx; subst hx; exact (q62_4 k d).trans h)
    (by intro d out h; obtain ⟨k, hk⟩ := hG d out h; exact ⟨k, (q62_m k d).trans hk⟩)
def g62 (d : pi62.den) : Option po62.den := lim fun k => f62_m (f62_t k) d
theorem ok62 : FnOk Try.prog ET0 62 pi62 po62 g62 := go62 g62 fun d out h => lim_some h

/- horologe/horologeref03.Get -/
@[reducible] def pi100 : PSh := ⟨[], [.mk false [.v (.sl (.int .u8))], .mk false [.v (.int .i64)], .mk false [.v (.int .i64)]]⟩
@[reducible] def po100 : PSh := ⟨[], [.mk false [.v (.int .u64)], .mk false [.v (.int .i64)]]⟩
def f100_m (T : Unit) (d : Unit × (((List Int) × Unit) × ((Int × Unit) × ((Int × Unit) × Unit)))) : Option (Unit × ((Int × Unit) × ((Int × Unit) × Unit))) :=
  (g26 ((), ((d.2.1.1, ()), ((d.2.2.1.1, ()), ((d.2.2.2.1.1, ()), ()))))).bind fun x1 =>
  let x2 : Bool := (x1.2.2.1.1 != (0 : Int))
  bif x2 then (
  some ((), (((0 : Int), ()), ((x1.2.2.1.1, ()), ()))))
  else (
  (g62 ((), ((x1.2.1.1, ()), ()))).bind fun x3 =>
  some ((), ((x3.2.1.1, ()), (((0 : Int), ()), ()))))
def c100 : List Nat := []
def L100 (_ : Nat) : Pts po100.den := []
def E100 : Env := ((E0.add 26 (typedSem pi26 po26 g26)).add 62 (typedSem pi62 po62 g62))
theorem q100_m (k : Nat) (d : Unit × (((List Int) × Unit) × ((Int × Unit) × ((Int × Unit) × Unit)))) : evCode E100 (tab (L100 k)) c100 (bodyOf Try.f100) 0 (finK E100 po100 [.tmp 6, .tmp 7]) (startSt pi100 22 d) = f100_m () d := by kernel_rfl
def g100 (d : pi100.den) : Option po100.den := f100_m () d
theorem ok100 : FnOk Try.prog ET0 100 pi100 po100 g100 :=
  fn_of_body (E := E100) (envOk_add (envOk_add e0_ok (typed_ok ok26)) (typed_ok ok62)) (fn := Try.f100) Try.func100 (by kernel_rfl) (by kernel_rfl) [.tmp 6, .tmp 7] (by kernel_rfl) (by kernel_rfl) (by decide) c100 L100
    (by intro x hx; cases hx) (by intro k x hx; cases hx) (fun d out h => ⟨0, (q100_m 0 d).trans h⟩)

/- horologe/octets.Put[uint8] -/
@[reducible] def pi102 : PSh := ⟨[], [.mk false [.v (.sl (.int .u8))], .mk false [.v (.sl (.int .u8))]]⟩
@[reducible] def po102 : PSh := ⟨[.row 5 (.int .u8)], [.mk false [.osl 0]]⟩
@[reducible] def sh102_5 : PSh := ⟨[.row 5 (.int .u8)], [.any, .any, .any, .any, .any, .mk false [.v (.int .i64)], .mk false [.osl 0], .any, .any, .any, .any, .any, .any, .mk false [.v (.sl (.int .u8))], .mk false [.v (.int .i64)], .mk false [.v (.int .i64)], .any, .any, .any, .any, .any, .any, .any, .any, .any, .any, .any, .any, .any, .any, .any, .any, .any, .any, .any, .any]⟩
@[reducible] def sh102_11 : PSh := ⟨[.row 5 (.int .u8)], [.any, .any, .any, .any, .any, .mk false [.v (.int .i64)], .mk false [.osl 0], .any, .mk false [.v (.int .u8)], .mk false [.v (.int .i64)], .any, .any, .any, .mk false [.v (.sl (.int .u8))], .mk false [.v (.int .i64)], .mk false [.v (.int .i64)], .any, .any, .any, .any, .any, .any, .any, .any, .any, .any, .any, .any, .any, .any, .any, .any, .any, .any, .any, .any]⟩
def f102_p5 (T : (((((List Int) × Unit) × ((Int × Unit) × (Unit × (((List Int) × Unit) × ((Int × Unit) × ((Int × Unit) × Unit)))))) → Option (((List Int) × Unit) × (Unit × Unit))) × (((((List Int) × Unit) × ((Int × Unit) × (Unit × ((Int × Unit) × ((Int × Unit) × (((List Int) × Unit) × ((Int × Unit) × ((Int × Unit) × Unit)))))))) → Option (((List Int) × Unit) × (Unit × Unit))) × Unit))) (d : ((List Int) × Unit) × ((Int × Unit) × (Unit × (((List Int) × Unit) × ((Int × Unit) × ((Int × Unit) × Unit)))))) : Option (((List Int) × Unit) × (Unit × Unit)) :=
  let x4 : Bool := (decide (d.2.2.2.2.2.1.1 < d.2.2.2.2.1.1))
  bif x4 then (
  bif decide ((0 : Int) ≤ d.2.2.2.2.2.1.1) && decide (d.2.2.2.2.2.1.1 < (d.2.2.2.1.1.length : Int)) then (
  let x5 : Int := (isub .i64 d.2.1.1 (1 : Int))
  (T.2.1 ((d.1.1, ()), ((d.2.1.1, ()), ((), (((gd (.int .u8) d.2.2.2.1.1 d.2.2.2.2.2.1.1), ()), ((x5, ()), ((d.2.2.2.1.1, ()), ((d.2.2.2.2.1.1, ()), ((d.2.2.2.2.2.1.1, ()), ()))))))))))
  else none)
  else (
  some ((d.1.1, ()), ((), ())))
def f102_p11 (T : (((((List Int) × Unit) × ((Int × Unit) × (Unit × (((List Int) × Unit) × ((Int × Unit) × ((Int × Unit) × Unit)))))) → Option (((List Int) × Unit) × (Unit × Unit))) × (((((List Int) × Unit) × ((Int × Unit) × (Unit × ((Int × Unit) × ((Int × Unit) × (((List Int) × Unit) × ((Int × Unit) × ((Int × Unit) × Unit)))))))) → Option (((List Int) × Unit) × (Unit × Unit))) × Unit))) (d : ((List Int) × Unit) × ((Int × Unit) × (Unit × ((Int × Unit) × ((Int × Unit) × (((List Int) × Unit) × ((Int × Unit) × ((Int × Unit) × Unit)))))))) : Option (((List Int) × Unit) × (Unit × Unit)) :=
  let x6 : Bool := (decide (d.2.2.2.2.1.1 ≥ (0 : Int)))
  bif x6 then (
  let x7 : Int := (iconv .u64 d.2.2.2.1.1)
  let x8 : Int := (imul .i64 (8 : Int) d.2.2.2.2.1.1)
  bif decide (x8 < 0) then (
  none)
  else (
  let x9 : Int := (ishr .u64 x7 x8)
  let x10 : Int := (iconv .u8 x9)
  let x11 : (List Int) := ([x10] : List Int)
  bif decide (((d.1.1.length + x11.length) * 1 : Nat) ≤ 140737488355328) && decide (d.1.1.length + x11.length ≤ 9223372036854775807) then (
  let x12 : (List Int) := (d.1.1 ++ x11)
  let x13 : Int := (isub .i64 d.2.2.2.2.1.1 (1 : Int))
  (T.2.1 ((x12, ()), ((d.2.1.1, ()), ((), ((d.2.2.2.1.1, ()), ((x13, ()), ((d.2.2.2.2.2.1.1, ()), ((d.2.2.2.2.2.2.1.1, ()), ((d.2.2.2.2.2.2.2.1.1, ()), ()))))))))))
  else none))
  else (
  let x14 : Int := (iadd .i64 d.2.2.2.2.2.2.2.1.1 (1 : Int))
  (T.1 ((d.1.1, ()), ((d.2.1.1, ()), ((), ((d.2.2.2.2.2.1.1, ()), ((d.2.2.2.2.2.2.1.1, ()), ((x14, ()), ()))))))))
def f102_t : Nat → (((((List Int) × Unit) × ((Int × Unit) × (Unit × (((List Int) × Unit) × ((Int × Unit) × ((Int × Unit) × Unit)))))) → Option (((List Int) × Unit) × (Unit × Unit))) × (((((List Int) × Unit) × ((Int × Unit) × (Unit × ((Int × Unit) × ((Int × Unit) × (((List Int) × Unit) × ((Int × Unit) × ((Int × Unit) × Unit)))))))) → Option (((List Int) × Unit) × (Unit × Unit))) × Unit))
  | 0 => (fun _ => none, (fun _ => none, ()))
  | k + 1 => (f102_p5 (f102_t k), (f102_p11 (f102_t k), ()))
theorem t102_s (k : Nat) : f102_t (k + 1) = (f102_p5 (f102_t k), (f102_p11 (f102_t k), ())) := rfl
def f102_m (T : (((((List Int) × Unit) × ((Int × Unit) × (Unit × (((List Int) × Unit) × ((Int × Unit) × ((Int × Unit) × Unit)))))) → Option (((List Int) × Unit) × (Unit × Unit))) × (((((List Int) × Unit) × ((Int × Unit) × (Unit × ((Int × Unit) × ((Int × Unit) × (((List Int) × Unit) × ((Int × Unit) × ((Int × Unit) × Unit)))))))) → Option (((List Int) × Unit) × (Unit × Unit))) × Unit))) (d : Unit × (((List Int) × Unit) × (((List Int) × Unit) × Unit))) : Option (((List Int) × Unit) × (Unit × Unit)) :=
  (g98 ((), ())).bind fun x1 =>
  (g76 ((), ((d.2.1.1, ()), ()))).bind fun x2 =>
  let x3 : Int := (d.2.2.1.1.length : Int)
  (T.1 ((x2.1.1, ()), ((x1.2.1.1, ()), ((), ((d.2.2.1.1, ()), ((x3, ()), (((0 : Int), ()), ())))))))
def c102 : List Nat := []
def L102 (k : Nat) : Pts po102.den := [(5, ⟨sh102_5, (f102_t k).1⟩), (11, ⟨sh102_11, (f102_t k).2.1⟩)]
def E102 : Env := ((E0.add 76 (typedSem pi76 po76 g76)).add 98 (typedSem pi98 po98 g98))
theorem q102_5 (k : Nat) (d : ((List Int) × Unit) × ((Int × Unit) × (Unit × (((List Int) × Unit) × ((Int × Unit) × ((Int × Unit) × Unit)))))) : evAt E102 (tab (L102 k)) c102 5 (bodyOf Try.f102) 0 (finK E102 po102 [.tmp 4]) (ptSt sh102_5 d) = f102_p5 (f102_t k) d := by kernel_rfl
theorem q102_11 (k : Nat) (d : ((List Int) × Unit) × ((Int × Unit) × (Unit × ((Int × Unit) × ((Int × Unit) × (((List Int) × Unit) × ((Int × Unit) × ((Int × Unit) × Unit)))))))) : evAt E102 (tab (L102 k)) c102 11 (bodyOf Try.f102) 0 (finK E102 po102 [.tmp 4]) (ptSt sh102_11 d) = f102_p11 (f102_t k) d := by kernel_rfl
theorem q102_m (k : Nat) (d : Unit × (((List Int) × Unit) × (((List Int) × Unit) × Unit))) : evCode E102 (tab (L102 k)) c102 (bodyOf Try.f102) 0 (finK E102 po102 [.tmp 4]) (startSt pi102 36 d) = f102_m (f102_t k) d := by kernel_rfl
theorem go102 (G : pi102.den → Option po102.den) (hG : ∀ d out, G d = some out → ∃ k, f102_m (f102_t k) d = some out) : FnOk Try.prog ET0 102 pi102 po102 G :=
  fn_of_body (E := E102) (envOk_add (envOk_add e0_ok (typed_ok ok76)) (typed_ok ok98)) (fn := Try.f102) Try.func102 (by kernel_rfl) (by kernel_rfl) [.tmp 4] (by kernel_rfl) (by kernel_rfl) (by decide) c102 L102
    (by intro x hx d; simp only [L102, List.mem_cons, List.not_mem_nil, or_false] at hx; rcases hx with rfl | rfl <;> first | (rfl) | (rfl))
    (by intro k x hx d out h; simp only [L102, List.mem_cons, List.not_mem_nil, or_false] at hx; rcases hx with rfl | rfl <;> first | (exact (q102_5 k d).trans h) | (exact (q102_11 k d).trans h))
    (by intro d out h; obtain ⟨k, hk⟩ := hG d out h; exact ⟨k, (q102_m k d).trans hk⟩)
def g102 (d : pi102.den) : Option po102.den := lim fun k => f102_m (f102_t k) d
theorem ok102 : FnOk Try.prog ET0 102 pi102 po102 g102 := go102 g102 fun d out h => lim_some h

/- horologe/octets.Get[uint32] -/
@[reducible] def pi106 : PSh := ⟨[], [.mk false [.v (.sl (.int .u8))], .mk false [.v (.int .i64)]]⟩
@[reducible] def po106 : PSh := ⟨[], [.mk false [.v (.int .u32)], .mk false [.v .err]]⟩
def f106_m (T : Unit) (d : Unit × (((List Int) × Unit) × ((Int × Unit) × Unit))) : Option (Unit × ((Int × Unit) × (((Option Int) × Unit) × Unit))) :=
  (g91 ((), ())).bind fun x1 =>
  (g75 ((), ((d.2.1.1, ()), ((d.2.2.1.1, ()), ((x1.2.1.1, ()), ()))))).bind fun x2 =>
  let x3 : Bool := (!x2.2.2.1.1.isNone)
  bif x3 then (
  some ((), (((0 : Int), ()), ((x2.2.2.1.1, ()), ()))))
  else (
  (g96 ((), ((x2.2.1.1, ()), ()))).bind fun x4 =>
  some ((), ((x4.2.1.1, ()), (((none : Option Int), ()), ()))))
def c106 : List Nat := []
def L106 (_ : Nat) : Pts po106.den := []
def E106 : Env := (((E0.add 75 (typedSem pi75 po75 g75)).add 91 (typedSem pi91 po91 g91)).add 96 (typedSem pi96 po96 g96))
theorem q106_m (k : Nat) (d : Unit × (((List Int) × Unit) × ((Int × Unit) × Unit))) : evCode E106 (tab (L106 k)) c106 (bodyOf Try.f106) 0 (finK E106 po106 [.tmp 4, .tmp 5]) (startSt pi106 20 d) = f106_m () d := by kernel_rfl
def g106 (d : pi106.den) : Option po106.den := f106_m () d
theorem ok106 : FnOk Try.prog ET0 106 pi106 po106 g106 :=
  fn_of_body (E := E106) (envOk_add (envOk_add (envOk_add e0_ok (typed_ok ok75)) (typed_ok ok91)) (typed_ok ok96)) (fn := Try.f106) Try.func106 (by kernel_rfl) (by kernel_rfl) [.tmp 4, .tmp 5] (by kernel_rfl) (by kernel_rfl) (by decide) c106 L106
    (by intro x hx; cases hx) (by intro k x hx; cases hx) (fun d out h => ⟨0, (q106_m 0 d).trans h⟩)

/- horologe/head.Mode -/
@[reducible] def pi67 : PSh := ⟨[], [.mk false [.v (.int .i64)]]⟩
@[reducible] def po67 : PSh := ⟨[], [.mk false [.v .str]]⟩
def f67_m (T : Unit) (d : Unit × ((Int × Unit) × Unit)) : Option (Unit × ((ByteArray × Unit) × Unit)) :=
  let x1 : Bool := (d.2.1.1 == (0 : Int))
  bif x1 then (
  some ((), (((⟨#[114, 101, 115, 101, 114, 118, 101, 100]⟩ : ByteArray), ()), ())))
  else (
  let x2 : Bool := (d.2.1.1 == (1 : Int))
  bif x2 then (
  some ((), (((⟨#[97, 99, 116, 105, 118, 101]⟩ : ByteArray), ()), ())))
  else (
  let x3 : Bool := (d.2.1.1 == (2 : Int))
  bif x3 then (
  some ((), (((⟨#[112, 97, 115, 115, 105, 118, 101]⟩ : ByteArray), ()), ())))
  else (
  let x4 : Bool := (d.2.1.1 == (3 : Int))
  bif x4 then (
  some ((), (((⟨#[99, 108, 105, 101, 110, 116]⟩ : ByteArray), ()), ())))
  else (
  let x5 : Bool := (d.2.1.1 == (4 : Int))
  bif x5 then (
  some ((), (((⟨#[115, 101, 114, 118, 101, 114]⟩ : ByteArray), ()), ())))
  else (
  let x6 : Bool := (d.2.1.1 == (5 : Int))
  bif x6 then (
  some ((), (((⟨#[98, 114, 111, 97, 100, 99, 97, 115, 116]⟩ : ByteArray), ()), ())))
  else (
  let x7 : Bool := (d.2.1.1 == (6 : Int))
  bif x7 then (
  some ((), (((⟨#[99, 111, 110, 116, 114, 111, 108]⟩ : ByteArray), ()), ())))
  else (
  let x8 : Bool := (d.2.1.1 == (7 : Int))
  bif x8 then (
  some ((), (((⟨#[112, 114, 105, 118, 97, 116, 101]⟩ : ByteArray), ()), ())))
  else (
  some ((), (((⟨#[]⟩ : ByteArray), ()), ()))))))))))
def c67 : List Nat := []
def L67 (_ : Nat) : Pts po67.den := []
def E67 : Env := E0
theorem q67_m (k : Nat) (d : Unit × ((Int × Unit) × Unit)) : evCode E67 (tab (L67 k)) c67 (bodyOf Try.f67) 0 (finK E67 po67 [.tmp 2]) (startSt pi67 20 d) = f67_m () d := by kernel_rfl
def g67 (d : pi67.den) : Option po67.den := f67_m () d
theorem ok67 : FnOk Try.prog ET0 67 pi67 po67 g67 :=
  fn_of_body (E := E67) e0_ok (fn := Try.f67) Try.func67 (by kernel_rfl) (by kernel_rfl) [.tmp 2] (by kernel_rfl) (by kernel_rfl) (by decide) c67 L67
    (by intro x hx; cases hx) (by intro k x hx; cases hx) (fun d out h => ⟨0, (q67_m 0 d).trans h⟩)

/- horologe/horologeref28.Mode -/
@[reducible] def pi68 : PSh := ⟨[], [.mk false [.v (.int .i64)]]⟩
@[reducible] def po68 : PSh := ⟨[], [.mk false [.v .str]]⟩
def f68_m (T : Unit) (d : Unit × ((Int × Unit) × Unit)) : Option (Unit × ((ByteArray × Unit) × Unit)) :=
  let x1 : (List ByteArray) := ([(⟨#[114, 101, 115, 101, 114, 118, 101, 100]⟩ : ByteArray), (⟨#[97, 99, 116, 105, 118, 101]⟩ : ByteArray), (⟨#[112, 97, 115, 115, 105, 118, 101]⟩ : ByteArray), (⟨#[99, 108, 105, 101, 110, 116]⟩ : ByteArray), (⟨#[115, 101, 114, 118, 101, 114]⟩ : ByteArray), (⟨#[98, 114, 111, 97, 100, 99, 97, 115, 116]⟩ : ByteArray), (⟨#[99, 111, 110, 116, 114, 111, 108]⟩ : ByteArray), (⟨#[112, 114, 105, 118, 97, 116, 101]⟩ : ByteArray)] : List ByteArray)
  let x2 : Bool := (decide (d.2.1.1 < (0 : Int)))
  bif x2 then (
  some ((), (((⟨#[]⟩ : ByteArray), ()), ())))
  else (
  let x3 : Int := (x1.length : Int)
  let x4 : Bool := (decide (d.2.1.1 ≥ x3))
  bif x4 then (
  some ((), (((⟨#[]⟩ : ByteArray), ()), ())))
  else (
  bif decide ((0 : Int) ≤ d.2.1.1) && decide (d.2.1.1 < (x1.length : Int)) then (
  some ((), (((gd .str x1 d.2.1.1), ()), ())))
  else none))
def c68 : List Nat := []
def L68 (_ : Nat) : Pts po68.den := []
def E68 : Env := E0
theorem q68_m (k : Nat) (d : Unit × ((Int × Unit) × Unit)) : evCode E68 (tab (L68 k)) c68 (bodyOf Try.f68) 0 (finK E68 po68 [.tmp 2]) (startSt pi68 17 d) = f68_m () d := by kernel_rfl
def g68 (d : pi68.den) : Option po68.den := f68_m () d
theorem ok68 : FnOk Try.prog ET0 68 pi68 po68 g68 :=
  fn_of_body (E := E68) e0_ok (fn := Try.f68) Try.func68 (by kernel_rfl) (by kernel_rfl) [.tmp 2] (by kernel_rfl) (by kernel_rfl) (by decide) c68 L68
    (by intro x hx; cases hx) (by intro k x hx; cases hx) (fun d out h => ⟨0, (q68_m 0 d).trans h⟩)

/- horologe/horologeref28.signed -/
@[reducible] def pi114 : PSh := ⟨[], [.mk false [.v (.int .u8)]]⟩
@[reducible] def po114 : PSh := ⟨[], [.mk false [.v (.int .i64)]]⟩
def f114_m (T : Unit) (d : Unit × ((Int × Unit) × Unit)) : Option (Unit × ((Int × Unit) × Unit)) :=
  let x1 : Bool := (decide (d.2.1.1 ≥ (128 : Int)))
  bif x1 then (
  let x2 : Int := (iconv .i64 d.2.1.1)
  let x3 : Int := (isub .i64 x2 (256 : Int))
  some ((), ((x3, ()), ())))
  else (
  let x4 : Int := (iconv .i64 d.2.1.1)
  some ((), ((x4, ()), ())))
def c114 : List Nat := []
def L114 (_ : Nat) : Pts po114.den := []
def E114 : Env := E0
theorem q114_m (k : Nat) (d : Unit × ((Int × Unit) × Unit)) : evCode E114 (tab (L114 k)) c114 (bodyOf Try.f114) 0 (finK E114 po114 [.tmp 2]) (startSt pi114 10 d) = f114_m () d := by kernel_rfl
def g114 (d : pi114.den) : Option po114.den := f114_m () d
theorem ok114 : FnOk Try.prog ET0 114 pi114 po114 g114 :=
  fn_of_body (E := E114) e0_ok (fn := Try.f114) Try.func114 (by kernel_rfl) (by kernel_rfl) [.tmp 2] (by kernel_rfl) (by kernel_rfl) (by decide) c114 L114
    (by intro x hx; cases hx) (by intro k x hx; cases hx) (fun d out h => ⟨0, (q114_m 0 d).trans h⟩)

/- horologe/word.Put -/
@[reducible] def pi71 : PSh := ⟨[], [.mk false [.v (.int .i64)]]⟩
@[reducible] def po71 : PSh := ⟨[.row 5 (.int .u8)], [.mk false [.osl 0], .mk false [.v .err]]⟩
def f71_m (T : Unit) (d : Unit × ((Int × Unit) × Unit)) : Option (((List Int) × Unit) × (Unit × (((Option Int) × Unit) × Unit))) :=
  (g33 ((), ((d.2.1.1, ()), ()))).bind fun x1 =>
  let x2 : Bool := (!x1.2.2.1.1.isNone)
  bif x2 then (
  some ((([] : List Int), ()), ((), ((x1.2.2.1.1, ()), ()))))
  else (
  (g77 ((), ((x1.2.1.1, ()), ()))).bind fun x3 =>
  let x4 : (List Int) := ([x3.2.1.1] : List Int)
  (g43 ((), ((([] : List Int), ()), ((x4, ()), ())))).bind fun x5 =>
  some ((x5.1.1, ()), ((), (((none : Option Int), ()), ()))))
def c71 : List Nat := []
def L71 (_ : Nat) : Pts po71.den := []
def E71 : Env := (((E0.add 33 (typedSem pi33 po33 g33)).add 43 (typedSem pi43 po43 g43)).add 77 (typedSem pi77 po77 g77))
theorem q71_m (k : Nat) (d : Unit × ((Int × Unit) × Unit)) : evCode E71 (tab (L71 k)) c71 (bodyOf Try.f71) 0 (finK E71 po71 [.tmp 2, .tmp 3]) (startSt pi71 18 d) = f71_m () d := by kernel_rfl
def g71 (d : pi71.den) : Option po71.den := f71_m () d
theorem ok71 : FnOk Try.prog ET0 71 pi71 po71 g71 :=
  fn_of_body (E := E71) (envOk_add (envOk_add (envOk_add e0_ok (typed_ok ok33)) (typed_ok ok43)) (typed_ok ok77)) (fn := Try.f71) Try.func71 (by kernel_rfl) (by kernel_rfl) [.tmp 2, .tmp 3] (by kernel_rfl) (by kernel_rfl) (by decide) c71 L71
    (by intro x hx; cases hx) (by intro k x hx; cases hx) (fun d out h => ⟨0, (q71_m 0 d).trans h⟩)

/- horologe/horologelaw27.alive -/
@[reducible] def pi70 : PSh := ⟨[], []⟩
@[reducible] def po70 : PSh := ⟨[], [.mk false [.v .bool]]⟩
def f70_m (T : Unit) (d : Unit × Unit) : Option (Unit × ((Bool × Unit) × Unit)) :=
  (g71 ((), (((0 : Int), ()), ()))).bind fun x1 =>
  bif x1.2.2.1.1.isNone then (
  let x2 : Int := (x1.1.1.length : Int)
  let x3 : Bool := (x2 == (4 : Int))
  bif x3 then (
  bif decide ((0 : Int) ≤ (0 : Int)) && decide ((0 : Int) < (x1.1.1.length : Int)) then (
  let x4 : Bool := ((gd (.int .u8) x1.1.1 (0 : Int)) == (131 : Int))
  bif x4 then (
  bif decide ((0 : Int) ≤ (1 : Int)) && decide ((1 : Int) < (x1.1.1.length : Int)) then (
  let x5 : Bool := ((gd (.int .u8) x1.1.1 (1 : Int)) == (170 : Int))
  bif x5 then (
  bif decide ((0 : Int) ≤ (2 : Int)) && decide ((2 : Int) < (x1.1.1.length : Int)) then (
  let x6 : Bool := ((gd (.int .u8) x1.1.1 (2 : Int)) == (126 : Int))
  bif x6 then (
  bif decide ((0 : Int) ≤ (3 : Int)) && decide ((3 : Int) < (x1.1.1.length : Int)) then (
  let x7 : Bool := ((gd (.int .u8) x1.1.1 (3 : Int)) == (128 : Int))
  some ((), ((x7, ()), ())))
  else none)
  else (
  some ((), ((false, ()), ()))))
  else none)
  else (
  some ((), ((false, ()), ()))))
  else none)
  else (
  some ((), ((false, ()), ()))))
  else none)
  else (
  some ((), ((false, ()), ()))))
  else (
  some ((), ((false, ()), ())))
def c70 : List Nat := []
def L70 (_ : Nat) : Pts po70.den := []
def E70 : Env := (E0.add 71 (typedSem pi71 po71 g71))
theorem q70_m (k : Nat) (d : Unit × Unit) : evCode E70 (tab (L70 k)) c70 (bodyOf Try.f70) 0 (finK E70 po70 [.tmp 0]) (startSt pi70 38 d) = f70_m () d := by kernel_rfl
def g70 (d : pi70.den) : Option po70.den := f70_m () d
theorem ok70 : FnOk Try.prog ET0 70 pi70 po70 g70 :=
  fn_of_body (E := E70) (envOk_add e0_ok (typed_ok ok71)) (fn := Try.f70) Try.func70 (by kernel_rfl) (by kernel_rfl) [.tmp 0] (by kernel_rfl) (by kernel_rfl) (by decide) c70 L70
    (by intro x hx; cases hx) (by intro k x hx; cases hx) (fun d out h => ⟨0, (q70_m 0 d).trans h⟩)

/- horologe/word.Parse -/
@[reducible] def pi115 : PSh := ⟨[], [.mk false [.v (.sl (.int .u8))]]⟩
@[reducible] def po115 : PSh := ⟨[], [.mk false [.v (.int .u32)], .mk false [.v .err]]⟩
def f115_m (T : Unit) (d : Unit × (((List Int) × Unit) × Unit)) : Option (Unit × ((Int × Unit) × (((Option Int) × Unit) × Unit))) :=
  (g106 ((), ((d.2.1.1, ()), (((0 : Int), ()), ())))).bind fun x1 =>
  let x2 : Bool := (!x1.2.2.1.1.isNone)
  bif x2 then (
  let x3 : (Option Int) := (some (2 : Int))
  some ((), (((0 : Int), ()), ((x3, ()), ()))))
  else (
  let x4 : Int := (d.2.1.1.length : Int)
  (g91 ((), ())).bind fun x5 =>
  let x6 : Bool := (x4 != x5.2.1.1)
  bif x6 then (
  let x7 : (Option Int) := (some (2 : Int))
  some ((), (((0 : Int), ()), ((x7, ()), ()))))
  else (
  some ((), ((x1.2.1.1, ()), (((none : Option Int), ()), ())))))
def c115 : List Nat := []
def L115 (_ : Nat) : Pts po115.den := []
def E115 : Env := ((E0.add 91 (typedSem pi91 po91 g91)).add 106 (typedSem pi106 po106 g106))
theorem q115_m (k : Nat) (d : Unit × (((List Int) × Unit) × Unit)) : evCode E115 (tab (L115 k)) c115 (bodyOf Try.f115) 0 (finK E115 po115 [.tmp 2, .tmp 3]) (startSt pi115 21 d) = f115_m () d := by kernel_rfl
def g115 (d : pi115.den) : Option po115.den := f115_m () d
theorem ok115 : FnOk Try.prog ET0 115 pi115 po115 g115 :=
  fn_of_body (E := E115) (envOk_add (envOk_add e0_ok (typed_ok ok91)) (typed_ok ok106)) (fn := Try.f115) Try.func115 (by kernel_rfl) (by kernel_rfl) [.tmp 2, .tmp 3] (by kernel_rfl) (by kernel_rfl) (by decide) c115 L115
    (by intro x hx; cases hx) (by intro k x hx; cases hx) (fun d out h => ⟨0, (q115_m 0 d).trans h⟩)

/- horologe/word.Near -/
@[reducible] def pi72 : PSh := ⟨[], [.mk false [.v (.sl (.int .u8))], .mk false [.v (.int .i64)]]⟩
@[reducible] def po72 : PSh := ⟨[], [.mk false [.v (.int .i64)], .mk false [.v .err]]⟩
def f72_m (T : Unit) (d : Unit × (((List Int) × Unit) × ((Int × Unit) × Unit))) : Option (Unit × ((Int × Unit) × (((Option Int) × Unit) × Unit))) :=
  (g115 ((), ((d.2.1.1, ()), ()))).bind fun x1 =>
  let x2 : Bool := (!x1.2.2.1.1.isNone)
  bif x2 then (
  some ((), (((0 : Int), ()), ((x1.2.2.1.1, ()), ()))))
  else (
  (g33 ((), ((d.2.2.1.1, ()), ()))).bind fun x3 =>
  let x4 : Bool := (!x3.2.2.1.1.isNone)
  bif x4 then (
  some ((), (((0 : Int), ()), ((x3.2.2.1.1, ()), ()))))
  else (
  (g78 ((), ((x1.2.1.1, ()), ((x3.2.1.1, ()), ())))).bind fun x5 =>
  let x6 : Bool := (!x5.2.2.1.1.isNone)
  bif x6 then (
  some ((), (((0 : Int), ()), ((x5.2.2.1.1, ()), ()))))
  else (
  (g34 ((), ((x5.2.1.1, ()), ()))).bind fun x7 =>
  some ((), ((x7.2.1.1, ()), ((x7.2.2.1.1, ()), ()))))))
def c72 : List Nat := []
def L72 (_ : Nat) : Pts po72.den := []
def E72 : Env := ((((E0.add 33 (typedSem pi33 po33 g33)).add 34 (typedSem pi34 po34 g34)).add 78 (typedSem pi78 po78 g78)).add 115 (typedSem pi115 po115 g115))
theorem q72_m (k : Nat) (d : Unit × (((List Int) × Unit) × ((Int × Unit) × Unit))) : evCode E72 (tab (L72 k)) c72 (bodyOf Try.f72) 0 (finK E72 po72 [.tmp 4, .tmp 5]) (startSt pi72 39 d) = f72_m () d := by kernel_rfl
def g72 (d : pi72.den) : Option po72.den := f72_m () d
theorem ok72 : FnOk Try.prog ET0 72 pi72 po72 g72 :=
  fn_of_body (E := E72) (envOk_add (envOk_add (envOk_add (envOk_add e0_ok (typed_ok ok33)) (typed_ok ok34)) (typed_ok ok78)) (typed_ok ok115)) (fn := Try.f72) Try.func72 (by kernel_rfl) (by kernel_rfl) [.tmp 4, .tmp 5] (by kernel_rfl) (by kernel_rfl) (by decide) c72 L72
    (by intro x hx; cases hx) (by intro k x hx; cases hx) (fun d out h => ⟨0, (q72_m 0 d).trans h⟩)

/- horologe/horologelaw27.WordBack -/
@[reducible] def pi14 : PSh := ⟨[], [.mk false [.v (.int .i64)], .mk false [.v (.int .i64)]]⟩
@[reducible] def po14 : PSh := ⟨[], [.mk false [.v .bool]]⟩
def f14_m (T : Unit) (d : Unit × ((Int × Unit) × ((Int × Unit) × Unit))) : Option (Unit × ((Bool × Unit) × Unit)) :=
  (g70 ((), ())).bind fun x1 =>
  let x2 : Bool := (!x1.2.1.1)
  bif x2 then (
  some ((), ((false, ()), ())))
  else (
  let x3 : Bool := (decide (d.2.1.1 > (1152921504606846976 : Int)))
  bif x3 then (
  some ((), ((true, ()), ())))
  else (
  let x4 : Bool := (decide (d.2.1.1 < (-1152921504606846976 : Int)))
  bif x4 then (
  some ((), ((true, ()), ())))
  else (
  let x5 : Bool := (decide (d.2.2.1.1 > (1152921504606846976 : Int)))
  bif x5 then (
  some ((), ((true, ()), ())))
  else (
  let x6 : Bool := (decide (d.2.2.1.1 < (-1152921504606846976 : Int)))
  bif x6 then (
  some ((), ((true, ()), ())))
  else (
  (g71 ((), ((d.2.1.1, ()), ()))).bind fun x7 =>
  let x8 : Bool := (!x7.2.2.1.1.isNone)
  bif x8 then (
  some ((), ((false, ()), ())))
  else (
  let x9 : Int := (isub .i64 d.2.1.1 d.2.2.1.1)
  (g72 ((), ((x7.1.1, ()), ((x9, ()), ())))).bind fun x10 =>
  let x11 : Bool := (!x10.2.2.1.1.isNone)
  bif x11 then (
  some ((), ((false, ()), ())))
  else (
  let x12 : Bool := (decide (d.2.2.1.1 ≥ (-2147483648 : Int)))
  bif x12 then (
  let x13 : Bool := (decide (d.2.2.1.1 < (2147483648 : Int)))
  bif x13 then (
  let x14 : Bool := (x10.2.1.1 == d.2.1.1)
  some ((), ((x14, ()), ())))
  else (
  let x15 : Bool := (x10.2.1.1 != d.2.1.1)
  bif x15 then (
  let x16 : Int := (isub .i64 x10.2.1.1 d.2.1.1)
  let x17 : Int := (Int.tmod x16 (4294967296 : Int))
  let x18 : Bool := (x17 == (0 : Int))
  some ((), ((x18, ()), ())))
  else (
  some ((), ((false, ()), ())))))
  else (
  let x19 : Bool := (x10.2.1.1 != d.2.1.1)
  bif x19 then (
  let x20 : Int := (isub .i64 x10.2.1.1 d.2.1.1)
  let x21 : Int := (Int.tmod x20 (4294967296 : Int))
  let x22 : Bool := (x21 == (0 : Int))
  some ((), ((x22, ()), ())))
  else (
  some ((), ((false, ()), ())))))))))))
def c14 : List Nat := []
def L14 (_ : Nat) : Pts po14.den := []
def E14 : Env := (((E0.add 70 (typedSem pi70 po70 g70)).add 71 (typedSem pi71 po71 g71)).add 72 (typedSem pi72 po72 g72))
theorem q14_m (k : Nat) (d : Unit × ((Int × Unit) × ((Int × Unit) × Unit))) : evCode E14 (tab (L14 k)) c14 (bodyOf Try.f14) 0 (finK E14 po14 [.tmp 4]) (startSt pi14 60 d) = f14_m () d := by kernel_rfl
def g14 (d : pi14.den) : Option po14.den := f14_m () d
theorem ok14 : FnOk Try.prog ET0 14 pi14 po14 g14 :=
  fn_of_body (E := E14) (envOk_add (envOk_add (envOk_add e0_ok (typed_ok ok70)) (typed_ok ok71)) (typed_ok ok72)) (fn := Try.f14) Try.func14 (by kernel_rfl) (by kernel_rfl) [.tmp 4] (by kernel_rfl) (by kernel_rfl) (by decide) c14 L14
    (by intro x hx; cases hx) (by intro k x hx; cases hx) (fun d out h => ⟨0, (q14_m 0 d).trans h⟩)
end
end Go.Proofs.Ytecilflgjakhcaa.Ev
