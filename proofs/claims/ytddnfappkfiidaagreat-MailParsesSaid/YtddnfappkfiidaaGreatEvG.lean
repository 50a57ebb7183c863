/- Printed by wip/tools/evgen.py. -/
import Derived.Test.YtddnfappkfiidaaGreatEvGa
import Derived.Test.YtddnfappkfiidaaGreatEvE
import Derived.Test.YtddnfappkfiidaaGreatProg
import Derived.KernelRfl
set_option maxRecDepth 100000
set_option maxHeartbeats 2000000
set_option linter.unusedVariables false
namespace Go.Proofs.YtddnfappkfiidaaGreat.Ev
open Go
noncomputable section

@[reducible] def pi_ref25_Parse : PSh := ⟨[], [.mk false [vS]]⟩
@[reducible] def po_ref25_Parse : PSh := ⟨[], [.mk true [vI, vI, vI, vI, vI, vI, vI, vI], .mk false [vI]]⟩
@[reducible] def TT_ref25_Parse : Type := (((((Int × (Int × (Int × (Int × (Int × (Int × (Int × (Int × Unit)))))))) × ((Int × (Int × (Int × (Int × (Int × (Int × (Int × (Int × Unit)))))))) × Unit)) × (Unit × (Unit × ((Int × Unit) × (((List ByteArray) × Unit) × (((List Bool) × Unit) × ((Int × Unit) × Unit))))))) → Option (Unit × ((Int × (Int × (Int × (Int × (Int × (Int × (Int × (Int × Unit)))))))) × ((Int × Unit) × Unit)))) × (((((Int × (Int × (Int × (Int × (Int × (Int × (Int × (Int × Unit)))))))) × ((Int × (Int × (Int × (Int × (Int × (Int × (Int × (Int × Unit)))))))) × ((Int × (Int × (Int × (Int × (Int × (Int × (Int × (Int × Unit)))))))) × Unit))) × (Unit × (Unit × ((Int × Unit) × (((List ByteArray) × Unit) × (((List Bool) × Unit) × ((Int × Unit) × (Unit × ((Bool × Unit) × Unit))))))))) → Option (Unit × ((Int × (Int × (Int × (Int × (Int × (Int × (Int × (Int × Unit)))))))) × ((Int × Unit) × Unit)))) × (((((Int × (Int × (Int × (Int × (Int × (Int × (Int × (Int × Unit)))))))) × ((Int × (Int × (Int × (Int × (Int × (Int × (Int × (Int × Unit)))))))) × ((Int × (Int × (Int × (Int × (Int × (Int × (Int × (Int × Unit)))))))) × Unit))) × (Unit × (Unit × ((Int × Unit) × (((List ByteArray) × Unit) × (((List Bool) × Unit) × ((Int × Unit) × (Unit × Unit)))))))) → Option (Unit × ((Int × (Int × (Int × (Int × (Int × (Int × (Int × (Int × Unit)))))))) × ((Int × Unit) × Unit)))) × (((((Int × (Int × (Int × (Int × (Int × (Int × (Int × (Int × Unit)))))))) × ((Int × (Int × (Int × (Int × (Int × (Int × (Int × (Int × Unit)))))))) × ((Int × (Int × (Int × (Int × (Int × (Int × (Int × (Int × Unit)))))))) × Unit))) × (Unit × (Unit × ((Int × Unit) × ((Int × Unit) × (Unit × (((List ByteArray) × Unit) × (((List Bool) × Unit) × Unit)))))))) → Option (Unit × ((Int × (Int × (Int × (Int × (Int × (Int × (Int × (Int × Unit)))))))) × ((Int × Unit) × Unit)))) × Unit))))
@[reducible] def sh_ref25_Parse_8 : PSh := ⟨[.var 33 [vI, vI, vI, vI, vI, vI, vI, vI], .var 33 [vI, vI, vI, vI, vI, vI, vI, vI]], [.any, .any, .mk false [.ref 0 0], .any, .mk false [.ref 1 0], .mk false [vI], .mk false [.v (.sl .str)], .mk false [.v (.sl .bool)], .any, .mk false [vI], .any, .any, .any, .any, .any, .any, .any, .any, .any, .any, .any, .any, .any, .any, .any, .any, .any, .any, .any, .any, .any, .any, .any, .any, .any, .any, .any, .any, .any, .any, .any, .any, .any, .any, .any, .any, .any, .any, .any, .any, .any, .any, .any, .any, .any, .any, .any, .any, .any, .any, .any, .any, .any, .any, .any, .any, .any, .any, .any, .any, .any, .any, .any, .any, .any, .any, .any, .any, .any, .any, .any, .any, .any, .any, .any, .any, .any, .any, .any, .any, .any, .any, .any, .any, .any, .any, .any, .any, .any, .any, .any, .any, .any, .any, .any, .any, .any, .any, .any, .any, .any, .any, .any, .any, .any, .any, .any, .any, .any, .any, .any, .any, .any, .any, .any, .any, .any, .any, .any, .any, .any, .any, .any, .any, .any, .any, .any, .any, .any, .any, .any, .any, .any, .any, .any, .any, .any, .any, .any, .any, .any, .any, .any, .any, .any, .any, .any, .any, .any, .any, .any, .any, .any, .any, .any, .any, .any, .any, .any, .any, .any, .any, .any, .any, .any, .any, .any, .any, .any, .any, .any, .any, .any, .any, .any, .any, .any, .any, .any, .any, .any, .any, .any, .any, .any, .any, .any, .any, .any, .any, .any, .any, .any, .any, .any, .any, .any, .any, .any, .any, .any, .any, .any, .any, .any, .any, .any, .any, .any, .any, .any, .any, .any]⟩
@[reducible] def sh_ref25_Parse_20 : PSh := ⟨[.var 33 [vI, vI, vI, vI, vI, vI, vI, vI], .var 33 [vI, vI, vI, vI, vI, vI, vI, vI], .var 33 [vI, vI, vI, vI, vI, vI, vI, vI]], [.any, .any, .mk false [.ref 0 0], .any, .mk false [.ref 1 0], .mk false [vI], .mk false [.v (.sl .str)], .mk false [.v (.sl .bool)], .any, .mk false [vI], .mk false [.ref 2 0], .any, .any, .any, .any, .any, .any, .any, .any, .any, .any, .any, .any, .any, .any, .any, .any, .any, .any, .any, .any, .any, .any, .any, .any, .any, .any, .any, .any, .any, .any, .any, .any, .any, .any, .any, .any, .any, .any, .any, .any, .any, .any, .any, .any, .any, .any, .any, .any, .any, .any, .any, .any, .any, .any, .any, .any, .any, .any, .any, .any, .any, .any, .any, .any, .any, .any, .any, .any, .any, .any, .any, .any, .any, .any, .any, .any, .any, .any, .any, .any, .any, .any, .any, .any, .any, .any, .any, .any, .any, .any, .any, .any, .any, .any, .any, .any, .any, .any, .any, .any, .any, .any, .any, .any, .any, .any, .any, .any, .any, .any, .any, .any, .any, .any, .any, .any, .any, .any, .any, .any, .any, .any, .any, .any, .any, .any, .any, .mk false [vB], .any, .any, .any, .any, .any, .any, .any, .any, .any, .any, .any, .any, .any, .any, .any, .any, .any, .any, .any, .any, .any, .any, .any, .any, .any, .any, .any, .any, .any, .any, .any, .any, .any, .any, .any, .any, .any, .any, .any, .any, .any, .any, .any, .any, .any, .any, .any, .any, .any, .any, .any, .any, .any, .any, .any, .any, .any, .any, .any, .any, .any, .any, .any, .any, .any, .any, .any, .any, .any, .any, .any, .any, .any, .any, .any, .any, .any, .any, .any, .any, .any, .any, .any, .any]⟩
@[reducible] def sh_ref25_Parse_19 : PSh := ⟨[.var 33 [vI, vI, vI, vI, vI, vI, vI, vI], .var 33 [vI, vI, vI, vI, vI, vI, vI, vI], .var 33 [vI, vI, vI, vI, vI, vI, vI, vI]], [.any, .any, .mk false [.ref 0 0], .any, .mk false [.ref 1 0], .mk false [vI], .mk false [.v (.sl .str)], .mk false [.v (.sl .bool)], .any, .mk false [vI], .mk false [.ref 2 0], .any, .any, .any, .any, .any, .any, .any, .any, .any, .any, .any, .any, .any, .any, .any, .any, .any, .any, .any, .any, .any, .any, .any, .any, .any, .any, .any, .any, .any, .any, .any, .any, .any, .any, .any, .any, .any, .any, .any, .any, .any, .any, .any, .any, .any, .any, .any, .any, .any, .any, .any, .any, .any, .any, .any, .any, .any, .any, .any, .any, .any, .any, .any, .any, .any, .any, .any, .any, .any, .any, .any, .any, .any, .any, .any, .any, .any, .any, .any, .any, .any, .any, .any, .any, .any, .any, .any, .any, .any, .any, .any, .any, .any, .any, .any, .any, .any, .any, .any, .any, .any, .any, .any, .any, .any, .any, .any, .any, .any, .any, .any, .any, .any, .any, .any, .any, .any, .any, .any, .any, .any, .any, .any, .any, .any, .any, .any, .any, .any, .any, .any, .any, .any, .any, .any, .any, .any, .any, .any, .any, .any, .any, .any, .any, .any, .any, .any, .any, .any, .any, .any, .any, .any, .any, .any, .any, .any, .any, .any, .any, .any, .any, .any, .any, .any, .any, .any, .any, .any, .any, .any, .any, .any, .any, .any, .any, .any, .any, .any, .any, .any, .any, .any, .any, .any, .any, .any, .any, .any, .any, .any, .any, .any, .any, .any, .any, .any, .any, .any, .any, .any, .any, .any, .any, .any, .any, .any, .any, .any, .any, .any, .any]⟩
@[reducible] def sh_ref25_Parse_23 : PSh := ⟨[.var 33 [vI, vI, vI, vI, vI, vI, vI, vI], .var 33 [vI, vI, vI, vI, vI, vI, vI, vI], .var 33 [vI, vI, vI, vI, vI, vI, vI, vI]], [.any, .any, .mk false [.ref 0 0], .any, .mk false [.ref 1 0], .mk false [vI], .any, .any, .any, .mk false [vI], .mk false [.ref 2 0], .mk false [.v (.sl .str)], .mk false [.v (.sl .bool)], .any, .any, .any, .any, .any, .any, .any, .any, .any, .any, .any, .any, .any, .any, .any, .any, .any, .any, .any, .any, .any, .any, .any, .any, .any, .any, .any, .any, .any, .any, .any, .any, .any, .any, .any, .any, .any, .any, .any, .any, .any, .any, .any, .any, .any, .any, .any, .any, .any, .any, .any, .any, .any, .any, .any, .any, .any, .any, .any, .any, .any, .any, .any, .any, .any, .any, .any, .any, .any, .any, .any, .any, .any, .any, .any, .any, .any, .any, .any, .any, .any, .any, .any, .any, .any, .any, .any, .any, .any, .any, .any, .any, .any, .any, .any, .any, .any, .any, .any, .any, .any, .any, .any, .any, .any, .any, .any, .any, .any, .any, .any, .any, .any, .any, .any, .any, .any, .any, .any, .any, .any, .any, .any, .any, .any, .any, .any, .any, .any, .any, .any, .any, .any, .any, .any, .any, .any, .any, .any, .any, .any, .any, .any, .any, .any, .any, .any, .any, .any, .any, .any, .any, .any, .any, .any, .any, .any, .any, .any, .any, .any, .any, .any, .any, .any, .any, .any, .any, .any, .any, .any, .any, .any, .any, .any, .any, .any, .any, .any, .any, .any, .any, .any, .any, .any, .any, .any, .any, .any, .any, .any, .any, .any, .any, .any, .any, .any, .any, .any, .any, .any, .any, .any, .any, .any, .any, .any, .any, .any, .any]⟩
def f_ref25_Parse_p8 (T : TT_ref25_Parse) (d : ((Int × (Int × (Int × (Int × (Int × (Int × (Int × (Int × Unit)))))))) × ((Int × (Int × (Int × (Int × (Int × (Int × (Int × (Int × Unit)))))))) × Unit)) × (Unit × (Unit × ((Int × Unit) × (((List ByteArray) × Unit) × (((List Bool) × Unit) × ((Int × Unit) × Unit))))))) : Option (Unit × ((Int × (Int × (Int × (Int × (Int × (Int × (Int × (Int × Unit)))))))) × ((Int × Unit) × Unit))) :=
  let x10 : Int := (d.2.2.2.2.1.1.length : Int)
  let x11 : Bool := (decide (x10 < (7 : Int)))
  bif x11 then (
  some ((), (d.1.2.1, (d.2.2.2.1, ()))))
  else (
  bif decide ((0 : Int) ≤ (0 : Int)) && decide ((0 : Int) < (d.2.2.2.2.1.1.length : Int)) then (
  (g_ref25_figures ((), (((gd .str d.2.2.2.2.1.1 (0 : Int)), ()), (((1 : Int), ()), (((2 : Int), ()), ()))))).bind fun x12 =>
  let x13 : Bool := (!x12.2.1.1)
  bif x13 then (
  some ((), (d.1.2.1, (d.2.2.2.1, ()))))
  else (
  bif decide ((0 : Int) ≤ (1 : Int)) && decide ((1 : Int) < (d.2.2.2.2.1.1.length : Int)) then (
  (g_ref25_index ((), (((gd .str d.2.2.2.2.1.1 (1 : Int)), ()), ((true, ()), (((12 : Int), ()), ()))))).bind fun x14 =>
  let x15 : Bool := (x14.2.1.1 == (0 : Int))
  bif x15 then (
  some ((), (d.1.2.1, (d.2.2.2.1, ()))))
  else (
  bif decide ((0 : Int) ≤ (2 : Int)) && decide ((2 : Int) < (d.2.2.2.2.1.1.length : Int)) then (
  (g_ref25_figures ((), (((gd .str d.2.2.2.2.1.1 (2 : Int)), ()), (((2 : Int), ()), (((4 : Int), ()), ()))))).bind fun x16 =>
  let x17 : Bool := (!x16.2.1.1)
  bif x17 then (
  some ((), (d.1.2.1, (d.2.2.2.1, ()))))
  else (
  bif decide ((0 : Int) ≤ (3 : Int)) && decide ((3 : Int) < (d.2.2.2.2.2.1.1.length : Int)) then (
  let x18 : Bool := (!(gd .bool d.2.2.2.2.2.1.1 (3 : Int)))
  bif x18 then (
  some ((), (d.1.2.1, (d.2.2.2.1, ()))))
  else (
  bif decide ((0 : Int) ≤ (3 : Int)) && decide ((3 : Int) < (d.2.2.2.2.1.1.length : Int)) then (
  (g_ref25_figures ((), (((gd .str d.2.2.2.2.1.1 (3 : Int)), ()), (((2 : Int), ()), (((2 : Int), ()), ()))))).bind fun x19 =>
  let x20 : Bool := (!x19.2.1.1)
  bif x20 then (
  some ((), (d.1.2.1, (d.2.2.2.1, ()))))
  else (
  bif decide ((0 : Int) ≤ (4 : Int)) && decide ((4 : Int) < (d.2.2.2.2.1.1.length : Int)) then (
  let x21 : Bool := (!((gd .str d.2.2.2.2.1.1 (4 : Int)).toList == (⟨#[58]⟩ : ByteArray).toList))
  bif x21 then (
  some ((), (d.1.2.1, (d.2.2.2.1, ()))))
  else (
  bif decide ((0 : Int) ≤ (5 : Int)) && decide ((5 : Int) < (d.2.2.2.2.1.1.length : Int)) then (
  (g_ref25_figures ((), (((gd .str d.2.2.2.2.1.1 (5 : Int)), ()), (((2 : Int), ()), (((2 : Int), ()), ()))))).bind fun x22 =>
  let x23 : Bool := (!x22.2.1.1)
  bif x23 then (
  some ((), (d.1.2.1, (d.2.2.2.1, ()))))
  else (
  bif decide ((0 : Int) ≤ (0 : Int)) && decide ((0 : Int) < (d.2.2.2.2.1.1.length : Int)) then (
  (g_ref25_number ((), (((gd .str d.2.2.2.2.1.1 (0 : Int)), ()), ()))).bind fun x24 =>
  bif decide ((0 : Int) ≤ (1 : Int)) && decide ((1 : Int) < (d.2.2.2.2.1.1.length : Int)) then (
  (g_ref25_index ((), (((gd .str d.2.2.2.2.1.1 (1 : Int)), ()), ((true, ()), (((12 : Int), ()), ()))))).bind fun x25 =>
  bif decide ((0 : Int) ≤ (2 : Int)) && decide ((2 : Int) < (d.2.2.2.2.1.1.length : Int)) then (
  (g_ref25_number ((), (((gd .str d.2.2.2.2.1.1 (2 : Int)), ()), ()))).bind fun x26 =>
  bif decide ((0 : Int) ≤ (3 : Int)) && decide ((3 : Int) < (d.2.2.2.2.1.1.length : Int)) then (
  (g_ref25_number ((), (((gd .str d.2.2.2.2.1.1 (3 : Int)), ()), ()))).bind fun x27 =>
  bif decide ((0 : Int) ≤ (5 : Int)) && decide ((5 : Int) < (d.2.2.2.2.1.1.length : Int)) then (
  (g_ref25_number ((), (((gd .str d.2.2.2.2.1.1 (5 : Int)), ()), ()))).bind fun x28 =>
  bif decide ((0 : Int) ≤ (2 : Int)) && decide ((2 : Int) < (d.2.2.2.2.1.1.length : Int)) then (
  let x29 : Int := ((gd .str d.2.2.2.2.1.1 (2 : Int)).size : Int)
  let x30 : Bool := (x29 == (3 : Int))
  bif x30 then (
  (T.2.1 ((d.1.1, (d.1.2.1, ((x26.2.1.1, (x25.2.1.1, (x24.2.1.1, (x27.2.1.1, (x28.2.1.1, ((0 : Int), ((0 : Int), ((0 : Int), ())))))))), ()))), ((), ((), (d.2.2.2.1, (d.2.2.2.2.1, (d.2.2.2.2.2.1, (d.2.2.2.2.2.2.1, ((), ((true, ()), ())))))))))))
  else (
  bif decide ((0 : Int) ≤ (2 : Int)) && decide ((2 : Int) < (d.2.2.2.2.1.1.length : Int)) then (
  let x31 : Int := ((gd .str d.2.2.2.2.1.1 (2 : Int)).size : Int)
  let x32 : Bool := (x31 == (2 : Int))
  bif x32 then (
  let x33 : Bool := (decide (x26.2.1.1 ≥ (50 : Int)))
  (T.2.1 ((d.1.1, (d.1.2.1, ((x26.2.1.1, (x25.2.1.1, (x24.2.1.1, (x27.2.1.1, (x28.2.1.1, ((0 : Int), ((0 : Int), ((0 : Int), ())))))))), ()))), ((), ((), (d.2.2.2.1, (d.2.2.2.2.1, (d.2.2.2.2.2.1, (d.2.2.2.2.2.2.1, ((), ((x33, ()), ())))))))))))
  else (
  (T.2.1 ((d.1.1, (d.1.2.1, ((x26.2.1.1, (x25.2.1.1, (x24.2.1.1, (x27.2.1.1, (x28.2.1.1, ((0 : Int), ((0 : Int), ((0 : Int), ())))))))), ()))), ((), ((), (d.2.2.2.1, (d.2.2.2.2.1, (d.2.2.2.2.2.1, (d.2.2.2.2.2.2.1, ((), ((false, ()), ()))))))))))))
  else none))
  else none)
  else none)
  else none)
  else none)
  else none)
  else none))
  else none))
  else none))
  else none))
  else none))
  else none))
  else none))
  else none)
def f_ref25_Parse_p20 (T : TT_ref25_Parse) (d : ((Int × (Int × (Int × (Int × (Int × (Int × (Int × (Int × Unit)))))))) × ((Int × (Int × (Int × (Int × (Int × (Int × (Int × (Int × Unit)))))))) × ((Int × (Int × (Int × (Int × (Int × (Int × (Int × (Int × Unit)))))))) × Unit))) × (Unit × (Unit × ((Int × Unit) × (((List ByteArray) × Unit) × (((List Bool) × Unit) × ((Int × Unit) × (Unit × ((Bool × Unit) × Unit))))))))) : Option (Unit × ((Int × (Int × (Int × (Int × (Int × (Int × (Int × (Int × Unit)))))))) × ((Int × Unit) × Unit))) :=
  bif d.2.2.2.2.2.2.2.2.1.1 then (
  let x34 : Int := (iadd .i64 d.1.2.2.1.1 (1900 : Int))
  (T.2.2.1 ((d.1.1, (d.1.2.1, ((x34, d.1.2.2.1.2), ()))), ((), ((), (d.2.2.2.1, (d.2.2.2.2.1, (d.2.2.2.2.2.1, (d.2.2.2.2.2.2.1, ((), ()))))))))))
  else (
  bif decide ((0 : Int) ≤ (2 : Int)) && decide ((2 : Int) < (d.2.2.2.2.1.1.length : Int)) then (
  let x35 : Int := ((gd .str d.2.2.2.2.1.1 (2 : Int)).size : Int)
  let x36 : Bool := (x35 == (2 : Int))
  bif x36 then (
  let x37 : Int := (iadd .i64 d.1.2.2.1.1 (2000 : Int))
  (T.2.2.1 ((d.1.1, (d.1.2.1, ((x37, d.1.2.2.1.2), ()))), ((), ((), (d.2.2.2.1, (d.2.2.2.2.1, (d.2.2.2.2.2.1, (d.2.2.2.2.2.2.1, ((), ()))))))))))
  else (
  (T.2.2.1 (d.1, ((), ((), (d.2.2.2.1, (d.2.2.2.2.1, (d.2.2.2.2.2.1, (d.2.2.2.2.2.2.1, ((), ())))))))))))
  else none)
def f_ref25_Parse_p19 (T : TT_ref25_Parse) (d : ((Int × (Int × (Int × (Int × (Int × (Int × (Int × (Int × Unit)))))))) × ((Int × (Int × (Int × (Int × (Int × (Int × (Int × (Int × Unit)))))))) × ((Int × (Int × (Int × (Int × (Int × (Int × (Int × (Int × Unit)))))))) × Unit))) × (Unit × (Unit × ((Int × Unit) × (((List ByteArray) × Unit) × (((List Bool) × Unit) × ((Int × Unit) × (Unit × Unit)))))))) : Option (Unit × ((Int × (Int × (Int × (Int × (Int × (Int × (Int × (Int × Unit)))))))) × ((Int × Unit) × Unit))) :=
  bif decide ((6 : Int) ≤ (d.2.2.2.2.1.1.length : Int)) && decide ((d.2.2.2.2.1.1.length : Int) ≤ (d.2.2.2.2.1.1.length : Int)) then (
  let x38 : (List ByteArray) := (List.drop (Int.toNat (6 : Int)) (List.take (Int.toNat (d.2.2.2.2.1.1.length : Int)) d.2.2.2.2.1.1))
  bif decide ((6 : Int) ≤ (d.2.2.2.2.2.1.1.length : Int)) && decide ((d.2.2.2.2.2.1.1.length : Int) ≤ (d.2.2.2.2.2.1.1.length : Int)) then (
  let x39 : (List Bool) := (List.drop (Int.toNat (6 : Int)) (List.take (Int.toNat (d.2.2.2.2.2.1.1.length : Int)) d.2.2.2.2.2.1.1))
  bif decide ((0 : Int) ≤ (0 : Int)) && decide ((0 : Int) < (x38.length : Int)) then (
  let x40 : Bool := ((gd .str x38 (0 : Int)).toList == (⟨#[58]⟩ : ByteArray).toList)
  bif x40 then (
  let x41 : Int := (x38.length : Int)
  let x42 : Bool := (decide (x41 < (2 : Int)))
  bif x42 then (
  some ((), (d.1.2.1, (d.2.2.2.1, ()))))
  else (
  bif decide ((0 : Int) ≤ (1 : Int)) && decide ((1 : Int) < (x38.length : Int)) then (
  (g_ref25_figures ((), (((gd .str x38 (1 : Int)), ()), (((2 : Int), ()), (((2 : Int), ()), ()))))).bind fun x43 =>
  let x44 : Bool := (!x43.2.1.1)
  bif x44 then (
  some ((), (d.1.2.1, (d.2.2.2.1, ()))))
  else (
  bif decide ((0 : Int) ≤ (1 : Int)) && decide ((1 : Int) < (x38.length : Int)) then (
  (g_ref25_number ((), (((gd .str x38 (1 : Int)), ()), ()))).bind fun x45 =>
  bif decide ((2 : Int) ≤ (x38.length : Int)) && decide ((x38.length : Int) ≤ (x38.length : Int)) then (
  let x46 : (List ByteArray) := (List.drop (Int.toNat (2 : Int)) (List.take (Int.toNat (x38.length : Int)) x38))
  bif decide ((2 : Int) ≤ (x39.length : Int)) && decide ((x39.length : Int) ≤ (x39.length : Int)) then (
  let x47 : (List Bool) := (List.drop (Int.toNat (2 : Int)) (List.take (Int.toNat (x39.length : Int)) x39))
  (T.2.2.2.1 ((d.1.1, (d.1.2.1, ((d.1.2.2.1.1, (d.1.2.2.1.2.1, (d.1.2.2.1.2.2.1, (d.1.2.2.1.2.2.2.1, (d.1.2.2.1.2.2.2.2.1, (x45.2.1.1, d.1.2.2.1.2.2.2.2.2.2)))))), ()))), ((), ((), (d.2.2.2.1, (d.2.2.2.2.2.2.1, ((), ((x46, ()), ((x47, ()), ()))))))))))
  else none)
  else none)
  else none))
  else none))
  else (
  (T.2.2.2.1 (d.1, ((), ((), (d.2.2.2.1, (d.2.2.2.2.2.2.1, ((), ((x38, ()), ((x39, ()), ())))))))))))
  else none)
  else none)
  else none
def f_ref25_Parse_p23 (T : TT_ref25_Parse) (d : ((Int × (Int × (Int × (Int × (Int × (Int × (Int × (Int × Unit)))))))) × ((Int × (Int × (Int × (Int × (Int × (Int × (Int × (Int × Unit)))))))) × ((Int × (Int × (Int × (Int × (Int × (Int × (Int × (Int × Unit)))))))) × Unit))) × (Unit × (Unit × ((Int × Unit) × ((Int × Unit) × (Unit × (((List ByteArray) × Unit) × (((List Bool) × Unit) × Unit)))))))) : Option (Unit × ((Int × (Int × (Int × (Int × (Int × (Int × (Int × (Int × Unit)))))))) × ((Int × Unit) × Unit))) :=
  (g_ref25_zone ((), d.2.2.2.2.2.2)).bind fun x48 =>
  let x49 : Bool := (!x48.2.2.2.1.1)
  bif x49 then (
  some ((), (d.1.2.1, (d.2.2.2.1, ()))))
  else (
  let x50 : Bool := (!x48.2.2.1.1)
  bif x50 then (
  some ((), (d.1.2.1, (((1 : Int), ()), ()))))
  else (
  let x51 : Bool := (decide (d.1.2.2.1.1 < (1900 : Int)))
  bif x51 then (
  some ((), (d.1.2.1, (((13 : Int), ()), ()))))
  else (
  (g_ref08_Check ((), ((d.1.2.2.1.1, (d.1.2.2.1.2.1, (d.1.2.2.1.2.2.1, (d.1.2.2.1.2.2.2.1, (d.1.2.2.1.2.2.2.2.1, (d.1.2.2.1.2.2.2.2.2.1, (d.1.2.2.1.2.2.2.2.2.2.1, x48.2.1))))))), ()))).bind fun x52 =>
  let x53 : Bool := (x52.2.1.1 != (0 : Int))
  bif x53 then (
  some ((), (d.1.2.1, x52.2)))
  else (
  let x54 : Bool := (d.2.2.2.2.1.1 != (0 : Int))
  bif x54 then (
  (g_ref05_Of ((), ((d.1.2.2.1.1, ()), ((d.1.2.2.1.2.1, ()), ((d.1.2.2.1.2.2.1, ()), ()))))).bind fun x55 =>
  (g_ref05_Weekday ((), x55.2)).bind fun x56 =>
  let x57 : Bool := (d.2.2.2.2.1.1 != x56.2.1.1)
  bif x57 then (
  some ((), (d.1.2.1, (((1 : Int), ()), ()))))
  else (
  some ((), ((d.1.2.2.1.1, (d.1.2.2.1.2.1, (d.1.2.2.1.2.2.1, (d.1.2.2.1.2.2.2.1, (d.1.2.2.1.2.2.2.2.1, (d.1.2.2.1.2.2.2.2.2.1, (d.1.2.2.1.2.2.2.2.2.2.1, x48.2.1))))))), (((0 : Int), ()), ())))))
  else (
  some ((), ((d.1.2.2.1.1, (d.1.2.2.1.2.1, (d.1.2.2.1.2.2.1, (d.1.2.2.1.2.2.2.1, (d.1.2.2.1.2.2.2.2.1, (d.1.2.2.1.2.2.2.2.2.1, (d.1.2.2.1.2.2.2.2.2.2.1, x48.2.1))))))), (((0 : Int), ()), ()))))))))
def f_ref25_Parse_t : Nat → TT_ref25_Parse
  | 0 => (fun _ => none, (fun _ => none, (fun _ => none, (fun _ => none, ()))))
  | k + 1 => (f_ref25_Parse_p8 (f_ref25_Parse_t k), (f_ref25_Parse_p20 (f_ref25_Parse_t k), (f_ref25_Parse_p19 (f_ref25_Parse_t k), (f_ref25_Parse_p23 (f_ref25_Parse_t k), ()))))
theorem t_ref25_Parse (k : Nat) : f_ref25_Parse_t (k + 1) = (f_ref25_Parse_p8 (f_ref25_Parse_t k), (f_ref25_Parse_p20 (f_ref25_Parse_t k), (f_ref25_Parse_p19 (f_ref25_Parse_t k), (f_ref25_Parse_p23 (f_ref25_Parse_t k), ())))) := rfl
def f_ref25_Parse_m (T : TT_ref25_Parse) (d : Unit × ((ByteArray × Unit) × Unit)) : Option (Unit × ((Int × (Int × (Int × (Int × (Int × (Int × (Int × (Int × Unit)))))))) × ((Int × Unit) × Unit))) :=
  (g_ref25_parts ((), d.2)).bind fun x1 =>
  let x2 : Bool := (!x1.2.2.2.1.1)
  bif x2 then (
  some ((), (((0 : Int), ((0 : Int), ((0 : Int), ((0 : Int), ((0 : Int), ((0 : Int), ((0 : Int), ((0 : Int), ())))))))), (((2 : Int), ()), ()))))
  else (
  let x3 : Int := (x1.1.1.length : Int)
  let x4 : Bool := (decide (x3 > (1 : Int)))
  bif x4 then (
  bif decide ((0 : Int) ≤ (1 : Int)) && decide ((1 : Int) < (x1.1.1.length : Int)) then (
  let x5 : Bool := ((gd .str x1.1.1 (1 : Int)).toList == (⟨#[44]⟩ : ByteArray).toList)
  bif x5 then (
  bif decide ((0 : Int) ≤ (0 : Int)) && decide ((0 : Int) < (x1.1.1.length : Int)) then (
  (g_ref25_index ((), (((gd .str x1.1.1 (0 : Int)), ()), ((false, ()), (((7 : Int), ()), ()))))).bind fun x6 =>
  let x7 : Bool := (x6.2.1.1 == (0 : Int))
  bif x7 then (
  some ((), (((0 : Int), ((0 : Int), ((0 : Int), ((0 : Int), ((0 : Int), ((0 : Int), ((0 : Int), ((0 : Int), ())))))))), (((2 : Int), ()), ()))))
  else (
  bif decide ((2 : Int) ≤ (x1.1.1.length : Int)) && decide ((x1.1.1.length : Int) ≤ (x1.1.1.length : Int)) then (
  let x8 : (List ByteArray) := (List.drop (Int.toNat (2 : Int)) (List.take (Int.toNat (x1.1.1.length : Int)) x1.1.1))
  bif decide ((2 : Int) ≤ (x1.1.2.1.length : Int)) && decide ((x1.1.2.1.length : Int) ≤ (x1.1.2.1.length : Int)) then (
  let x9 : (List Bool) := (List.drop (Int.toNat (2 : Int)) (List.take (Int.toNat (x1.1.2.1.length : Int)) x1.1.2.1))
  (T.1 ((((0 : Int), ((0 : Int), ((0 : Int), ((0 : Int), ((0 : Int), ((0 : Int), ((0 : Int), ((0 : Int), ())))))))), (((0 : Int), ((0 : Int), ((0 : Int), ((0 : Int), ((0 : Int), ((0 : Int), ((0 : Int), ((0 : Int), ())))))))), ())), ((), ((), (((2 : Int), ()), ((x8, ()), ((x9, ()), x6.2))))))))
  else none)
  else none))
  else none)
  else (
  (T.1 ((((0 : Int), ((0 : Int), ((0 : Int), ((0 : Int), ((0 : Int), ((0 : Int), ((0 : Int), ((0 : Int), ())))))))), (((0 : Int), ((0 : Int), ((0 : Int), ((0 : Int), ((0 : Int), ((0 : Int), ((0 : Int), ((0 : Int), ())))))))), ())), ((), ((), (((2 : Int), ()), ((x1.1.1, ()), (x1.1.2, (((0 : Int), ()), ()))))))))))
  else none)
  else (
  (T.1 ((((0 : Int), ((0 : Int), ((0 : Int), ((0 : Int), ((0 : Int), ((0 : Int), ((0 : Int), ((0 : Int), ())))))))), (((0 : Int), ((0 : Int), ((0 : Int), ((0 : Int), ((0 : Int), ((0 : Int), ((0 : Int), ((0 : Int), ())))))))), ())), ((), ((), (((2 : Int), ()), ((x1.1.1, ()), (x1.1.2, (((0 : Int), ()), ()))))))))))
def c_ref25_Parse : List Nat := [8, 19, 20, 23]
def L_ref25_Parse (k : Nat) : Pts po_ref25_Parse.den := [(8, ⟨sh_ref25_Parse_8, (f_ref25_Parse_t k).1⟩), (20, ⟨sh_ref25_Parse_20, (f_ref25_Parse_t k).2.1⟩), (19, ⟨sh_ref25_Parse_19, (f_ref25_Parse_t k).2.2.1⟩), (23, ⟨sh_ref25_Parse_23, (f_ref25_Parse_t k).2.2.2.1⟩)]
def R_ref25_Parse (_ : Nat) : PtsR po_ref25_Parse.den := []
def E_ref25_Parse : Env := (((((((((E0.add 53 (typedSem pi_ref25_parts po_ref25_parts g_ref25_parts)).add 54 (typedSem pi_ref25_index po_ref25_index g_ref25_index)).add 55 (typedSem pi_ref25_figures po_ref25_figures g_ref25_figures)).add 56 (typedSem pi_ref25_number po_ref25_number g_ref25_number)).add 57 (typedSem pi_ref25_zone po_ref25_zone g_ref25_zone)).add 58 (typedSem pi_ref08_Check po_ref08_Check g_ref08_Check)).add 59 (typedSem pi_ref05_Weekday po_ref05_Weekday g_ref05_Weekday)).add 60 (typedSem pi_ref05_Of po_ref05_Of g_ref05_Of)).fr [(46, [45]), (48, [47]), (1000020, [1000006, 1000021, 1000028, 1000032, 1000049, 1000053, 1000060, 1000067, 1000080, 1000087, 1000093, 1000101, 1000105, 1000109, 1000113, 1000117, 1000122, 1000007, 1000022, 1000074])])
theorem q_ref25_Parse_8 (k : Nat) (d : sh_ref25_Parse_8.den) : evAt E_ref25_Parse (tb (L_ref25_Parse k) (R_ref25_Parse k)) c_ref25_Parse 8 (bodyOf Tryz.f9) 0 (finK E_ref25_Parse po_ref25_Parse [.cell 2 33, .tmp 3]) (ptSt sh_ref25_Parse_8 d) = f_ref25_Parse_p8 (f_ref25_Parse_t k) d := by kernel_rfl
theorem q_ref25_Parse_20 (k : Nat) (d : sh_ref25_Parse_20.den) : evAt E_ref25_Parse (tb (L_ref25_Parse k) (R_ref25_Parse k)) c_ref25_Parse 20 (bodyOf Tryz.f9) 0 (finK E_ref25_Parse po_ref25_Parse [.cell 2 33, .tmp 3]) (ptSt sh_ref25_Parse_20 d) = f_ref25_Parse_p20 (f_ref25_Parse_t k) d := by kernel_rfl
theorem q_ref25_Parse_19 (k : Nat) (d : sh_ref25_Parse_19.den) : evAt E_ref25_Parse (tb (L_ref25_Parse k) (R_ref25_Parse k)) c_ref25_Parse 19 (bodyOf Tryz.f9) 0 (finK E_ref25_Parse po_ref25_Parse [.cell 2 33, .tmp 3]) (ptSt sh_ref25_Parse_19 d) = f_ref25_Parse_p19 (f_ref25_Parse_t k) d := by kernel_rfl
theorem q_ref25_Parse_23 (k : Nat) (d : sh_ref25_Parse_23.den) : evAt E_ref25_Parse (tb (L_ref25_Parse k) (R_ref25_Parse k)) c_ref25_Parse 23 (bodyOf Tryz.f9) 0 (finK E_ref25_Parse po_ref25_Parse [.cell 2 33, .tmp 3]) (ptSt sh_ref25_Parse_23 d) = f_ref25_Parse_p23 (f_ref25_Parse_t k) d := by kernel_rfl
theorem q_ref25_Parse_m (k : Nat) (d : pi_ref25_Parse.den) : evCode E_ref25_Parse (tb (L_ref25_Parse k) (R_ref25_Parse k)) c_ref25_Parse (bodyOf Tryz.f9) 0 (finK E_ref25_Parse po_ref25_Parse [.cell 2 33, .tmp 3]) (startSt pi_ref25_Parse 223 d) = f_ref25_Parse_m (f_ref25_Parse_t k) d := by kernel_rfl
def g_ref25_Parse (d : Unit × ((ByteArray × Unit) × Unit)) : Option (Unit × ((Int × (Int × (Int × (Int × (Int × (Int × (Int × (Int × Unit)))))))) × ((Int × Unit) × Unit))) := lim fun k => f_ref25_Parse_m (f_ref25_Parse_t k) d
theorem ok_ref25_Parse : FnOk Tryz.prog ET0 9 pi_ref25_Parse po_ref25_Parse g_ref25_Parse :=
  fn_of_body (E := E_ref25_Parse) (envOk_fr (envOk_add (envOk_add (envOk_add (envOk_add (envOk_add (envOk_add (envOk_add (envOk_add e0_ok (typed_ok ok_ref25_parts)) (typed_ok ok_ref25_index)) (typed_ok ok_ref25_figures)) (typed_ok ok_ref25_number)) (typed_ok ok_ref25_zone)) (typed_ok ok_ref08_Check)) (typed_ok ok_ref05_Weekday)) (typed_ok ok_ref05_Of))) (fn := Tryz.f9) Tryz.func9 (by kernel_rfl) (by kernel_rfl) [.cell 2 33, .tmp 3] (by kernel_rfl) (by kernel_rfl) (by decide) rfl c_ref25_Parse L_ref25_Parse R_ref25_Parse
    (by intro x hx d; simp only [L_ref25_Parse, List.mem_cons, List.not_mem_nil, or_false] at hx; rcases hx with rfl | rfl | rfl | rfl; rfl; rfl; rfl; rfl)
    (by intro k x hx d out h; simp only [L_ref25_Parse, List.mem_cons, List.not_mem_nil, or_false] at hx; rcases hx with rfl | rfl | rfl | rfl; exact (q_ref25_Parse_8 k d).trans h; exact (q_ref25_Parse_20 k d).trans h; exact (q_ref25_Parse_19 k d).trans h; exact (q_ref25_Parse_23 k d).trans h)
    (by intro x hx; cases hx)
    (by intro k x hx; cases hx)
    (by intro d out h; obtain ⟨k, hk⟩ := lim_some h; exact ⟨k, (q_ref25_Parse_m k d).trans hk⟩)

@[reducible] def pi_law08_Document : PSh := ⟨[], [.mk true [vI, vI, vI, vI, vI, vI, vI, vI]]⟩
@[reducible] def po_law08_Document : PSh := ⟨[], [.mk true [vI, vI, vI, vI, vI, vI, vI, vI]]⟩
def f_law08_Document_m (T : Unit) (d : Unit × ((Int × (Int × (Int × (Int × (Int × (Int × (Int × (Int × Unit)))))))) × Unit)) : Option (Unit × ((Int × (Int × (Int × (Int × (Int × (Int × (Int × (Int × Unit)))))))) × Unit)) :=
  some ((), d.2)
def g_law08_Document (d : Unit × ((Int × (Int × (Int × (Int × (Int × (Int × (Int × (Int × Unit)))))))) × Unit)) : Option (Unit × ((Int × (Int × (Int × (Int × (Int × (Int × (Int × (Int × Unit)))))))) × Unit)) := f_law08_Document_m () d
theorem ok_law08_Document : FnOk Tryz.prog ET0 10 pi_law08_Document po_law08_Document g_law08_Document :=
  fn0 (E := E0) e0_ok (fn := Tryz.f10) Tryz.func10 (by kernel_rfl) (by kernel_rfl) [.cell 2 33] (by kernel_rfl) rfl rfl rfl [] fun d => by kernel_rfl

@[reducible] def pi_hnum_Num : PSh := ⟨[], [.mk false [vE]]⟩
@[reducible] def po_hnum_Num : PSh := ⟨[], [.mk false [vI]]⟩
def f_hnum_Num_m (T : Unit) (d : Unit × (((Option Int) × Unit) × Unit)) : Option (Unit × ((Int × Unit) × Unit)) :=
  bif d.2.1.1.isNone then (
  some ((), (((0 : Int), ()), ())))
  else (
  bif d.2.1.1.isSome then (
  let x1 : Bool := ((d.2.1.1.getD 0) != (0 : Int))
  bif x1 then (
  some ((), (((d.2.1.1.getD 0), ()), ())))
  else (
  some ((), (((-1 : Int), ()), ()))))
  else (
  some ((), (((-1 : Int), ()), ()))))
def g_hnum_Num (d : Unit × (((Option Int) × Unit) × Unit)) : Option (Unit × ((Int × Unit) × Unit)) := f_hnum_Num_m () d
theorem ok_hnum_Num : FnOk Tryz.prog ET0 11 pi_hnum_Num po_hnum_Num g_hnum_Num :=
  fn0 (E := E0) e0_ok (fn := Tryz.f11) Tryz.func11 (by kernel_rfl) (by kernel_rfl) [.tmp 2] (by kernel_rfl) rfl rfl rfl [] fun d => by kernel_rfl

@[reducible] def pi_ref05_Date : PSh := ⟨[], [.mk false [vI]]⟩
@[reducible] def po_ref05_Date : PSh := ⟨[], [.mk false [vI], .mk false [vI], .mk false [vI]]⟩
@[reducible] def TT_ref05_Date : Type := (((Unit × ((Int × Unit) × ((Int × Unit) × Unit))) → Option (Unit × ((Int × Unit) × ((Int × Unit) × ((Int × Unit) × Unit))))) × (((Unit × ((Int × Unit) × ((Int × Unit) × Unit))) → Option (Unit × ((Int × Unit) × ((Int × Unit) × ((Int × Unit) × Unit))))) × (((Unit × ((Int × Unit) × ((Int × Unit) × Unit))) → Option (Unit × ((Int × Unit) × ((Int × Unit) × ((Int × Unit) × Unit))))) × (((Unit × ((Int × Unit) × ((Int × Unit) × ((Int × Unit) × Unit)))) → Option (Unit × ((Int × Unit) × ((Int × Unit) × ((Int × Unit) × Unit))))) × Unit))))
@[reducible] def sh_ref05_Date_3 : PSh := ⟨[], [.mk false [vI], .any, .any, .any, .any, .mk false [vI], .any, .any, .any, .any, .any, .any, .any, .any, .any, .any, .any, .any, .any, .any, .any, .any, .any, .any, .any, .any, .any, .any, .any, .any, .any, .any, .any, .any, .any, .any, .any, .any, .any, .any, .any, .any, .any, .any, .any]⟩
@[reducible] def sh_ref05_Date_8 : PSh := ⟨[], [.mk false [vI], .any, .any, .any, .any, .mk false [vI], .any, .any, .any, .any, .any, .any, .any, .any, .any, .any, .any, .any, .any, .any, .any, .any, .any, .any, .any, .any, .any, .any, .any, .any, .any, .any, .any, .any, .any, .any, .any, .any, .any, .any, .any, .any, .any, .any, .any]⟩
@[reducible] def sh_ref05_Date_13 : PSh := ⟨[], [.mk false [vI], .any, .any, .any, .any, .mk false [vI], .any, .any, .any, .any, .any, .any, .any, .any, .any, .any, .any, .any, .any, .any, .any, .any, .any, .any, .any, .any, .any, .any, .any, .any, .any, .any, .any, .any, .any, .any, .any, .any, .any, .any, .any, .any, .any, .any, .any]⟩
@[reducible] def sh_ref05_Date_19 : PSh := ⟨[], [.mk false [vI], .any, .any, .any, .any, .mk false [vI], .mk false [vI], .any, .any, .any, .any, .any, .any, .any, .any, .any, .any, .any, .any, .any, .any, .any, .any, .any, .any, .any, .any, .any, .any, .any, .any, .any, .any, .any, .any, .any, .any, .any, .any, .any, .any, .any, .any, .any, .any]⟩
def f_ref05_Date_p3 (T : TT_ref05_Date) (d : Unit × ((Int × Unit) × ((Int × Unit) × Unit))) : Option (Unit × ((Int × Unit) × ((Int × Unit) × ((Int × Unit) × Unit)))) :=
  let x1 : Bool := (decide (d.2.1.1 < (0 : Int)))
  bif x1 then (
  let x2 : Int := (iadd .i64 d.2.1.1 (146097 : Int))
  let x3 : Int := (isub .i64 d.2.2.1.1 (400 : Int))
  (T.1 ((), ((x2, ()), ((x3, ()), ())))))
  else (
  (T.2.1 ((), d.2)))
def f_ref05_Date_p8 (T : TT_ref05_Date) (d : Unit × ((Int × Unit) × ((Int × Unit) × Unit))) : Option (Unit × ((Int × Unit) × ((Int × Unit) × ((Int × Unit) × Unit)))) :=
  let x4 : Bool := (decide (d.2.1.1 ≥ (146097 : Int)))
  bif x4 then (
  let x5 : Int := (isub .i64 d.2.1.1 (146097 : Int))
  let x6 : Int := (iadd .i64 d.2.2.1.1 (400 : Int))
  (T.2.1 ((), ((x5, ()), ((x6, ()), ())))))
  else (
  (T.2.2.1 ((), d.2)))
def f_ref05_Date_p13 (T : TT_ref05_Date) (d : Unit × ((Int × Unit) × ((Int × Unit) × Unit))) : Option (Unit × ((Int × Unit) × ((Int × Unit) × ((Int × Unit) × Unit)))) :=
  (g_ref05_Days ((), d.2.2)).bind fun x7 =>
  let x8 : Bool := (decide (d.2.1.1 ≥ x7.2.1.1))
  bif x8 then (
  (g_ref05_Days ((), d.2.2)).bind fun x9 =>
  let x10 : Int := (isub .i64 d.2.1.1 x9.2.1.1)
  let x11 : Int := (iadd .i64 d.2.2.1.1 (1 : Int))
  (T.2.2.1 ((), ((x10, ()), ((x11, ()), ())))))
  else (
  (T.2.2.2.1 ((), (d.2.1, (d.2.2.1, (((1 : Int), ()), ()))))))
def f_ref05_Date_p19 (T : TT_ref05_Date) (d : Unit × ((Int × Unit) × ((Int × Unit) × ((Int × Unit) × Unit)))) : Option (Unit × ((Int × Unit) × ((Int × Unit) × ((Int × Unit) × Unit)))) :=
  (g_ref05_Month ((), d.2.2)).bind fun x12 =>
  let x13 : Bool := (decide (d.2.1.1 ≥ x12.2.1.1))
  bif x13 then (
  (g_ref05_Month ((), d.2.2)).bind fun x14 =>
  let x15 : Int := (isub .i64 d.2.1.1 x14.2.1.1)
  let x16 : Int := (iadd .i64 d.2.2.2.1.1 (1 : Int))
  (T.2.2.2.1 ((), ((x15, ()), (d.2.2.1, ((x16, ()), ()))))))
  else (
  let x17 : Int := (iadd .i64 d.2.1.1 (1 : Int))
  some ((), (d.2.2.1, (d.2.2.2.1, ((x17, ()), ())))))
def f_ref05_Date_t : Nat → TT_ref05_Date
  | 0 => (fun _ => none, (fun _ => none, (fun _ => none, (fun _ => none, ()))))
  | k + 1 => (f_ref05_Date_p3 (f_ref05_Date_t k), (f_ref05_Date_p8 (f_ref05_Date_t k), (f_ref05_Date_p13 (f_ref05_Date_t k), (f_ref05_Date_p19 (f_ref05_Date_t k), ()))))
theorem t_ref05_Date (k : Nat) : f_ref05_Date_t (k + 1) = (f_ref05_Date_p3 (f_ref05_Date_t k), (f_ref05_Date_p8 (f_ref05_Date_t k), (f_ref05_Date_p13 (f_ref05_Date_t k), (f_ref05_Date_p19 (f_ref05_Date_t k), ())))) := rfl
def f_ref05_Date_m (T : TT_ref05_Date) (d : Unit × ((Int × Unit) × Unit)) : Option (Unit × ((Int × Unit) × ((Int × Unit) × ((Int × Unit) × Unit)))) :=
  (T.1 ((), (d.2.1, (((1970 : Int), ()), ()))))
def c_ref05_Date : List Nat := []
def L_ref05_Date (k : Nat) : Pts po_ref05_Date.den := [(3, ⟨sh_ref05_Date_3, (f_ref05_Date_t k).1⟩), (8, ⟨sh_ref05_Date_8, (f_ref05_Date_t k).2.1⟩), (13, ⟨sh_ref05_Date_13, (f_ref05_Date_t k).2.2.1⟩), (19, ⟨sh_ref05_Date_19, (f_ref05_Date_t k).2.2.2.1⟩)]
def R_ref05_Date (_ : Nat) : PtsR po_ref05_Date.den := []
def E_ref05_Date : Env := ((E0.add 139 (typedSem pi_ref05_Month po_ref05_Month g_ref05_Month)).add 140 (typedSem pi_ref05_Days po_ref05_Days g_ref05_Days))
theorem q_ref05_Date_3 (k : Nat) (d : sh_ref05_Date_3.den) : evAt E_ref05_Date (tb (L_ref05_Date k) (R_ref05_Date k)) c_ref05_Date 3 (bodyOf Tryz.f64) 0 (finK E_ref05_Date po_ref05_Date [.tmp 2, .tmp 3, .tmp 4]) (ptSt sh_ref05_Date_3 d) = f_ref05_Date_p3 (f_ref05_Date_t k) d := by kernel_rfl
theorem q_ref05_Date_8 (k : Nat) (d : sh_ref05_Date_8.den) : evAt E_ref05_Date (tb (L_ref05_Date k) (R_ref05_Date k)) c_ref05_Date 8 (bodyOf Tryz.f64) 0 (finK E_ref05_Date po_ref05_Date [.tmp 2, .tmp 3, .tmp 4]) (ptSt sh_ref05_Date_8 d) = f_ref05_Date_p8 (f_ref05_Date_t k) d := by kernel_rfl
theorem q_ref05_Date_13 (k : Nat) (d : sh_ref05_Date_13.den) : evAt E_ref05_Date (tb (L_ref05_Date k) (R_ref05_Date k)) c_ref05_Date 13 (bodyOf Tryz.f64) 0 (finK E_ref05_Date po_ref05_Date [.tmp 2, .tmp 3, .tmp 4]) (ptSt sh_ref05_Date_13 d) = f_ref05_Date_p13 (f_ref05_Date_t k) d := by kernel_rfl
theorem q_ref05_Date_19 (k : Nat) (d : sh_ref05_Date_19.den) : evAt E_ref05_Date (tb (L_ref05_Date k) (R_ref05_Date k)) c_ref05_Date 19 (bodyOf Tryz.f64) 0 (finK E_ref05_Date po_ref05_Date [.tmp 2, .tmp 3, .tmp 4]) (ptSt sh_ref05_Date_19 d) = f_ref05_Date_p19 (f_ref05_Date_t k) d := by kernel_rfl
theorem q_ref05_Date_m (k : Nat) (d : pi_ref05_Date.den) : evCode E_ref05_Date (tb (L_ref05_Date k) (R_ref05_Date k)) c_ref05_Date (bodyOf Tryz.f64) 0 (finK E_ref05_Date po_ref05_Date [.tmp 2, .tmp 3, .tmp 4]) (startSt pi_ref05_Date 45 d) = f_ref05_Date_m (f_ref05_Date_t k) d := by kernel_rfl
def g_ref05_Date (d : Unit × ((Int × Unit) × Unit)) : Option (Unit × ((Int × Unit) × ((Int × Unit) × ((Int × Unit) × Unit)))) := lim fun k => f_ref05_Date_m (f_ref05_Date_t k) d
theorem ok_ref05_Date : FnOk Tryz.prog ET0 64 pi_ref05_Date po_ref05_Date g_ref05_Date :=
  fn_of_body (E := E_ref05_Date) (envOk_add (envOk_add e0_ok (typed_ok ok_ref05_Month)) (typed_ok ok_ref05_Days)) (fn := Tryz.f64) Tryz.func64 (by kernel_rfl) (by kernel_rfl) [.tmp 2, .tmp 3, .tmp 4] (by kernel_rfl) (by kernel_rfl) (by decide) rfl c_ref05_Date L_ref05_Date R_ref05_Date
    (by intro x hx d; simp only [L_ref05_Date, List.mem_cons, List.not_mem_nil, or_false] at hx; rcases hx with rfl | rfl | rfl | rfl; rfl; rfl; rfl; rfl)
    (by intro k x hx d out h; simp only [L_ref05_Date, List.mem_cons, List.not_mem_nil, or_false] at hx; rcases hx with rfl | rfl | rfl | rfl; exact (q_ref05_Date_3 k d).trans h; exact (q_ref05_Date_8 k d).trans h; exact (q_ref05_Date_13 k d).trans h; exact (q_ref05_Date_19 k d).trans h)
    (by intro x hx; cases hx)
    (by intro k x hx; cases hx)
    (by intro d out h; obtain ⟨k, hk⟩ := lim_some h; exact ⟨k, (q_ref05_Date_m k d).trans hk⟩)

@[reducible] def pi_ref10_Check : PSh := ⟨[], [.mk true [.v (.sl (.pair (.int .i64) (.int .i64))), vI, vI]]⟩
@[reducible] def po_ref10_Check : PSh := ⟨[], [.mk false [vI]]⟩
@[reducible] def TT_ref10_Check : Type := ((((((List (Int × Int)) × (Int × (Int × Unit))) × Unit) × (Unit × ((Int × Unit) × Unit))) → Option (Unit × ((Int × Unit) × Unit))) × ((((((List (Int × Int)) × (Int × (Int × Unit))) × Unit) × (Unit × ((Int × Unit) × Unit))) → Option (Unit × ((Int × Unit) × Unit))) × ((((((List (Int × Int)) × (Int × (Int × Unit))) × Unit) × (Unit × ((Int × Unit) × Unit))) → Option (Unit × ((Int × Unit) × Unit))) × Unit)))
@[reducible] def sh_ref10_Check_9 : PSh := ⟨[.var 41 [.v (.sl (.pair (.int .i64) (.int .i64))), vI, vI]], [.any, .mk false [.ref 0 0], .any, .mk false [vI], .any, .any, .any, .any, .any, .any, .any, .any, .any, .any, .any, .any, .any, .any, .any, .any, .any, .any, .any, .any, .any, .any, .any, .any, .any, .any, .any, .any, .any, .any, .any, .any, .any, .any, .any, .any, .any, .any, .any, .any, .any, .any, .any, .any, .any, .any, .any, .any, .any, .any, .any, .any, .any, .any, .any, .any, .any, .any, .any, .any, .any, .any, .any, .any, .any, .any, .any, .any, .any, .any, .any, .any, .any, .any, .any, .any, .any, .any, .any, .any, .any, .any, .any, .any, .any, .any, .any, .any, .any, .any, .any, .any, .any, .any, .any, .any, .any, .any, .any, .any, .any, .any, .any, .any, .any, .any, .any, .any, .any, .any, .any, .any, .any, .any, .any, .any, .any, .any, .any, .any, .any, .any, .any, .any, .any, .any, .any, .any, .any, .any, .any, .any]⟩
@[reducible] def sh_ref10_Check_21 : PSh := ⟨[.var 41 [.v (.sl (.pair (.int .i64) (.int .i64))), vI, vI]], [.any, .mk false [.ref 0 0], .any, .any, .any, .mk false [vI], .any, .any, .any, .any, .any, .any, .any, .any, .any, .any, .any, .any, .any, .any, .any, .any, .any, .any, .any, .any, .any, .any, .any, .any, .any, .any, .any, .any, .any, .any, .any, .any, .any, .any, .any, .any, .any, .any, .any, .any, .any, .any, .any, .any, .any, .any, .any, .any, .any, .any, .any, .any, .any, .any, .any, .any, .any, .any, .any, .any, .any, .any, .any, .any, .any, .any, .any, .any, .any, .any, .any, .any, .any, .any, .any, .any, .any, .any, .any, .any, .any, .any, .any, .any, .any, .any, .any, .any, .any, .any, .any, .any, .any, .any, .any, .any, .any, .any, .any, .any, .any, .any, .any, .any, .any, .any, .any, .any, .any, .any, .any, .any, .any, .any, .any, .any, .any, .any, .any, .any, .any, .any, .any, .any, .any, .any, .any, .any, .any, .any]⟩
@[reducible] def sh_ref10_Check_30 : PSh := ⟨[.var 41 [.v (.sl (.pair (.int .i64) (.int .i64))), vI, vI]], [.any, .mk false [.ref 0 0], .any, .any, .any, .any, .any, .any, .any, .mk false [vI], .any, .any, .any, .any, .any, .any, .any, .any, .any, .any, .any, .any, .any, .any, .any, .any, .any, .any, .any, .any, .any, .any, .any, .any, .any, .any, .any, .any, .any, .any, .any, .any, .any, .any, .any, .any, .any, .any, .any, .any, .any, .any, .any, .any, .any, .any, .any, .any, .any, .any, .any, .any, .any, .any, .any, .any, .any, .any, .any, .any, .any, .any, .any, .any, .any, .any, .any, .any, .any, .any, .any, .any, .any, .any, .any, .any, .any, .any, .any, .any, .any, .any, .any, .any, .any, .any, .any, .any, .any, .any, .any, .any, .any, .any, .any, .any, .any, .any, .any, .any, .any, .any, .any, .any, .any, .any, .any, .any, .any, .any, .any, .any, .any, .any, .any, .any, .any, .any, .any, .any, .any, .any, .any, .any, .any, .any]⟩
def f_ref10_Check_p9 (T : TT_ref10_Check) (d : (((List (Int × Int)) × (Int × (Int × Unit))) × Unit) × (Unit × ((Int × Unit) × Unit))) : Option (Unit × ((Int × Unit) × Unit)) :=
  let x5 : Int := (d.1.1.1.length : Int)
  let x6 : Bool := (decide (d.2.2.1.1 < x5))
  bif x6 then (
  bif decide ((0 : Int) ≤ d.2.2.1.1) && decide (d.2.2.1.1 < (d.1.1.1.length : Int)) then (
  (g_ref05_Start ((), (((1900 : Int), ()), ()))).bind fun x7 =>
  let x8 : Bool := (decide ((gd_i64_i64 d.1.1.1 d.2.2.1.1).1 < x7.2.1.1))
  bif x8 then (
  some ((), (((13 : Int), ()), ())))
  else (
  (g_ref05_Last ((), ())).bind fun x9 =>
  let x10 : Bool := (decide ((gd_i64_i64 d.1.1.1 d.2.2.1.1).1 > x9.2.1.1))
  bif x10 then (
  some ((), (((13 : Int), ()), ())))
  else (
  let x11 : Int := (iadd .i64 d.2.2.1.1 (1 : Int))
  (T.1 (d.1, ((), ((x11, ()), ())))))))
  else none)
  else (
  let x12 : Bool := (decide (d.1.1.2.1 < (0 : Int)))
  bif x12 then (
  some ((), (((1 : Int), ()), ())))
  else (
  let x13 : Bool := (decide (d.1.1.2.1 > (1099511627776 : Int)))
  bif x13 then (
  some ((), (((1 : Int), ()), ())))
  else (
  let x14 : Bool := (decide (d.1.1.2.2.1 < (0 : Int)))
  bif x14 then (
  some ((), (((1 : Int), ()), ())))
  else (
  let x15 : Bool := (decide (d.1.1.2.2.1 > (1099511627776 : Int)))
  bif x15 then (
  some ((), (((1 : Int), ()), ())))
  else (
  (T.2.1 (d.1, ((), (((0 : Int), ()), ())))))))))
def f_ref10_Check_p21 (T : TT_ref10_Check) (d : (((List (Int × Int)) × (Int × (Int × Unit))) × Unit) × (Unit × ((Int × Unit) × Unit))) : Option (Unit × ((Int × Unit) × Unit)) :=
  let x16 : Int := (d.1.1.1.length : Int)
  let x17 : Bool := (decide (d.2.2.1.1 < x16))
  bif x17 then (
  bif decide ((0 : Int) ≤ d.2.2.1.1) && decide (d.2.2.1.1 < (d.1.1.1.length : Int)) then (
  (g_ref05_Date ((), (((gd_i64_i64 d.1.1.1 d.2.2.1.1).1, ()), ()))).bind fun x18 =>
  let x19 : Bool := (x18.2.2.2.1.1 != (1 : Int))
  bif x19 then (
  some ((), (((1 : Int), ()), ())))
  else (
  bif decide ((0 : Int) ≤ d.2.2.1.1) && decide (d.2.2.1.1 < (d.1.1.1.length : Int)) then (
  let x20 : Bool := (decide ((gd_i64_i64 d.1.1.1 d.2.2.1.1).2 < (0 : Int)))
  bif x20 then (
  some ((), (((1 : Int), ()), ())))
  else (
  bif decide ((0 : Int) ≤ d.2.2.1.1) && decide (d.2.2.1.1 < (d.1.1.1.length : Int)) then (
  let x21 : Bool := (decide ((gd_i64_i64 d.1.1.1 d.2.2.1.1).2 > (1000 : Int)))
  bif x21 then (
  some ((), (((1 : Int), ()), ())))
  else (
  let x22 : Int := (iadd .i64 d.2.2.1.1 (1 : Int))
  (T.2.1 (d.1, ((), ((x22, ()), ()))))))
  else none))
  else none))
  else none)
  else (
  (T.2.2.1 (d.1, ((), (((1 : Int), ()), ())))))
def f_ref10_Check_p30 (T : TT_ref10_Check) (d : (((List (Int × Int)) × (Int × (Int × Unit))) × Unit) × (Unit × ((Int × Unit) × Unit))) : Option (Unit × ((Int × Unit) × Unit)) :=
  let x23 : Int := (d.1.1.1.length : Int)
  let x24 : Bool := (decide (d.2.2.1.1 < x23))
  bif x24 then (
  let x25 : Int := (isub .i64 d.2.2.1.1 (1 : Int))
  bif decide ((0 : Int) ≤ x25) && decide (x25 < (d.1.1.1.length : Int)) then (
  bif decide ((0 : Int) ≤ d.2.2.1.1) && decide (d.2.2.1.1 < (d.1.1.1.length : Int)) then (
  let x26 : Bool := (decide ((gd_i64_i64 d.1.1.1 d.2.2.1.1).1 ≤ (gd_i64_i64 d.1.1.1 x25).1))
  bif x26 then (
  some ((), (((6 : Int), ()), ())))
  else (
  let x27 : Int := (iadd .i64 (gd_i64_i64 d.1.1.1 x25).2 (1 : Int))
  let x28 : Bool := ((gd_i64_i64 d.1.1.1 d.2.2.1.1).2 != x27)
  bif x28 then (
  let x29 : Int := (isub .i64 (gd_i64_i64 d.1.1.1 x25).2 (1 : Int))
  let x30 : Bool := ((gd_i64_i64 d.1.1.1 d.2.2.1.1).2 != x29)
  bif x30 then (
  some ((), (((6 : Int), ()), ())))
  else (
  let x31 : Int := (iadd .i64 d.2.2.1.1 (1 : Int))
  (T.2.2.1 (d.1, ((), ((x31, ()), ()))))))
  else (
  let x32 : Int := (iadd .i64 d.2.2.1.1 (1 : Int))
  (T.2.2.1 (d.1, ((), ((x32, ()), ())))))))
  else none)
  else none)
  else (
  some ((), (((0 : Int), ()), ())))
def f_ref10_Check_t : Nat → TT_ref10_Check
  | 0 => (fun _ => none, (fun _ => none, (fun _ => none, ())))
  | k + 1 => (f_ref10_Check_p9 (f_ref10_Check_t k), (f_ref10_Check_p21 (f_ref10_Check_t k), (f_ref10_Check_p30 (f_ref10_Check_t k), ())))
theorem t_ref10_Check (k : Nat) : f_ref10_Check_t (k + 1) = (f_ref10_Check_p9 (f_ref10_Check_t k), (f_ref10_Check_p21 (f_ref10_Check_t k), (f_ref10_Check_p30 (f_ref10_Check_t k), ()))) := rfl
def f_ref10_Check_m (T : TT_ref10_Check) (d : Unit × (((List (Int × Int)) × (Int × (Int × Unit))) × Unit)) : Option (Unit × ((Int × Unit) × Unit)) :=
  let x1 : Int := (d.2.1.1.length : Int)
  let x2 : Bool := (x1 == (0 : Int))
  bif x2 then (
  some ((), (((8 : Int), ()), ())))
  else (
  let x3 : Int := (d.2.1.1.length : Int)
  let x4 : Bool := (decide (x3 > (256 : Int)))
  bif x4 then (
  some ((), (((3 : Int), ()), ())))
  else (
  (T.1 (d.2, ((), (((0 : Int), ()), ()))))))
def c_ref10_Check : List Nat := []
def L_ref10_Check (k : Nat) : Pts po_ref10_Check.den := [(9, ⟨sh_ref10_Check_9, (f_ref10_Check_t k).1⟩), (21, ⟨sh_ref10_Check_21, (f_ref10_Check_t k).2.1⟩), (30, ⟨sh_ref10_Check_30, (f_ref10_Check_t k).2.2.1⟩)]
def R_ref10_Check (_ : Nat) : PtsR po_ref10_Check.den := []
def E_ref10_Check : Env := (((E0.add 62 (typedSem pi_ref05_Start po_ref05_Start g_ref05_Start)).add 63 (typedSem pi_ref05_Last po_ref05_Last g_ref05_Last)).add 64 (typedSem pi_ref05_Date po_ref05_Date g_ref05_Date))
theorem q_ref10_Check_9 (k : Nat) (d : sh_ref10_Check_9.den) : evAt E_ref10_Check (tb (L_ref10_Check k) (R_ref10_Check k)) c_ref10_Check 9 (bodyOf Tryz.f13) 0 (finK E_ref10_Check po_ref10_Check [.tmp 2]) (ptSt sh_ref10_Check_9 d) = f_ref10_Check_p9 (f_ref10_Check_t k) d := by kernel_rfl
theorem q_ref10_Check_21 (k : Nat) (d : sh_ref10_Check_21.den) : evAt E_ref10_Check (tb (L_ref10_Check k) (R_ref10_Check k)) c_ref10_Check 21 (bodyOf Tryz.f13) 0 (finK E_ref10_Check po_ref10_Check [.tmp 2]) (ptSt sh_ref10_Check_21 d) = f_ref10_Check_p21 (f_ref10_Check_t k) d := by kernel_rfl
theorem q_ref10_Check_30 (k : Nat) (d : sh_ref10_Check_30.den) : evAt E_ref10_Check (tb (L_ref10_Check k) (R_ref10_Check k)) c_ref10_Check 30 (bodyOf Tryz.f13) 0 (finK E_ref10_Check po_ref10_Check [.tmp 2]) (ptSt sh_ref10_Check_30 d) = f_ref10_Check_p30 (f_ref10_Check_t k) d := by kernel_rfl
theorem q_ref10_Check_m (k : Nat) (d : pi_ref10_Check.den) : evCode E_ref10_Check (tb (L_ref10_Check k) (R_ref10_Check k)) c_ref10_Check (bodyOf Tryz.f13) 0 (finK E_ref10_Check po_ref10_Check [.tmp 2]) (startSt pi_ref10_Check 136 d) = f_ref10_Check_m (f_ref10_Check_t k) d := by kernel_rfl
def g_ref10_Check (d : Unit × (((List (Int × Int)) × (Int × (Int × Unit))) × Unit)) : Option (Unit × ((Int × Unit) × Unit)) := lim fun k => f_ref10_Check_m (f_ref10_Check_t k) d
theorem ok_ref10_Check : FnOk Tryz.prog ET0 13 pi_ref10_Check po_ref10_Check g_ref10_Check :=
  fn_of_body (E := E_ref10_Check) (envOk_add (envOk_add (envOk_add e0_ok (typed_ok ok_ref05_Start)) (typed_ok ok_ref05_Last)) (typed_ok ok_ref05_Date)) (fn := Tryz.f13) Tryz.func13 (by kernel_rfl) (by kernel_rfl) [.tmp 2] (by kernel_rfl) (by kernel_rfl) (by decide) rfl c_ref10_Check L_ref10_Check R_ref10_Check
    (by intro x hx d; simp only [L_ref10_Check, List.mem_cons, List.not_mem_nil, or_false] at hx; rcases hx with rfl | rfl | rfl; rfl; rfl; rfl)
    (by intro k x hx d out h; simp only [L_ref10_Check, List.mem_cons, List.not_mem_nil, or_false] at hx; rcases hx with rfl | rfl | rfl; exact (q_ref10_Check_9 k d).trans h; exact (q_ref10_Check_21 k d).trans h; exact (q_ref10_Check_30 k d).trans h)
    (by intro x hx; cases hx)
    (by intro k x hx; cases hx)
    (by intro d out h; obtain ⟨k, hk⟩ := lim_some h; exact ⟨k, (q_ref10_Check_m k d).trans hk⟩)

@[reducible] def pi_day_Date : PSh := ⟨[], [.mk false [vI]]⟩
@[reducible] def po_day_Date : PSh := ⟨[], [.mk false [vI], .mk false [vI], .mk false [vI], .mk false [vE]]⟩
def f_day_Date_m (T : Unit) (d : Unit × ((Int × Unit) × Unit)) : Option (Unit × ((Int × Unit) × ((Int × Unit) × ((Int × Unit) × (((Option Int) × Unit) × Unit))))) :=
  (g_day_First ((), ())).bind fun x1 =>
  let x2 : Bool := (decide (d.2.1.1 < x1.2.1.1))
  bif x2 then (
  let x3 : (Option Int) := (some (13 : Int))
  some ((), (((0 : Int), ()), (((0 : Int), ()), (((0 : Int), ()), ((x3, ()), ()))))))
  else (
  (g_day_Last ((), ())).bind fun x4 =>
  let x5 : Bool := (decide (d.2.1.1 > x4.2.1.1))
  bif x5 then (
  let x6 : (Option Int) := (some (13 : Int))
  some ((), (((0 : Int), ()), (((0 : Int), ()), (((0 : Int), ()), ((x6, ()), ()))))))
  else (
  let x7 : Int := (iadd .i64 d.2.1.1 (719468 : Int))
  (g_day_floor ((), ((x7, ()), (((146097 : Int), ()), ())))).bind fun x8 =>
  let x9 : Int := (iadd .i64 d.2.1.1 (719468 : Int))
  let x10 : Int := (imul .i64 x8.2.1.1 (146097 : Int))
  let x11 : Int := (isub .i64 x9 x10)
  let x12 : Int := (iquo .i64 x11 (1460 : Int))
  let x13 : Int := (isub .i64 x11 x12)
  let x14 : Int := (iquo .i64 x11 (36524 : Int))
  let x15 : Int := (iadd .i64 x13 x14)
  let x16 : Int := (iquo .i64 x11 (146096 : Int))
  let x17 : Int := (isub .i64 x15 x16)
  let x18 : Int := (iquo .i64 x17 (365 : Int))
  let x19 : Int := (imul .i64 (365 : Int) x18)
  let x20 : Int := (iquo .i64 x18 (4 : Int))
  let x21 : Int := (iadd .i64 x19 x20)
  let x22 : Int := (iquo .i64 x18 (100 : Int))
  let x23 : Int := (isub .i64 x21 x22)
  let x24 : Int := (isub .i64 x11 x23)
  let x25 : Int := (imul .i64 (5 : Int) x24)
  let x26 : Int := (iadd .i64 x25 (2 : Int))
  let x27 : Int := (iquo .i64 x26 (153 : Int))
  let x28 : Int := (imul .i64 (153 : Int) x27)
  let x29 : Int := (iadd .i64 x28 (2 : Int))
  let x30 : Int := (iquo .i64 x29 (5 : Int))
  let x31 : Int := (isub .i64 x24 x30)
  let x32 : Int := (iadd .i64 x31 (1 : Int))
  let x33 : Int := (imul .i64 x8.2.1.1 (400 : Int))
  let x34 : Int := (iadd .i64 x18 x33)
  let x35 : Int := (iadd .i64 x27 (3 : Int))
  let x36 : Bool := (decide (x35 > (12 : Int)))
  bif x36 then (
  let x37 : Int := (isub .i64 x35 (12 : Int))
  let x38 : Int := (iadd .i64 x34 (1 : Int))
  some ((), ((x38, ()), ((x37, ()), ((x32, ()), (((none : Option Int), ()), ()))))))
  else (
  some ((), ((x34, ()), ((x35, ()), ((x32, ()), (((none : Option Int), ()), ()))))))))
def g_day_Date (d : Unit × ((Int × Unit) × Unit)) : Option (Unit × ((Int × Unit) × ((Int × Unit) × ((Int × Unit) × (((Option Int) × Unit) × Unit))))) := f_day_Date_m () d
theorem ok_day_Date : FnOk Tryz.prog ET0 88 pi_day_Date po_day_Date g_day_Date :=
  fn0 (E := (((E0.add 160 (typedSem pi_day_First po_day_First g_day_First)).add 161 (typedSem pi_day_Last po_day_Last g_day_Last)).add 162 (typedSem pi_day_floor po_day_floor g_day_floor))) (envOk_add (envOk_add (envOk_add e0_ok (typed_ok ok_day_First)) (typed_ok ok_day_Last)) (typed_ok ok_day_floor)) (fn := Tryz.f88) Tryz.func88 (by kernel_rfl) (by kernel_rfl) [.tmp 2, .tmp 3, .tmp 4, .tmp 5] (by kernel_rfl) rfl rfl rfl [] fun d => by kernel_rfl

@[reducible] def pi_leap_Row_dated : PSh := ⟨[], [.mk true [vI, vI]]⟩
@[reducible] def po_leap_Row_dated : PSh := ⟨[], [.mk false [vB]]⟩
def f_leap_Row_dated_m (T : Unit) (d : Unit × ((Int × (Int × Unit)) × Unit)) : Option (Unit × ((Bool × Unit) × Unit)) :=
  (g_day_Date ((), ((d.2.1.1, ()), ()))).bind fun x1 =>
  bif x1.2.2.2.2.1.1.isNone then (
  let x2 : Bool := (decide (x1.2.1.1 ≥ (1900 : Int)))
  some ((), ((x2, ()), ())))
  else (
  some ((), ((false, ()), ())))
def g_leap_Row_dated (d : Unit × ((Int × (Int × Unit)) × Unit)) : Option (Unit × ((Bool × Unit) × Unit)) := f_leap_Row_dated_m () d
theorem ok_leap_Row_dated : FnOk Tryz.prog ET0 70 pi_leap_Row_dated po_leap_Row_dated g_leap_Row_dated :=
  fn0 (E := (E0.add 88 (typedSem pi_day_Date po_day_Date g_day_Date))) (envOk_add e0_ok (typed_ok ok_day_Date)) (fn := Tryz.f70) Tryz.func70 (by kernel_rfl) (by kernel_rfl) [.tmp 2] (by kernel_rfl) rfl rfl rfl [] fun d => by kernel_rfl

@[reducible] def pi_leap_New_1 : PSh := ⟨[], [.mk true [vI, vI]]⟩
@[reducible] def po_leap_New_1 : PSh := ⟨[], [.mk false [vB]]⟩
def f_leap_New_1_m (T : Unit) (d : Unit × ((Int × (Int × Unit)) × Unit)) : Option (Unit × ((Bool × Unit) × Unit)) :=
  (g_leap_Row_dated ((), d.2)).bind fun x1 =>
  let x2 : Bool := (!x1.2.1.1)
  some ((), ((x2, ()), ()))
def g_leap_New_1 (d : Unit × ((Int × (Int × Unit)) × Unit)) : Option (Unit × ((Bool × Unit) × Unit)) := f_leap_New_1_m () d
theorem ok_leap_New_1 : FnOk Tryz.prog ET0 69 pi_leap_New_1 po_leap_New_1 g_leap_New_1 :=
  fn0 (E := (E0.add 70 (typedSem pi_leap_Row_dated po_leap_Row_dated g_leap_Row_dated))) (envOk_add e0_ok (typed_ok ok_leap_Row_dated)) (fn := Tryz.f69) Tryz.func69 (by kernel_rfl) (by kernel_rfl) [.tmp 2] (by kernel_rfl) rfl rfl rfl [] fun d => by kernel_rfl

@[reducible] def pi_leap_Row_may : PSh := ⟨[], [.mk true [vI, vI]]⟩
@[reducible] def po_leap_Row_may : PSh := ⟨[], [.mk false [vB]]⟩
def f_leap_Row_may_m (T : Unit) (d : Unit × ((Int × (Int × Unit)) × Unit)) : Option (Unit × ((Bool × Unit) × Unit)) :=
  (g_day_Date ((), ((d.2.1.1, ()), ()))).bind fun x1 =>
  bif x1.2.2.2.2.1.1.isNone then (
  let x2 : Bool := (x1.2.2.2.1.1 == (1 : Int))
  bif x2 then (
  let x3 : Bool := (decide (d.2.1.2.1 ≥ (0 : Int)))
  bif x3 then (
  let x4 : Bool := (decide (d.2.1.2.1 ≤ (1000 : Int)))
  some ((), ((x4, ()), ())))
  else (
  some ((), ((false, ()), ()))))
  else (
  some ((), ((false, ()), ()))))
  else (
  some ((), ((false, ()), ())))
def g_leap_Row_may (d : Unit × ((Int × (Int × Unit)) × Unit)) : Option (Unit × ((Bool × Unit) × Unit)) := f_leap_Row_may_m () d
theorem ok_leap_Row_may : FnOk Tryz.prog ET0 72 pi_leap_Row_may po_leap_Row_may g_leap_Row_may :=
  fn0 (E := (E0.add 88 (typedSem pi_day_Date po_day_Date g_day_Date))) (envOk_add e0_ok (typed_ok ok_day_Date)) (fn := Tryz.f72) Tryz.func72 (by kernel_rfl) (by kernel_rfl) [.tmp 2] (by kernel_rfl) rfl rfl rfl [] fun d => by kernel_rfl

@[reducible] def pi_leap_New_2 : PSh := ⟨[], [.mk true [vI, vI]]⟩
@[reducible] def po_leap_New_2 : PSh := ⟨[], [.mk false [vB]]⟩
def f_leap_New_2_m (T : Unit) (d : Unit × ((Int × (Int × Unit)) × Unit)) : Option (Unit × ((Bool × Unit) × Unit)) :=
  (g_leap_Row_may ((), d.2)).bind fun x1 =>
  let x2 : Bool := (!x1.2.1.1)
  some ((), ((x2, ()), ()))
def g_leap_New_2 (d : Unit × ((Int × (Int × Unit)) × Unit)) : Option (Unit × ((Bool × Unit) × Unit)) := f_leap_New_2_m () d
theorem ok_leap_New_2 : FnOk Tryz.prog ET0 71 pi_leap_New_2 po_leap_New_2 g_leap_New_2 :=
  fn0 (E := (E0.add 72 (typedSem pi_leap_Row_may po_leap_Row_may g_leap_Row_may))) (envOk_add e0_ok (typed_ok ok_leap_Row_may)) (fn := Tryz.f71) Tryz.func71 (by kernel_rfl) (by kernel_rfl) [.tmp 2] (by kernel_rfl) rfl rfl rfl [] fun d => by kernel_rfl

@[reducible] def pi_leap_time : PSh := ⟨[], [.mk false [vI]]⟩
@[reducible] def po_leap_time : PSh := ⟨[], [.mk false [vB]]⟩
def f_leap_time_m (T : Unit) (d : Unit × ((Int × Unit) × Unit)) : Option (Unit × ((Bool × Unit) × Unit)) :=
  let x1 : Bool := (decide (d.2.1.1 ≥ (0 : Int)))
  bif x1 then (
  let x2 : Bool := (decide (d.2.1.1 ≤ (1099511627776 : Int)))
  some ((), ((x2, ()), ())))
  else (
  some ((), ((false, ()), ())))
def g_leap_time (d : Unit × ((Int × Unit) × Unit)) : Option (Unit × ((Bool × Unit) × Unit)) := f_leap_time_m () d
theorem ok_leap_time : FnOk Tryz.prog ET0 74 pi_leap_time po_leap_time g_leap_time :=
  fn0 (E := E0) e0_ok (fn := Tryz.f74) Tryz.func74 (by kernel_rfl) (by kernel_rfl) [.tmp 2] (by kernel_rfl) rfl rfl rfl [] fun d => by kernel_rfl

@[reducible] def pi_leap_Row_follows : PSh := ⟨[], [.mk true [vI, vI], .mk true [vI, vI]]⟩
@[reducible] def po_leap_Row_follows : PSh := ⟨[], [.mk false [vB]]⟩
def f_leap_Row_follows_m (T : Unit) (d : Unit × ((Int × (Int × Unit)) × ((Int × (Int × Unit)) × Unit))) : Option (Unit × ((Bool × Unit) × Unit)) :=
  let x1 : Int := (isub .i64 d.2.1.2.1 d.2.2.1.2.1)
  let x2 : Bool := (decide (d.2.1.1 > d.2.2.1.1))
  bif x2 then (
  let x3 : Bool := (x1 == (1 : Int))
  bif x3 then (
  some ((), ((true, ()), ())))
  else (
  let x4 : Bool := (x1 == (-1 : Int))
  some ((), ((x4, ()), ()))))
  else (
  some ((), ((false, ()), ())))
def g_leap_Row_follows (d : Unit × ((Int × (Int × Unit)) × ((Int × (Int × Unit)) × Unit))) : Option (Unit × ((Bool × Unit) × Unit)) := f_leap_Row_follows_m () d
theorem ok_leap_Row_follows : FnOk Tryz.prog ET0 151 pi_leap_Row_follows po_leap_Row_follows g_leap_Row_follows :=
  fn0 (E := E0) e0_ok (fn := Tryz.f151) Tryz.func151 (by kernel_rfl) (by kernel_rfl) [.tmp 4] (by kernel_rfl) rfl rfl rfl [] fun d => by kernel_rfl

@[reducible] def pi_leap_rise : PSh := ⟨[], [.mk false [.v (.sl (.pair (.int .i64) (.int .i64)))]]⟩
@[reducible] def po_leap_rise : PSh := ⟨[], [.mk false [vB]]⟩
@[reducible] def TT_leap_rise : Type := (((Unit × (((List (Int × Int)) × Unit) × ((Int × Unit) × Unit))) → Option (Unit × ((Bool × Unit) × Unit))) × Unit)
@[reducible] def sh_leap_rise_3 : PSh := ⟨[], [.mk false [.v (.sl (.pair (.int .i64) (.int .i64)))], .any, .any, .mk false [vI], .any, .any, .any, .any, .any, .any, .any, .any, .any, .any, .any, .any, .any, .any, .any, .any, .any]⟩
def f_leap_rise_p3 (T : TT_leap_rise) (d : Unit × (((List (Int × Int)) × Unit) × ((Int × Unit) × Unit))) : Option (Unit × ((Bool × Unit) × Unit)) :=
  let x1 : Int := (d.2.1.1.length : Int)
  let x2 : Bool := (decide (d.2.2.1.1 < x1))
  bif x2 then (
  bif decide ((0 : Int) ≤ d.2.2.1.1) && decide (d.2.2.1.1 < (d.2.1.1.length : Int)) then (
  let x3 : Int := (isub .i64 d.2.2.1.1 (1 : Int))
  bif decide ((0 : Int) ≤ x3) && decide (x3 < (d.2.1.1.length : Int)) then (
  (g_leap_Row_follows ((), (((gd_i64_i64 d.2.1.1 d.2.2.1.1).1, ((gd_i64_i64 d.2.1.1 d.2.2.1.1).2, ())), (((gd_i64_i64 d.2.1.1 x3).1, ((gd_i64_i64 d.2.1.1 x3).2, ())), ())))).bind fun x4 =>
  let x5 : Bool := (!x4.2.1.1)
  bif x5 then (
  some ((), ((false, ()), ())))
  else (
  let x6 : Int := (iadd .i64 d.2.2.1.1 (1 : Int))
  (T.1 ((), (d.2.1, ((x6, ()), ()))))))
  else none)
  else none)
  else (
  some ((), ((true, ()), ())))
def f_leap_rise_t : Nat → TT_leap_rise
  | 0 => (fun _ => none, ())
  | k + 1 => (f_leap_rise_p3 (f_leap_rise_t k), ())
theorem t_leap_rise (k : Nat) : f_leap_rise_t (k + 1) = (f_leap_rise_p3 (f_leap_rise_t k), ()) := rfl
def f_leap_rise_m (T : TT_leap_rise) (d : Unit × (((List (Int × Int)) × Unit) × Unit)) : Option (Unit × ((Bool × Unit) × Unit)) :=
  (T.1 ((), (d.2.1, (((1 : Int), ()), ()))))
def c_leap_rise : List Nat := []
def L_leap_rise (k : Nat) : Pts po_leap_rise.den := [(3, ⟨sh_leap_rise_3, (f_leap_rise_t k).1⟩)]
def R_leap_rise (_ : Nat) : PtsR po_leap_rise.den := []
def E_leap_rise : Env := (E0.add 151 (typedSem pi_leap_Row_follows po_leap_Row_follows g_leap_Row_follows))
theorem q_leap_rise_3 (k : Nat) (d : sh_leap_rise_3.den) : evAt E_leap_rise (tb (L_leap_rise k) (R_leap_rise k)) c_leap_rise 3 (bodyOf Tryz.f75) 0 (finK E_leap_rise po_leap_rise [.tmp 2]) (ptSt sh_leap_rise_3 d) = f_leap_rise_p3 (f_leap_rise_t k) d := by kernel_rfl
theorem q_leap_rise_m (k : Nat) (d : pi_leap_rise.den) : evCode E_leap_rise (tb (L_leap_rise k) (R_leap_rise k)) c_leap_rise (bodyOf Tryz.f75) 0 (finK E_leap_rise po_leap_rise [.tmp 2]) (startSt pi_leap_rise 21 d) = f_leap_rise_m (f_leap_rise_t k) d := by kernel_rfl
def g_leap_rise (d : Unit × (((List (Int × Int)) × Unit) × Unit)) : Option (Unit × ((Bool × Unit) × Unit)) := lim fun k => f_leap_rise_m (f_leap_rise_t k) d
theorem ok_leap_rise : FnOk Tryz.prog ET0 75 pi_leap_rise po_leap_rise g_leap_rise :=
  fn_of_body (E := E_leap_rise) (envOk_add e0_ok (typed_ok ok_leap_Row_follows)) (fn := Tryz.f75) Tryz.func75 (by kernel_rfl) (by kernel_rfl) [.tmp 2] (by kernel_rfl) (by kernel_rfl) (by decide) rfl c_leap_rise L_leap_rise R_leap_rise
    (by intro x hx d; simp only [L_leap_rise, List.mem_cons, List.not_mem_nil, or_false] at hx; subst hx; rfl)
    (by intro k x hx d out h; simp only [L_leap_rise, List.mem_cons, List.not_mem_nil, or_false] at hx; subst hx; exact (q_leap_rise_3 k d).trans h)
    (by intro x hx; cases hx)
    (by intro k x hx; cases hx)
    (by intro d out h; obtain ⟨k, hk⟩ := lim_some h; exact ⟨k, (q_leap_rise_m k d).trans hk⟩)

@[reducible] def pi_slices_Clone_leap_Row_leap_Row : PSh := ⟨[], [.mk false [.v (.sl (.pair (.int .i64) (.int .i64)))]]⟩
@[reducible] def po_slices_Clone_leap_Row_leap_Row : PSh := ⟨[.row 130 (.pair (.int .i64) (.int .i64))], [.mk false [.osl 0]]⟩
def f_slices_Clone_leap_Row_leap_Row_m (T : Unit) (d : Unit × (((List (Int × Int)) × Unit) × Unit)) : Option (((List (Int × Int)) × Unit) × (Unit × Unit)) :=
  bif d.2.1.1.isEmpty then (
  agree (
  some ((([] : List (Int × Int)), ()), ((), ()))) (
  let x1 : (List (Int × Int)) := ([] : List (Int × Int))
  bif decide (((x1.length + d.2.1.1.length) * 16 : Nat) ≤ 140737488355328) && decide (x1.length + d.2.1.1.length ≤ 9223372036854775807) then (
  let x2 : (List (Int × Int)) := (x1 ++ d.2.1.1)
  some ((x2, ()), ((), ())))
  else none))
  else (
  let x3 : (List (Int × Int)) := ([] : List (Int × Int))
  bif decide (((x3.length + d.2.1.1.length) * 16 : Nat) ≤ 140737488355328) && decide (x3.length + d.2.1.1.length ≤ 9223372036854775807) then (
  let x4 : (List (Int × Int)) := (x3 ++ d.2.1.1)
  some ((x4, ()), ((), ())))
  else none)
def g_slices_Clone_leap_Row_leap_Row (d : Unit × (((List (Int × Int)) × Unit) × Unit)) : Option (((List (Int × Int)) × Unit) × (Unit × Unit)) := f_slices_Clone_leap_Row_leap_Row_m () d
theorem ok_slices_Clone_leap_Row_leap_Row : FnOk Tryz.prog ET0 76 pi_slices_Clone_leap_Row_leap_Row po_slices_Clone_leap_Row_leap_Row g_slices_Clone_leap_Row_leap_Row :=
  fn0 (E := E0) e0_ok (fn := Tryz.f76) Tryz.func76 (by kernel_rfl) (by kernel_rfl) [.tmp 2] (by kernel_rfl) rfl rfl rfl [] fun d => by kernel_rfl

@[reducible] def pi_slices_IndexFunc_leap_Row_leap_Row_leap_New_1 : PSh := ⟨[], [.mk false [.v (.sl (.pair (.int .i64) (.int .i64)))], .mk false [.fn 69 []]]⟩
@[reducible] def po_slices_IndexFunc_leap_Row_leap_Row_leap_New_1 : PSh := ⟨[], [.mk false [vI]]⟩
@[reducible] def TT_slices_IndexFunc_leap_Row_leap_Row_leap_New_1 : Type := (((Unit × (((List (Int × Int)) × Unit) × (Unit × ((Int × Unit) × ((Int × Unit) × Unit))))) → Option (Unit × ((Int × Unit) × Unit))) × Unit)
@[reducible] def sh_slices_IndexFunc_leap_Row_leap_Row_leap_New_1_3 : PSh := ⟨[], [.mk false [.v (.sl (.pair (.int .i64) (.int .i64)))], .mk false [.fn 69 []], .any, .any, .any, .any, .any, .mk false [vI], .mk false [vI], .any, .any, .any, .any, .any, .any, .any, .any, .any, .any]⟩
def f_slices_IndexFunc_leap_Row_leap_Row_leap_New_1_p3 (T : TT_slices_IndexFunc_leap_Row_leap_Row_leap_New_1) (d : Unit × (((List (Int × Int)) × Unit) × (Unit × ((Int × Unit) × ((Int × Unit) × Unit))))) : Option (Unit × ((Int × Unit) × Unit)) :=
  let x2 : Bool := (decide (d.2.2.2.2.1.1 < d.2.2.2.1.1))
  bif x2 then (
  bif decide ((0 : Int) ≤ d.2.2.2.2.1.1) && decide (d.2.2.2.2.1.1 < (d.2.1.1.length : Int)) then (
  (g_leap_New_1 ((), (((gd_i64_i64 d.2.1.1 d.2.2.2.2.1.1).1, ((gd_i64_i64 d.2.1.1 d.2.2.2.2.1.1).2, ())), ()))).bind fun x3 =>
  bif x3.2.1.1 then (
  some ((), d.2.2.2.2))
  else (
  let x4 : Int := (iadd .i64 d.2.2.2.2.1.1 (1 : Int))
  (T.1 ((), (d.2.1, ((), (d.2.2.2.1, ((x4, ()), ()))))))))
  else none)
  else (
  some ((), (((-1 : Int), ()), ())))
def f_slices_IndexFunc_leap_Row_leap_Row_leap_New_1_t : Nat → TT_slices_IndexFunc_leap_Row_leap_Row_leap_New_1
  | 0 => (fun _ => none, ())
  | k + 1 => (f_slices_IndexFunc_leap_Row_leap_Row_leap_New_1_p3 (f_slices_IndexFunc_leap_Row_leap_Row_leap_New_1_t k), ())
theorem t_slices_IndexFunc_leap_Row_leap_Row_leap_New_1 (k : Nat) : f_slices_IndexFunc_leap_Row_leap_Row_leap_New_1_t (k + 1) = (f_slices_IndexFunc_leap_Row_leap_Row_leap_New_1_p3 (f_slices_IndexFunc_leap_Row_leap_Row_leap_New_1_t k), ()) := rfl
def f_slices_IndexFunc_leap_Row_leap_Row_leap_New_1_m (T : TT_slices_IndexFunc_leap_Row_leap_Row_leap_New_1) (d : Unit × (((List (Int × Int)) × Unit) × (Unit × Unit))) : Option (Unit × ((Int × Unit) × Unit)) :=
  let x1 : Int := (d.2.1.1.length : Int)
  (T.1 ((), (d.2.1, ((), ((x1, ()), (((0 : Int), ()), ()))))))
def c_slices_IndexFunc_leap_Row_leap_Row_leap_New_1 : List Nat := []
def L_slices_IndexFunc_leap_Row_leap_Row_leap_New_1 (k : Nat) : Pts po_slices_IndexFunc_leap_Row_leap_Row_leap_New_1.den := [(3, ⟨sh_slices_IndexFunc_leap_Row_leap_Row_leap_New_1_3, (f_slices_IndexFunc_leap_Row_leap_Row_leap_New_1_t k).1⟩)]
def R_slices_IndexFunc_leap_Row_leap_Row_leap_New_1 (_ : Nat) : PtsR po_slices_IndexFunc_leap_Row_leap_Row_leap_New_1.den := []
def E_slices_IndexFunc_leap_Row_leap_Row_leap_New_1 : Env := (E0.add 69 (typedSem pi_leap_New_1 po_leap_New_1 g_leap_New_1))
theorem q_slices_IndexFunc_leap_Row_leap_Row_leap_New_1_3 (k : Nat) (d : sh_slices_IndexFunc_leap_Row_leap_Row_leap_New_1_3.den) : evAt E_slices_IndexFunc_leap_Row_leap_Row_leap_New_1 (tb (L_slices_IndexFunc_leap_Row_leap_Row_leap_New_1 k) (R_slices_IndexFunc_leap_Row_leap_Row_leap_New_1 k)) c_slices_IndexFunc_leap_Row_leap_Row_leap_New_1 3 (bodyOf Tryz.f150) 0 (finK E_slices_IndexFunc_leap_Row_leap_Row_leap_New_1 po_slices_IndexFunc_leap_Row_leap_Row_leap_New_1 [.tmp 4]) (ptSt sh_slices_IndexFunc_leap_Row_leap_Row_leap_New_1_3 d) = f_slices_IndexFunc_leap_Row_leap_Row_leap_New_1_p3 (f_slices_IndexFunc_leap_Row_leap_Row_leap_New_1_t k) d := by kernel_rfl
theorem q_slices_IndexFunc_leap_Row_leap_Row_leap_New_1_m (k : Nat) (d : pi_slices_IndexFunc_leap_Row_leap_Row_leap_New_1.den) : evCode E_slices_IndexFunc_leap_Row_leap_Row_leap_New_1 (tb (L_slices_IndexFunc_leap_Row_leap_Row_leap_New_1 k) (R_slices_IndexFunc_leap_Row_leap_Row_leap_New_1 k)) c_slices_IndexFunc_leap_Row_leap_Row_leap_New_1 (bodyOf Tryz.f150) 0 (finK E_slices_IndexFunc_leap_Row_leap_Row_leap_New_1 po_slices_IndexFunc_leap_Row_leap_Row_leap_New_1 [.tmp 4]) (startSt pi_slices_IndexFunc_leap_Row_leap_Row_leap_New_1 19 d) = f_slices_IndexFunc_leap_Row_leap_Row_leap_New_1_m (f_slices_IndexFunc_leap_Row_leap_Row_leap_New_1_t k) d := by kernel_rfl
def g_slices_IndexFunc_leap_Row_leap_Row_leap_New_1 (d : Unit × (((List (Int × Int)) × Unit) × (Unit × Unit))) : Option (Unit × ((Int × Unit) × Unit)) := lim fun k => f_slices_IndexFunc_leap_Row_leap_Row_leap_New_1_m (f_slices_IndexFunc_leap_Row_leap_Row_leap_New_1_t k) d
theorem ok_slices_IndexFunc_leap_Row_leap_Row_leap_New_1 : FnOk Tryz.prog ET0 150 pi_slices_IndexFunc_leap_Row_leap_Row_leap_New_1 po_slices_IndexFunc_leap_Row_leap_Row_leap_New_1 g_slices_IndexFunc_leap_Row_leap_Row_leap_New_1 :=
  fn_of_body (E := E_slices_IndexFunc_leap_Row_leap_Row_leap_New_1) (envOk_add e0_ok (typed_ok ok_leap_New_1)) (fn := Tryz.f150) Tryz.func150 (by kernel_rfl) (by kernel_rfl) [.tmp 4] (by kernel_rfl) (by kernel_rfl) (by decide) rfl c_slices_IndexFunc_leap_Row_leap_Row_leap_New_1 L_slices_IndexFunc_leap_Row_leap_Row_leap_New_1 R_slices_IndexFunc_leap_Row_leap_Row_leap_New_1
    (by intro x hx d; simp only [L_slices_IndexFunc_leap_Row_leap_Row_leap_New_1, List.mem_cons, List.not_mem_nil, or_false] at hx; subst hx; rfl)
    (by intro k x hx d out h; simp only [L_slices_IndexFunc_leap_Row_leap_Row_leap_New_1, List.mem_cons, List.not_mem_nil, or_false] at hx; subst hx; exact (q_slices_IndexFunc_leap_Row_leap_Row_leap_New_1_3 k d).trans h)
    (by intro x hx; cases hx)
    (by intro k x hx; cases hx)
    (by intro d out h; obtain ⟨k, hk⟩ := lim_some h; exact ⟨k, (q_slices_IndexFunc_leap_Row_leap_Row_leap_New_1_m k d).trans hk⟩)

@[reducible] def pi_slices_ContainsFunc_leap_Row_leap_Row_leap_New_1 : PSh := ⟨[], [.mk false [.v (.sl (.pair (.int .i64) (.int .i64)))], .mk false [.fn 69 []]]⟩
@[reducible] def po_slices_ContainsFunc_leap_Row_leap_Row_leap_New_1 : PSh := ⟨[], [.mk false [vB]]⟩
def f_slices_ContainsFunc_leap_Row_leap_Row_leap_New_1_m (T : Unit) (d : Unit × (((List (Int × Int)) × Unit) × (Unit × Unit))) : Option (Unit × ((Bool × Unit) × Unit)) :=
  (g_slices_IndexFunc_leap_Row_leap_Row_leap_New_1 ((), (d.2.1, ((), ())))).bind fun x1 =>
  let x2 : Bool := (decide (x1.2.1.1 ≥ (0 : Int)))
  some ((), ((x2, ()), ()))
def g_slices_ContainsFunc_leap_Row_leap_Row_leap_New_1 (d : Unit × (((List (Int × Int)) × Unit) × (Unit × Unit))) : Option (Unit × ((Bool × Unit) × Unit)) := f_slices_ContainsFunc_leap_Row_leap_Row_leap_New_1_m () d
theorem ok_slices_ContainsFunc_leap_Row_leap_Row_leap_New_1 : FnOk Tryz.prog ET0 73 pi_slices_ContainsFunc_leap_Row_leap_Row_leap_New_1 po_slices_ContainsFunc_leap_Row_leap_Row_leap_New_1 g_slices_ContainsFunc_leap_Row_leap_Row_leap_New_1 :=
  fn0 (E := (E0.add 150 (typedSem pi_slices_IndexFunc_leap_Row_leap_Row_leap_New_1 po_slices_IndexFunc_leap_Row_leap_Row_leap_New_1 g_slices_IndexFunc_leap_Row_leap_Row_leap_New_1))) (envOk_add e0_ok (typed_ok ok_slices_IndexFunc_leap_Row_leap_Row_leap_New_1)) (fn := Tryz.f73) Tryz.func73 (by kernel_rfl) (by kernel_rfl) [.tmp 4] (by kernel_rfl) rfl rfl rfl [] fun d => by kernel_rfl

@[reducible] def pi_slices_IndexFunc_leap_Row_leap_Row_leap_New_2 : PSh := ⟨[], [.mk false [.v (.sl (.pair (.int .i64) (.int .i64)))], .mk false [.fn 71 []]]⟩
@[reducible] def po_slices_IndexFunc_leap_Row_leap_Row_leap_New_2 : PSh := ⟨[], [.mk false [vI]]⟩
@[reducible] def TT_slices_IndexFunc_leap_Row_leap_Row_leap_New_2 : Type := (((Unit × (((List (Int × Int)) × Unit) × (Unit × ((Int × Unit) × ((Int × Unit) × Unit))))) → Option (Unit × ((Int × Unit) × Unit))) × Unit)
@[reducible] def sh_slices_IndexFunc_leap_Row_leap_Row_leap_New_2_3 : PSh := ⟨[], [.mk false [.v (.sl (.pair (.int .i64) (.int .i64)))], .mk false [.fn 71 []], .any, .any, .any, .any, .any, .mk false [vI], .mk false [vI], .any, .any, .any, .any, .any, .any, .any, .any, .any, .any]⟩
def f_slices_IndexFunc_leap_Row_leap_Row_leap_New_2_p3 (T : TT_slices_IndexFunc_leap_Row_leap_Row_leap_New_2) (d : Unit × (((List (Int × Int)) × Unit) × (Unit × ((Int × Unit) × ((Int × Unit) × Unit))))) : Option (Unit × ((Int × Unit) × Unit)) :=
  let x2 : Bool := (decide (d.2.2.2.2.1.1 < d.2.2.2.1.1))
  bif x2 then (
  bif decide ((0 : Int) ≤ d.2.2.2.2.1.1) && decide (d.2.2.2.2.1.1 < (d.2.1.1.length : Int)) then (
  (g_leap_New_2 ((), (((gd_i64_i64 d.2.1.1 d.2.2.2.2.1.1).1, ((gd_i64_i64 d.2.1.1 d.2.2.2.2.1.1).2, ())), ()))).bind fun x3 =>
  bif x3.2.1.1 then (
  some ((), d.2.2.2.2))
  else (
  let x4 : Int := (iadd .i64 d.2.2.2.2.1.1 (1 : Int))
  (T.1 ((), (d.2.1, ((), (d.2.2.2.1, ((x4, ()), ()))))))))
  else none)
  else (
  some ((), (((-1 : Int), ()), ())))
def f_slices_IndexFunc_leap_Row_leap_Row_leap_New_2_t : Nat → TT_slices_IndexFunc_leap_Row_leap_Row_leap_New_2
  | 0 => (fun _ => none, ())
  | k + 1 => (f_slices_IndexFunc_leap_Row_leap_Row_leap_New_2_p3 (f_slices_IndexFunc_leap_Row_leap_Row_leap_New_2_t k), ())
theorem t_slices_IndexFunc_leap_Row_leap_Row_leap_New_2 (k : Nat) : f_slices_IndexFunc_leap_Row_leap_Row_leap_New_2_t (k + 1) = (f_slices_IndexFunc_leap_Row_leap_Row_leap_New_2_p3 (f_slices_IndexFunc_leap_Row_leap_Row_leap_New_2_t k), ()) := rfl
def f_slices_IndexFunc_leap_Row_leap_Row_leap_New_2_m (T : TT_slices_IndexFunc_leap_Row_leap_Row_leap_New_2) (d : Unit × (((List (Int × Int)) × Unit) × (Unit × Unit))) : Option (Unit × ((Int × Unit) × Unit)) :=
  let x1 : Int := (d.2.1.1.length : Int)
  (T.1 ((), (d.2.1, ((), ((x1, ()), (((0 : Int), ()), ()))))))
def c_slices_IndexFunc_leap_Row_leap_Row_leap_New_2 : List Nat := []
def L_slices_IndexFunc_leap_Row_leap_Row_leap_New_2 (k : Nat) : Pts po_slices_IndexFunc_leap_Row_leap_Row_leap_New_2.den := [(3, ⟨sh_slices_IndexFunc_leap_Row_leap_Row_leap_New_2_3, (f_slices_IndexFunc_leap_Row_leap_Row_leap_New_2_t k).1⟩)]
def R_slices_IndexFunc_leap_Row_leap_Row_leap_New_2 (_ : Nat) : PtsR po_slices_IndexFunc_leap_Row_leap_Row_leap_New_2.den := []
def E_slices_IndexFunc_leap_Row_leap_Row_leap_New_2 : Env := (E0.add 71 (typedSem pi_leap_New_2 po_leap_New_2 g_leap_New_2))
theorem q_slices_IndexFunc_leap_Row_leap_Row_leap_New_2_3 (k : Nat) (d : sh_slices_IndexFunc_leap_Row_leap_Row_leap_New_2_3.den) : evAt E_slices_IndexFunc_leap_Row_leap_Row_leap_New_2 (tb (L_slices_IndexFunc_leap_Row_leap_Row_leap_New_2 k) (R_slices_IndexFunc_leap_Row_leap_Row_leap_New_2 k)) c_slices_IndexFunc_leap_Row_leap_Row_leap_New_2 3 (bodyOf Tryz.f150) 0 (finK E_slices_IndexFunc_leap_Row_leap_Row_leap_New_2 po_slices_IndexFunc_leap_Row_leap_Row_leap_New_2 [.tmp 4]) (ptSt sh_slices_IndexFunc_leap_Row_leap_Row_leap_New_2_3 d) = f_slices_IndexFunc_leap_Row_leap_Row_leap_New_2_p3 (f_slices_IndexFunc_leap_Row_leap_Row_leap_New_2_t k) d := by kernel_rfl
theorem q_slices_IndexFunc_leap_Row_leap_Row_leap_New_2_m (k : Nat) (d : pi_slices_IndexFunc_leap_Row_leap_Row_leap_New_2.den) : evCode E_slices_IndexFunc_leap_Row_leap_Row_leap_New_2 (tb (L_slices_IndexFunc_leap_Row_leap_Row_leap_New_2 k) (R_slices_IndexFunc_leap_Row_leap_Row_leap_New_2 k)) c_slices_IndexFunc_leap_Row_leap_Row_leap_New_2 (bodyOf Tryz.f150) 0 (finK E_slices_IndexFunc_leap_Row_leap_Row_leap_New_2 po_slices_IndexFunc_leap_Row_leap_Row_leap_New_2 [.tmp 4]) (startSt pi_slices_IndexFunc_leap_Row_leap_Row_leap_New_2 19 d) = f_slices_IndexFunc_leap_Row_leap_Row_leap_New_2_m (f_slices_IndexFunc_leap_Row_leap_Row_leap_New_2_t k) d := by kernel_rfl
def g_slices_IndexFunc_leap_Row_leap_Row_leap_New_2 (d : Unit × (((List (Int × Int)) × Unit) × (Unit × Unit))) : Option (Unit × ((Int × Unit) × Unit)) := lim fun k => f_slices_IndexFunc_leap_Row_leap_Row_leap_New_2_m (f_slices_IndexFunc_leap_Row_leap_Row_leap_New_2_t k) d
theorem ok_slices_IndexFunc_leap_Row_leap_Row_leap_New_2 : FnOk Tryz.prog ET0 150 pi_slices_IndexFunc_leap_Row_leap_Row_leap_New_2 po_slices_IndexFunc_leap_Row_leap_Row_leap_New_2 g_slices_IndexFunc_leap_Row_leap_Row_leap_New_2 :=
  fn_of_body (E := E_slices_IndexFunc_leap_Row_leap_Row_leap_New_2) (envOk_add e0_ok (typed_ok ok_leap_New_2)) (fn := Tryz.f150) Tryz.func150 (by kernel_rfl) (by kernel_rfl) [.tmp 4] (by kernel_rfl) (by kernel_rfl) (by decide) rfl c_slices_IndexFunc_leap_Row_leap_Row_leap_New_2 L_slices_IndexFunc_leap_Row_leap_Row_leap_New_2 R_slices_IndexFunc_leap_Row_leap_Row_leap_New_2
    (by intro x hx d; simp only [L_slices_IndexFunc_leap_Row_leap_Row_leap_New_2, List.mem_cons, List.not_mem_nil, or_false] at hx; subst hx; rfl)
    (by intro k x hx d out h; simp only [L_slices_IndexFunc_leap_Row_leap_Row_leap_New_2, List.mem_cons, List.not_mem_nil, or_false] at hx; subst hx; exact (q_slices_IndexFunc_leap_Row_leap_Row_leap_New_2_3 k d).trans h)
    (by intro x hx; cases hx)
    (by intro k x hx; cases hx)
    (by intro d out h; obtain ⟨k, hk⟩ := lim_some h; exact ⟨k, (q_slices_IndexFunc_leap_Row_leap_Row_leap_New_2_m k d).trans hk⟩)

@[reducible] def pi_slices_ContainsFunc_leap_Row_leap_Row_leap_New_2 : PSh := ⟨[], [.mk false [.v (.sl (.pair (.int .i64) (.int .i64)))], .mk false [.fn 71 []]]⟩
@[reducible] def po_slices_ContainsFunc_leap_Row_leap_Row_leap_New_2 : PSh := ⟨[], [.mk false [vB]]⟩
def f_slices_ContainsFunc_leap_Row_leap_Row_leap_New_2_m (T : Unit) (d : Unit × (((List (Int × Int)) × Unit) × (Unit × Unit))) : Option (Unit × ((Bool × Unit) × Unit)) :=
  (g_slices_IndexFunc_leap_Row_leap_Row_leap_New_2 ((), (d.2.1, ((), ())))).bind fun x1 =>
  let x2 : Bool := (decide (x1.2.1.1 ≥ (0 : Int)))
  some ((), ((x2, ()), ()))
def g_slices_ContainsFunc_leap_Row_leap_Row_leap_New_2 (d : Unit × (((List (Int × Int)) × Unit) × (Unit × Unit))) : Option (Unit × ((Bool × Unit) × Unit)) := f_slices_ContainsFunc_leap_Row_leap_Row_leap_New_2_m () d
theorem ok_slices_ContainsFunc_leap_Row_leap_Row_leap_New_2 : FnOk Tryz.prog ET0 73 pi_slices_ContainsFunc_leap_Row_leap_Row_leap_New_2 po_slices_ContainsFunc_leap_Row_leap_Row_leap_New_2 g_slices_ContainsFunc_leap_Row_leap_Row_leap_New_2 :=
  fn0 (E := (E0.add 150 (typedSem pi_slices_IndexFunc_leap_Row_leap_Row_leap_New_2 po_slices_IndexFunc_leap_Row_leap_Row_leap_New_2 g_slices_IndexFunc_leap_Row_leap_Row_leap_New_2))) (envOk_add e0_ok (typed_ok ok_slices_IndexFunc_leap_Row_leap_Row_leap_New_2)) (fn := Tryz.f73) Tryz.func73 (by kernel_rfl) (by kernel_rfl) [.tmp 4] (by kernel_rfl) rfl rfl rfl [] fun d => by kernel_rfl

@[reducible] def pi_leap_New : PSh := ⟨[], [.mk false [.v (.sl (.pair (.int .i64) (.int .i64)))], .mk false [vI], .mk false [vI]]⟩
@[reducible] def po_leap_New : PSh := ⟨[], [.mk false [.v (.nptr (.pair (.sl (.pair (.int .i64) (.int .i64))) (.pair (.int .i64) (.int .i64))))], .mk false [vE]]⟩
def f_leap_New_m (T : Unit) (d : Unit × (((List (Int × Int)) × Unit) × ((Int × Unit) × ((Int × Unit) × Unit)))) : Option (Unit × (((Option ((List (Int × Int)) × (Int × Int))) × Unit) × (((Option Int) × Unit) × Unit))) :=
  let x1 : Int := (d.2.1.1.length : Int)
  let x2 : Bool := (x1 == (0 : Int))
  bif x2 then (
  let x3 : (Option Int) := (some (8 : Int))
  some ((), (((none : Option ((List (Int × Int)) × (Int × Int))), ()), ((x3, ()), ()))))
  else (
  let x4 : Int := (d.2.1.1.length : Int)
  let x5 : Bool := (decide (x4 > (256 : Int)))
  bif x5 then (
  let x6 : (Option Int) := (some (3 : Int))
  some ((), (((none : Option ((List (Int × Int)) × (Int × Int))), ()), ((x6, ()), ()))))
  else (
  (g_slices_ContainsFunc_leap_Row_leap_Row_leap_New_1 ((), (d.2.1, ((), ())))).bind fun x7 =>
  bif x7.2.1.1 then (
  let x8 : (Option Int) := (some (13 : Int))
  some ((), (((none : Option ((List (Int × Int)) × (Int × Int))), ()), ((x8, ()), ()))))
  else (
  (g_slices_ContainsFunc_leap_Row_leap_Row_leap_New_2 ((), (d.2.1, ((), ())))).bind fun x9 =>
  bif x9.2.1.1 then (
  let x10 : (Option Int) := (some (1 : Int))
  some ((), (((none : Option ((List (Int × Int)) × (Int × Int))), ()), ((x10, ()), ()))))
  else (
  (g_leap_time ((), (d.2.2.1, ()))).bind fun x11 =>
  let x12 : Bool := (!x11.2.1.1)
  bif x12 then (
  let x13 : (Option Int) := (some (1 : Int))
  some ((), (((none : Option ((List (Int × Int)) × (Int × Int))), ()), ((x13, ()), ()))))
  else (
  (g_leap_time ((), d.2.2.2)).bind fun x14 =>
  let x15 : Bool := (!x14.2.1.1)
  bif x15 then (
  let x16 : (Option Int) := (some (1 : Int))
  some ((), (((none : Option ((List (Int × Int)) × (Int × Int))), ()), ((x16, ()), ()))))
  else (
  (g_leap_rise ((), (d.2.1, ()))).bind fun x17 =>
  let x18 : Bool := (!x17.2.1.1)
  bif x18 then (
  let x19 : (Option Int) := (some (6 : Int))
  some ((), (((none : Option ((List (Int × Int)) × (Int × Int))), ()), ((x19, ()), ()))))
  else (
  (g_slices_Clone_leap_Row_leap_Row ((), (d.2.1, ()))).bind fun x20 =>
  some ((), (((some (x20.1.1, (d.2.2.1.1, d.2.2.2.1.1))), ()), (((none : Option Int), ()), ()))))))))))
def g_leap_New (d : Unit × (((List (Int × Int)) × Unit) × ((Int × Unit) × ((Int × Unit) × Unit)))) : Option (Unit × (((Option ((List (Int × Int)) × (Int × Int))) × Unit) × (((Option Int) × Unit) × Unit))) := f_leap_New_m () d
theorem ok_leap_New : FnOk Tryz.prog ET0 18 pi_leap_New po_leap_New g_leap_New :=
  fn0 (E := ((((E0.add 73 (altSem pi_slices_ContainsFunc_leap_Row_leap_Row_leap_New_1 (typedSem pi_slices_ContainsFunc_leap_Row_leap_Row_leap_New_1 po_slices_ContainsFunc_leap_Row_leap_Row_leap_New_1 g_slices_ContainsFunc_leap_Row_leap_Row_leap_New_1) (typedSem pi_slices_ContainsFunc_leap_Row_leap_Row_leap_New_2 po_slices_ContainsFunc_leap_Row_leap_Row_leap_New_2 g_slices_ContainsFunc_leap_Row_leap_Row_leap_New_2))).add 74 (typedSem pi_leap_time po_leap_time g_leap_time)).add 75 (typedSem pi_leap_rise po_leap_rise g_leap_rise)).add 76 (typedSem pi_slices_Clone_leap_Row_leap_Row po_slices_Clone_leap_Row_leap_Row g_slices_Clone_leap_Row_leap_Row))) (envOk_add (envOk_add (envOk_add (envOk_add e0_ok (alt_ok (typed_ok ok_slices_ContainsFunc_leap_Row_leap_Row_leap_New_1) (typed_ok ok_slices_ContainsFunc_leap_Row_leap_Row_leap_New_2))) (typed_ok ok_leap_time)) (typed_ok ok_leap_rise)) (typed_ok ok_slices_Clone_leap_Row_leap_Row)) (fn := Tryz.f18) Tryz.func18 (by kernel_rfl) (by kernel_rfl) [.tmp 6, .tmp 7] (by kernel_rfl) rfl rfl rfl [] fun d => by kernel_rfl

@[reducible] def pi_law10_Document : PSh := ⟨[], [.mk true [.v (.sl (.pair (.int .i64) (.int .i64))), vI, vI]]⟩
@[reducible] def po_law10_Document : PSh := ⟨[.row 121 (.pair (.int .i64) (.int .i64))], [.mk true [.osl 0, vI, vI]]⟩
@[reducible] def TT_law10_Document : Type := (((((Int × (Int × Unit)) × ((List (Int × Int)) × ((Int × (Int × Unit)) × ((List (Int × Int)) × Unit)))) × (Unit × (Unit × (((List (Int × Int)) × Unit) × ((Int × Unit) × ((Int × Unit) × Unit)))))) → Option (((List (Int × Int)) × Unit) × ((Int × (Int × Unit)) × Unit))) × Unit)
@[reducible] def sh_law10_Document_4 : PSh := ⟨[.var 41 [.osl 1, vI, vI], .row 121 (.pair (.int .i64) (.int .i64)), .var 41 [.osl 3, vI, vI], .row 121 (.pair (.int .i64) (.int .i64))], [.any, .any, .mk false [.ref 0 0], .mk false [.ref 2 0], .any, .any, .any, .any, .any, .any, .any, .any, .mk false [.v (.sl (.pair (.int .i64) (.int .i64)))], .mk false [vI], .mk false [vI], .any, .any, .any, .any, .any, .any, .any, .any, .any, .any, .any, .any, .any, .any, .any]⟩
def f_law10_Document_p4 (T : TT_law10_Document) (d : ((Int × (Int × Unit)) × ((List (Int × Int)) × ((Int × (Int × Unit)) × ((List (Int × Int)) × Unit)))) × (Unit × (Unit × (((List (Int × Int)) × Unit) × ((Int × Unit) × ((Int × Unit) × Unit)))))) : Option (((List (Int × Int)) × Unit) × ((Int × (Int × Unit)) × Unit)) :=
  let x2 : Bool := (decide (d.2.2.2.2.2.1.1 < d.2.2.2.2.1.1))
  bif x2 then (
  bif decide ((0 : Int) ≤ d.2.2.2.2.2.1.1) && decide (d.2.2.2.2.2.1.1 < (d.2.2.2.1.1.length : Int)) then (
  let x3 : (List (Int × Int)) := ([((gd_i64_i64 d.2.2.2.1.1 d.2.2.2.2.2.1.1).1, (gd_i64_i64 d.2.2.2.1.1 d.2.2.2.2.2.1.1).2)] : List (Int × Int))
  bif decide (((d.1.2.2.2.1.length + x3.length) * 16 : Nat) ≤ 140737488355328) && decide (d.1.2.2.2.1.length + x3.length ≤ 9223372036854775807) then (
  let x4 : (List (Int × Int)) := (d.1.2.2.2.1 ++ x3)
  let x5 : Int := (iadd .i64 d.2.2.2.2.2.1.1 (1 : Int))
  (T.1 ((d.1.1, (d.1.2.1, (d.1.2.2.1, (x4, ())))), ((), ((), (d.2.2.2.1, (d.2.2.2.2.1, ((x5, ()), ()))))))))
  else none)
  else none)
  else (
  some (d.1.2.2.2, (d.1.2.2.1, ())))
def f_law10_Document_t : Nat → TT_law10_Document
  | 0 => (fun _ => none, ())
  | k + 1 => (f_law10_Document_p4 (f_law10_Document_t k), ())
theorem t_law10_Document (k : Nat) : f_law10_Document_t (k + 1) = (f_law10_Document_p4 (f_law10_Document_t k), ()) := rfl
def f_law10_Document_m (T : TT_law10_Document) (d : Unit × (((List (Int × Int)) × (Int × (Int × Unit))) × Unit)) : Option (((List (Int × Int)) × Unit) × ((Int × (Int × Unit)) × Unit)) :=
  let x1 : Int := (d.2.1.1.length : Int)
  (T.1 ((((0 : Int), ((0 : Int), ())), (([] : List (Int × Int)), (d.2.1.2, (([] : List (Int × Int)), ())))), ((), ((), ((d.2.1.1, ()), ((x1, ()), (((0 : Int), ()), ())))))))
def c_law10_Document : List Nat := []
def L_law10_Document (k : Nat) : Pts po_law10_Document.den := [(4, ⟨sh_law10_Document_4, (f_law10_Document_t k).1⟩)]
def R_law10_Document (_ : Nat) : PtsR po_law10_Document.den := []
def E_law10_Document : Env := E0
theorem q_law10_Document_4 (k : Nat) (d : sh_law10_Document_4.den) : evAt E_law10_Document (tb (L_law10_Document k) (R_law10_Document k)) c_law10_Document 4 (bodyOf Tryz.f61) 0 (finK E_law10_Document po_law10_Document [.cell 2 41]) (ptSt sh_law10_Document_4 d) = f_law10_Document_p4 (f_law10_Document_t k) d := by kernel_rfl
theorem q_law10_Document_m (k : Nat) (d : pi_law10_Document.den) : evCode E_law10_Document (tb (L_law10_Document k) (R_law10_Document k)) c_law10_Document (bodyOf Tryz.f61) 0 (finK E_law10_Document po_law10_Document [.cell 2 41]) (startSt pi_law10_Document 30 d) = f_law10_Document_m (f_law10_Document_t k) d := by kernel_rfl
def g_law10_Document (d : Unit × (((List (Int × Int)) × (Int × (Int × Unit))) × Unit)) : Option (((List (Int × Int)) × Unit) × ((Int × (Int × Unit)) × Unit)) := lim fun k => f_law10_Document_m (f_law10_Document_t k) d
theorem ok_law10_Document : FnOk Tryz.prog ET0 61 pi_law10_Document po_law10_Document g_law10_Document :=
  fn_of_body (E := E_law10_Document) e0_ok (fn := Tryz.f61) Tryz.func61 (by kernel_rfl) (by kernel_rfl) [.cell 2 41] (by kernel_rfl) (by kernel_rfl) (by decide) rfl c_law10_Document L_law10_Document R_law10_Document
    (by intro x hx d; simp only [L_law10_Document, List.mem_cons, List.not_mem_nil, or_false] at hx; subst hx; rfl)
    (by intro k x hx d out h; simp only [L_law10_Document, List.mem_cons, List.not_mem_nil, or_false] at hx; subst hx; exact (q_law10_Document_4 k d).trans h)
    (by intro x hx; cases hx)
    (by intro k x hx; cases hx)
    (by intro d out h; obtain ⟨k, hk⟩ := lim_some h; exact ⟨k, (q_law10_Document_m k d).trans hk⟩)

@[reducible] def pi_law10_Made : PSh := ⟨[], [.mk true [.v (.sl (.pair (.int .i64) (.int .i64))), vI, vI]]⟩
@[reducible] def po_law10_Made : PSh := ⟨[.row 121 (.pair (.int .i64) (.int .i64))], [.mk false [.v (.nptr (.pair (.sl (.pair (.int .i64) (.int .i64))) (.pair (.int .i64) (.int .i64))))], .mk true [.osl 0, vI, vI], .mk false [vB]]⟩
def f_law10_Made_m (T : Unit) (d : Unit × (((List (Int × Int)) × (Int × (Int × Unit))) × Unit)) : Option (((List (Int × Int)) × Unit) × (((Option ((List (Int × Int)) × (Int × Int))) × Unit) × ((Int × (Int × Unit)) × ((Bool × Unit) × Unit)))) :=
  (g_leap_New ((), ((d.2.1.1, ()), ((d.2.1.2.1, ()), (d.2.1.2.2, ()))))).bind fun x1 =>
  (g_law10_Document ((), d.2)).bind fun x2 =>
  bif x1.2.2.1.1.isNone then (
  let x3 : Bool := (!x1.2.1.1.isNone)
  bif x3 then (
  (g_ref10_Check ((), ((x2.1.1, x2.2.1), ()))).bind fun x4 =>
  let x5 : Bool := (x4.2.1.1 == (0 : Int))
  some (x2.1, (x1.2.1, (x2.2.1, ((x5, ()), ())))))
  else (
  some (x2.1, (x1.2.1, (x2.2.1, ((false, ()), ()))))))
  else (
  some (x2.1, (x1.2.1, (x2.2.1, ((false, ()), ())))))
def g_law10_Made (d : Unit × (((List (Int × Int)) × (Int × (Int × Unit))) × Unit)) : Option (((List (Int × Int)) × Unit) × (((Option ((List (Int × Int)) × (Int × Int))) × Unit) × ((Int × (Int × Unit)) × ((Bool × Unit) × Unit)))) := f_law10_Made_m () d
theorem ok_law10_Made : FnOk Tryz.prog ET0 12 pi_law10_Made po_law10_Made g_law10_Made :=
  fn0 (E := (((E0.add 13 (typedSem pi_ref10_Check po_ref10_Check g_ref10_Check)).add 18 (typedSem pi_leap_New po_leap_New g_leap_New)).add 61 (typedSem pi_law10_Document po_law10_Document g_law10_Document))) (envOk_add (envOk_add (envOk_add e0_ok (typed_ok ok_ref10_Check)) (typed_ok ok_leap_New)) (typed_ok ok_law10_Document)) (fn := Tryz.f12) Tryz.func12 (by kernel_rfl) (by kernel_rfl) [.tmp 2, .cell 3 41, .tmp 4] (by kernel_rfl) rfl rfl rfl [] fun d => by kernel_rfl

@[reducible] def pi_label_Split : PSh := ⟨[], [.mk true [vI, vI, vI, vI, vI, vI, vI, vI]]⟩
@[reducible] def po_label_Split : PSh := ⟨[], [.mk false [vI], .mk false [vI], .mk false [vE]]⟩
def f_label_Split_m (T : Unit) (d : Unit × ((Int × (Int × (Int × (Int × (Int × (Int × (Int × (Int × Unit)))))))) × Unit)) : Option (Unit × ((Int × Unit) × ((Int × Unit) × (((Option Int) × Unit) × Unit)))) :=
  (g_label_Check ((), d.2)).bind fun x1 =>
  let x2 : Bool := (!x1.2.1.1.isNone)
  bif x2 then (
  some ((), (((0 : Int), ()), (((0 : Int), ()), x1.2))))
  else (
  (g_label_Label_place ((), d.2)).bind fun x3 =>
  let x4 : Bool := (!x3.2.2.2.1.1.isNone)
  bif x4 then (
  some ((), (((0 : Int), ()), (((0 : Int), ()), x3.2.2.2))))
  else (
  let x5 : Int := (imul .i64 x3.2.2.1.1 (60 : Int))
  let x6 : Int := (iadd .i64 x5 d.2.1.2.2.2.2.2.1)
  some ((), (x3.2.1, ((x6, ()), (((none : Option Int), ()), ()))))))
def g_label_Split (d : Unit × ((Int × (Int × (Int × (Int × (Int × (Int × (Int × (Int × Unit)))))))) × Unit)) : Option (Unit × ((Int × Unit) × ((Int × Unit) × (((Option Int) × Unit) × Unit)))) := f_label_Split_m () d
theorem ok_label_Split : FnOk Tryz.prog ET0 23 pi_label_Split po_label_Split g_label_Split :=
  fn0 (E := ((E0.add 51 (typedSem pi_label_Check po_label_Check g_label_Check)).add 84 (typedSem pi_label_Label_place po_label_Label_place g_label_Label_place))) (envOk_add (envOk_add e0_ok (typed_ok ok_label_Check)) (typed_ok ok_label_Label_place)) (fn := Tryz.f23) Tryz.func23 (by kernel_rfl) (by kernel_rfl) [.tmp 2, .tmp 3, .tmp 4] (by kernel_rfl) rfl rfl rfl [] fun d => by kernel_rfl

@[reducible] def pi_leap_Table_list : PSh := ⟨[], [.mk false [.v (.nptr (.pair (.sl (.pair (.int .i64) (.int .i64))) (.pair (.int .i64) (.int .i64))))]]⟩
@[reducible] def po_leap_Table_list : PSh := ⟨[], [.mk false [.v (.sl (.pair (.int .i64) (.int .i64)))]]⟩
def f_leap_Table_list_m (T : Unit) (d : Unit × (((Option ((List (Int × Int)) × (Int × Int))) × Unit) × Unit)) : Option (Unit × (((List (Int × Int)) × Unit) × Unit)) :=
  bif d.2.1.1.isNone then (
  some ((), ((([] : List (Int × Int)), ()), ())))
  else (
  d.2.1.1.bind fun x1 =>
  some ((), ((x1.1, ()), ())))
def g_leap_Table_list (d : Unit × (((Option ((List (Int × Int)) × (Int × Int))) × Unit) × Unit)) : Option (Unit × (((List (Int × Int)) × Unit) × Unit)) := f_leap_Table_list_m () d
theorem ok_leap_Table_list : FnOk Tryz.prog ET0 209 pi_leap_Table_list po_leap_Table_list g_leap_Table_list :=
  fn0 (E := E0) e0_ok (fn := Tryz.f209) Tryz.func209 (by kernel_rfl) (by kernel_rfl) [.tmp 2] (by kernel_rfl) rfl rfl rfl [] fun d => by kernel_rfl

@[reducible] def pi_leap_Table_Len : PSh := ⟨[], [.mk false [.v (.nptr (.pair (.sl (.pair (.int .i64) (.int .i64))) (.pair (.int .i64) (.int .i64))))]]⟩
@[reducible] def po_leap_Table_Len : PSh := ⟨[], [.mk false [vI]]⟩
def f_leap_Table_Len_m (T : Unit) (d : Unit × (((Option ((List (Int × Int)) × (Int × Int))) × Unit) × Unit)) : Option (Unit × ((Int × Unit) × Unit)) :=
  (g_leap_Table_list ((), d.2)).bind fun x1 =>
  let x2 : Int := (x1.2.1.1.length : Int)
  some ((), ((x2, ()), ()))
def g_leap_Table_Len (d : Unit × (((Option ((List (Int × Int)) × (Int × Int))) × Unit) × Unit)) : Option (Unit × ((Int × Unit) × Unit)) := f_leap_Table_Len_m () d
theorem ok_leap_Table_Len : FnOk Tryz.prog ET0 207 pi_leap_Table_Len po_leap_Table_Len g_leap_Table_Len :=
  fn0 (E := (E0.add 209 (typedSem pi_leap_Table_list po_leap_Table_list g_leap_Table_list))) (envOk_add e0_ok (typed_ok ok_leap_Table_list)) (fn := Tryz.f207) Tryz.func207 (by kernel_rfl) (by kernel_rfl) [.tmp 2] (by kernel_rfl) rfl rfl rfl [] fun d => by kernel_rfl

@[reducible] def pi_leap_Table_Row : PSh := ⟨[], [.mk false [.v (.nptr (.pair (.sl (.pair (.int .i64) (.int .i64))) (.pair (.int .i64) (.int .i64))))], .mk false [vI]]⟩
@[reducible] def po_leap_Table_Row : PSh := ⟨[], [.mk true [vI, vI], .mk false [vB]]⟩
def f_leap_Table_Row_m (T : Unit) (d : Unit × (((Option ((List (Int × Int)) × (Int × Int))) × Unit) × ((Int × Unit) × Unit))) : Option (Unit × ((Int × (Int × Unit)) × ((Bool × Unit) × Unit))) :=
  let x1 : Bool := (decide (d.2.2.1.1 < (0 : Int)))
  bif x1 then (
  some ((), (((0 : Int), ((0 : Int), ())), ((false, ()), ()))))
  else (
  (g_leap_Table_Len ((), (d.2.1, ()))).bind fun x2 =>
  let x3 : Bool := (decide (d.2.2.1.1 ≥ x2.2.1.1))
  bif x3 then (
  some ((), (((0 : Int), ((0 : Int), ())), ((false, ()), ()))))
  else (
  d.2.1.1.bind fun x4 =>
  bif decide ((0 : Int) ≤ d.2.2.1.1) && decide (d.2.2.1.1 < (x4.1.length : Int)) then (
  some ((), (((gd_i64_i64 x4.1 d.2.2.1.1).1, ((gd_i64_i64 x4.1 d.2.2.1.1).2, ())), ((true, ()), ()))))
  else none))
def g_leap_Table_Row (d : Unit × (((Option ((List (Int × Int)) × (Int × Int))) × Unit) × ((Int × Unit) × Unit))) : Option (Unit × ((Int × (Int × Unit)) × ((Bool × Unit) × Unit))) := f_leap_Table_Row_m () d
theorem ok_leap_Table_Row : FnOk Tryz.prog ET0 167 pi_leap_Table_Row po_leap_Table_Row g_leap_Table_Row :=
  fn0 (E := (E0.add 207 (typedSem pi_leap_Table_Len po_leap_Table_Len g_leap_Table_Len))) (envOk_add e0_ok (typed_ok ok_leap_Table_Len)) (fn := Tryz.f167) Tryz.func167 (by kernel_rfl) (by kernel_rfl) [.cell 4 130, .tmp 5] (by kernel_rfl) rfl rfl rfl [] fun d => by kernel_rfl

@[reducible] def pi_leap_Table_behind_1 : PSh := ⟨[], [.mk true [vI, vI], .mk false [vI]]⟩
@[reducible] def po_leap_Table_behind_1 : PSh := ⟨[], [.mk false [vI]]⟩
def f_leap_Table_behind_1_m (T : Unit) (d : Unit × ((Int × (Int × Unit)) × ((Int × Unit) × Unit))) : Option (Unit × ((Int × Unit) × Unit)) :=
  let x1 : Bool := (decide (d.2.1.1 < d.2.2.1.1))
  bif x1 then (
  some ((), (((-1 : Int), ()), ())))
  else (
  let x2 : Bool := (decide (d.2.1.1 > d.2.2.1.1))
  bif x2 then (
  some ((), (((1 : Int), ()), ())))
  else (
  some ((), (((0 : Int), ()), ()))))
def g_leap_Table_behind_1 (d : Unit × ((Int × (Int × Unit)) × ((Int × Unit) × Unit))) : Option (Unit × ((Int × Unit) × Unit)) := f_leap_Table_behind_1_m () d
theorem ok_leap_Table_behind_1 : FnOk Tryz.prog ET0 210 pi_leap_Table_behind_1 po_leap_Table_behind_1 g_leap_Table_behind_1 :=
  fn0 (E := E0) e0_ok (fn := Tryz.f210) Tryz.func210 (by kernel_rfl) (by kernel_rfl) [.tmp 4] (by kernel_rfl) rfl rfl rfl [] fun d => by kernel_rfl

@[reducible] def pi_slices_BinarySearchFunc_leap_Row_leap_Row_i64_leap_Table_behind_1 : PSh := ⟨[], [.mk false [.v (.sl (.pair (.int .i64) (.int .i64)))], .mk false [vI], .mk false [.fn 210 []]]⟩
@[reducible] def po_slices_BinarySearchFunc_leap_Row_leap_Row_i64_leap_Table_behind_1 : PSh := ⟨[], [.mk false [vI], .mk false [vB]]⟩
@[reducible] def TT_slices_BinarySearchFunc_leap_Row_leap_Row_i64_leap_Table_behind_1 : Type := (((Unit × (((List (Int × Int)) × Unit) × ((Int × Unit) × (Unit × ((Int × Unit) × ((Int × Unit) × ((Int × Unit) × Unit))))))) → Option (Unit × ((Int × Unit) × ((Bool × Unit) × Unit)))) × Unit)
@[reducible] def sh_slices_BinarySearchFunc_leap_Row_leap_Row_i64_leap_Table_behind_1_4 : PSh := ⟨[], [.mk false [.v (.sl (.pair (.int .i64) (.int .i64)))], .mk false [vI], .mk false [.fn 210 []], .any, .any, .any, .any, .any, .mk false [vI], .mk false [vI], .mk false [vI], .any, .any, .any, .any, .any, .any, .any, .any, .any, .any, .any, .any, .any, .any, .any, .any, .any, .any, .any, .any, .any, .any, .any, .any, .any, .any, .any, .any, .any, .any, .any, .any, .any, .any, .any, .any, .any, .any]⟩
def f_slices_BinarySearchFunc_leap_Row_leap_Row_i64_leap_Table_behind_1_p4 (T : TT_slices_BinarySearchFunc_leap_Row_leap_Row_i64_leap_Table_behind_1) (d : Unit × (((List (Int × Int)) × Unit) × ((Int × Unit) × (Unit × ((Int × Unit) × ((Int × Unit) × ((Int × Unit) × Unit))))))) : Option (Unit × ((Int × Unit) × ((Bool × Unit) × Unit))) :=
  let x2 : Bool := (decide (d.2.2.2.2.2.1.1 < d.2.2.2.2.2.2.1.1))
  bif x2 then (
  let x3 : Int := (iadd .i64 d.2.2.2.2.2.1.1 d.2.2.2.2.2.2.1.1)
  let x4 : Int := (iconv .u64 x3)
  let x5 : Int := (ishr .u64 x4 (1 : Int))
  let x6 : Int := (iconv .i64 x5)
  bif decide ((0 : Int) ≤ x6) && decide (x6 < (d.2.1.1.length : Int)) then (
  (g_leap_Table_behind_1 ((), (((gd_i64_i64 d.2.1.1 x6).1, ((gd_i64_i64 d.2.1.1 x6).2, ())), (d.2.2.1, ())))).bind fun x7 =>
  let x8 : Bool := (decide (x7.2.1.1 < (0 : Int)))
  bif x8 then (
  let x9 : Int := (iadd .i64 x6 (1 : Int))
  (T.1 ((), (d.2.1, (d.2.2.1, ((), (d.2.2.2.2.1, ((x9, ()), d.2.2.2.2.2.2))))))))
  else (
  (T.1 ((), (d.2.1, (d.2.2.1, ((), (d.2.2.2.2.1, (d.2.2.2.2.2.1, ((x6, ()), ()))))))))))
  else none)
  else (
  let x10 : Bool := (decide (d.2.2.2.2.2.1.1 < d.2.2.2.2.1.1))
  bif x10 then (
  bif decide ((0 : Int) ≤ d.2.2.2.2.2.1.1) && decide (d.2.2.2.2.2.1.1 < (d.2.1.1.length : Int)) then (
  (g_leap_Table_behind_1 ((), (((gd_i64_i64 d.2.1.1 d.2.2.2.2.2.1.1).1, ((gd_i64_i64 d.2.1.1 d.2.2.2.2.2.1.1).2, ())), (d.2.2.1, ())))).bind fun x11 =>
  let x12 : Bool := (x11.2.1.1 == (0 : Int))
  some ((), (d.2.2.2.2.2.1, ((x12, ()), ()))))
  else none)
  else (
  some ((), (d.2.2.2.2.2.1, ((false, ()), ())))))
def f_slices_BinarySearchFunc_leap_Row_leap_Row_i64_leap_Table_behind_1_t : Nat → TT_slices_BinarySearchFunc_leap_Row_leap_Row_i64_leap_Table_behind_1
  | 0 => (fun _ => none, ())
  | k + 1 => (f_slices_BinarySearchFunc_leap_Row_leap_Row_i64_leap_Table_behind_1_p4 (f_slices_BinarySearchFunc_leap_Row_leap_Row_i64_leap_Table_behind_1_t k), ())
theorem t_slices_BinarySearchFunc_leap_Row_leap_Row_i64_leap_Table_behind_1 (k : Nat) : f_slices_BinarySearchFunc_leap_Row_leap_Row_i64_leap_Table_behind_1_t (k + 1) = (f_slices_BinarySearchFunc_leap_Row_leap_Row_i64_leap_Table_behind_1_p4 (f_slices_BinarySearchFunc_leap_Row_leap_Row_i64_leap_Table_behind_1_t k), ()) := rfl
def f_slices_BinarySearchFunc_leap_Row_leap_Row_i64_leap_Table_behind_1_m (T : TT_slices_BinarySearchFunc_leap_Row_leap_Row_i64_leap_Table_behind_1) (d : Unit × (((List (Int × Int)) × Unit) × ((Int × Unit) × (Unit × Unit)))) : Option (Unit × ((Int × Unit) × ((Bool × Unit) × Unit))) :=
  let x1 : Int := (d.2.1.1.length : Int)
  (T.1 ((), (d.2.1, (d.2.2.1, ((), ((x1, ()), (((0 : Int), ()), ((x1, ()), ()))))))))
def c_slices_BinarySearchFunc_leap_Row_leap_Row_i64_leap_Table_behind_1 : List Nat := []
def L_slices_BinarySearchFunc_leap_Row_leap_Row_i64_leap_Table_behind_1 (k : Nat) : Pts po_slices_BinarySearchFunc_leap_Row_leap_Row_i64_leap_Table_behind_1.den := [(4, ⟨sh_slices_BinarySearchFunc_leap_Row_leap_Row_i64_leap_Table_behind_1_4, (f_slices_BinarySearchFunc_leap_Row_leap_Row_i64_leap_Table_behind_1_t k).1⟩)]
def R_slices_BinarySearchFunc_leap_Row_leap_Row_i64_leap_Table_behind_1 (_ : Nat) : PtsR po_slices_BinarySearchFunc_leap_Row_leap_Row_i64_leap_Table_behind_1.den := []
def E_slices_BinarySearchFunc_leap_Row_leap_Row_i64_leap_Table_behind_1 : Env := (E0.add 210 (typedSem pi_leap_Table_behind_1 po_leap_Table_behind_1 g_leap_Table_behind_1))
theorem q_slices_BinarySearchFunc_leap_Row_leap_Row_i64_leap_Table_behind_1_4 (k : Nat) (d : sh_slices_BinarySearchFunc_leap_Row_leap_Row_i64_leap_Table_behind_1_4.den) : evAt E_slices_BinarySearchFunc_leap_Row_leap_Row_i64_leap_Table_behind_1 (tb (L_slices_BinarySearchFunc_leap_Row_leap_Row_i64_leap_Table_behind_1 k) (R_slices_BinarySearchFunc_leap_Row_leap_Row_i64_leap_Table_behind_1 k)) c_slices_BinarySearchFunc_leap_Row_leap_Row_i64_leap_Table_behind_1 4 (bodyOf Tryz.f208) 0 (finK E_slices_BinarySearchFunc_leap_Row_leap_Row_i64_leap_Table_behind_1 po_slices_BinarySearchFunc_leap_Row_leap_Row_i64_leap_Table_behind_1 [.tmp 6, .tmp 7]) (ptSt sh_slices_BinarySearchFunc_leap_Row_leap_Row_i64_leap_Table_behind_1_4 d) = f_slices_BinarySearchFunc_leap_Row_leap_Row_i64_leap_Table_behind_1_p4 (f_slices_BinarySearchFunc_leap_Row_leap_Row_i64_leap_Table_behind_1_t k) d := by kernel_rfl
theorem q_slices_BinarySearchFunc_leap_Row_leap_Row_i64_leap_Table_behind_1_m (k : Nat) (d : pi_slices_BinarySearchFunc_leap_Row_leap_Row_i64_leap_Table_behind_1.den) : evCode E_slices_BinarySearchFunc_leap_Row_leap_Row_i64_leap_Table_behind_1 (tb (L_slices_BinarySearchFunc_leap_Row_leap_Row_i64_leap_Table_behind_1 k) (R_slices_BinarySearchFunc_leap_Row_leap_Row_i64_leap_Table_behind_1 k)) c_slices_BinarySearchFunc_leap_Row_leap_Row_i64_leap_Table_behind_1 (bodyOf Tryz.f208) 0 (finK E_slices_BinarySearchFunc_leap_Row_leap_Row_i64_leap_Table_behind_1 po_slices_BinarySearchFunc_leap_Row_leap_Row_i64_leap_Table_behind_1 [.tmp 6, .tmp 7]) (startSt pi_slices_BinarySearchFunc_leap_Row_leap_Row_i64_leap_Table_behind_1 49 d) = f_slices_BinarySearchFunc_leap_Row_leap_Row_i64_leap_Table_behind_1_m (f_slices_BinarySearchFunc_leap_Row_leap_Row_i64_leap_Table_behind_1_t k) d := by kernel_rfl
def g_slices_BinarySearchFunc_leap_Row_leap_Row_i64_leap_Table_behind_1 (d : Unit × (((List (Int × Int)) × Unit) × ((Int × Unit) × (Unit × Unit)))) : Option (Unit × ((Int × Unit) × ((Bool × Unit) × Unit))) := lim fun k => f_slices_BinarySearchFunc_leap_Row_leap_Row_i64_leap_Table_behind_1_m (f_slices_BinarySearchFunc_leap_Row_leap_Row_i64_leap_Table_behind_1_t k) d
theorem ok_slices_BinarySearchFunc_leap_Row_leap_Row_i64_leap_Table_behind_1 : FnOk Tryz.prog ET0 208 pi_slices_BinarySearchFunc_leap_Row_leap_Row_i64_leap_Table_behind_1 po_slices_BinarySearchFunc_leap_Row_leap_Row_i64_leap_Table_behind_1 g_slices_BinarySearchFunc_leap_Row_leap_Row_i64_leap_Table_behind_1 :=
  fn_of_body (E := E_slices_BinarySearchFunc_leap_Row_leap_Row_i64_leap_Table_behind_1) (envOk_add e0_ok (typed_ok ok_leap_Table_behind_1)) (fn := Tryz.f208) Tryz.func208 (by kernel_rfl) (by kernel_rfl) [.tmp 6, .tmp 7] (by kernel_rfl) (by kernel_rfl) (by decide) rfl c_slices_BinarySearchFunc_leap_Row_leap_Row_i64_leap_Table_behind_1 L_slices_BinarySearchFunc_leap_Row_leap_Row_i64_leap_Table_behind_1 R_slices_BinarySearchFunc_leap_Row_leap_Row_i64_leap_Table_behind_1
    (by intro x hx d; simp only [L_slices_BinarySearchFunc_leap_Row_leap_Row_i64_leap_Table_behind_1, List.mem_cons, List.not_mem_nil, or_false] at hx; subst hx; rfl)
    (by intro k x hx d out h; simp only [L_slices_BinarySearchFunc_leap_Row_leap_Row_i64_leap_Table_behind_1, List.mem_cons, List.not_mem_nil, or_false] at hx; subst hx; exact (q_slices_BinarySearchFunc_leap_Row_leap_Row_i64_leap_Table_behind_1_4 k d).trans h)
    (by intro x hx; cases hx)
    (by intro k x hx; cases hx)
    (by intro d out h; obtain ⟨k, hk⟩ := lim_some h; exact ⟨k, (q_slices_BinarySearchFunc_leap_Row_leap_Row_i64_leap_Table_behind_1_m k d).trans hk⟩)

@[reducible] def pi_leap_Table_behind : PSh := ⟨[], [.mk false [.v (.nptr (.pair (.sl (.pair (.int .i64) (.int .i64))) (.pair (.int .i64) (.int .i64))))], .mk false [vI]]⟩
@[reducible] def po_leap_Table_behind : PSh := ⟨[], [.mk false [vI]]⟩
def f_leap_Table_behind_m (T : Unit) (d : Unit × (((Option ((List (Int × Int)) × (Int × Int))) × Unit) × ((Int × Unit) × Unit))) : Option (Unit × ((Int × Unit) × Unit)) :=
  (g_leap_Table_list ((), (d.2.1, ()))).bind fun x1 =>
  (g_slices_BinarySearchFunc_leap_Row_leap_Row_i64_leap_Table_behind_1 ((), (x1.2.1, (d.2.2.1, ((), ()))))).bind fun x2 =>
  bif x2.2.2.1.1 then (
  let x3 : Int := (iadd .i64 x2.2.1.1 (1 : Int))
  some ((), ((x3, ()), ())))
  else (
  some ((), (x2.2.1, ())))
def g_leap_Table_behind (d : Unit × (((Option ((List (Int × Int)) × (Int × Int))) × Unit) × ((Int × Unit) × Unit))) : Option (Unit × ((Int × Unit) × Unit)) := f_leap_Table_behind_m () d
theorem ok_leap_Table_behind : FnOk Tryz.prog ET0 168 pi_leap_Table_behind po_leap_Table_behind g_leap_Table_behind :=
  fn0 (E := ((E0.add 208 (typedSem pi_slices_BinarySearchFunc_leap_Row_leap_Row_i64_leap_Table_behind_1 po_slices_BinarySearchFunc_leap_Row_leap_Row_i64_leap_Table_behind_1 g_slices_BinarySearchFunc_leap_Row_leap_Row_i64_leap_Table_behind_1)).add 209 (typedSem pi_leap_Table_list po_leap_Table_list g_leap_Table_list))) (envOk_add (envOk_add e0_ok (typed_ok ok_slices_BinarySearchFunc_leap_Row_leap_Row_i64_leap_Table_behind_1)) (typed_ok ok_leap_Table_list)) (fn := Tryz.f168) Tryz.func168 (by kernel_rfl) (by kernel_rfl) [.tmp 4] (by kernel_rfl) rfl rfl rfl [] fun d => by kernel_rfl

@[reducible] def pi_leap_Table_change : PSh := ⟨[], [.mk false [.v (.nptr (.pair (.sl (.pair (.int .i64) (.int .i64))) (.pair (.int .i64) (.int .i64))))], .mk false [vI]]⟩
@[reducible] def po_leap_Table_change : PSh := ⟨[], [.mk false [vI]]⟩
def f_leap_Table_change_m (T : Unit) (d : Unit × (((Option ((List (Int × Int)) × (Int × Int))) × Unit) × ((Int × Unit) × Unit))) : Option (Unit × ((Int × Unit) × Unit)) :=
  let x1 : Int := (isub .i64 d.2.2.1.1 (1 : Int))
  (g_leap_Table_Row ((), (d.2.1, ((x1, ()), ())))).bind fun x2 =>
  let x3 : Bool := (!x2.2.2.1.1)
  bif x3 then (
  some ((), (((0 : Int), ()), ())))
  else (
  d.2.1.1.bind fun x4 =>
  bif decide ((0 : Int) ≤ d.2.2.1.1) && decide (d.2.2.1.1 < (x4.1.length : Int)) then (
  let x5 : Int := (isub .i64 (gd_i64_i64 x4.1 d.2.2.1.1).2 x2.2.1.2.1)
  some ((), ((x5, ()), ())))
  else none)
def g_leap_Table_change (d : Unit × (((Option ((List (Int × Int)) × (Int × Int))) × Unit) × ((Int × Unit) × Unit))) : Option (Unit × ((Int × Unit) × Unit)) := f_leap_Table_change_m () d
theorem ok_leap_Table_change : FnOk Tryz.prog ET0 225 pi_leap_Table_change po_leap_Table_change g_leap_Table_change :=
  fn0 (E := (E0.add 167 (typedSem pi_leap_Table_Row po_leap_Table_Row g_leap_Table_Row))) (envOk_add e0_ok (typed_ok ok_leap_Table_Row)) (fn := Tryz.f225) Tryz.func225 (by kernel_rfl) (by kernel_rfl) [.tmp 4] (by kernel_rfl) rfl rfl rfl [] fun d => by kernel_rfl

@[reducible] def pi_leap_Table_Leap : PSh := ⟨[], [.mk false [.v (.nptr (.pair (.sl (.pair (.int .i64) (.int .i64))) (.pair (.int .i64) (.int .i64))))], .mk false [vI]]⟩
@[reducible] def po_leap_Table_Leap : PSh := ⟨[], [.mk false [vI]]⟩
def f_leap_Table_Leap_m (T : Unit) (d : Unit × (((Option ((List (Int × Int)) × (Int × Int))) × Unit) × ((Int × Unit) × Unit))) : Option (Unit × ((Int × Unit) × Unit)) :=
  (g_leap_Table_behind ((), d.2)).bind fun x1 =>
  (g_leap_Table_Row ((), (d.2.1, x1.2))).bind fun x2 =>
  let x3 : Bool := (!x2.2.2.1.1)
  bif x3 then (
  some ((), (((0 : Int), ()), ())))
  else (
  let x4 : Int := (isub .i64 x2.2.1.1 (1 : Int))
  let x5 : Bool := (x4 != d.2.2.1.1)
  bif x5 then (
  some ((), (((0 : Int), ()), ())))
  else (
  (g_leap_Table_behind ((), d.2)).bind fun x6 =>
  (g_leap_Table_change ((), (d.2.1, x6.2))).bind fun x7 =>
  some ((), x7.2)))
def g_leap_Table_Leap (d : Unit × (((Option ((List (Int × Int)) × (Int × Int))) × Unit) × ((Int × Unit) × Unit))) : Option (Unit × ((Int × Unit) × Unit)) := f_leap_Table_Leap_m () d
theorem ok_leap_Table_Leap : FnOk Tryz.prog ET0 199 pi_leap_Table_Leap po_leap_Table_Leap g_leap_Table_Leap :=
  fn0 (E := (((E0.add 167 (typedSem pi_leap_Table_Row po_leap_Table_Row g_leap_Table_Row)).add 168 (typedSem pi_leap_Table_behind po_leap_Table_behind g_leap_Table_behind)).add 225 (typedSem pi_leap_Table_change po_leap_Table_change g_leap_Table_change))) (envOk_add (envOk_add (envOk_add e0_ok (typed_ok ok_leap_Table_Row)) (typed_ok ok_leap_Table_behind)) (typed_ok ok_leap_Table_change)) (fn := Tryz.f199) Tryz.func199 (by kernel_rfl) (by kernel_rfl) [.tmp 4] (by kernel_rfl) rfl rfl rfl [] fun d => by kernel_rfl

@[reducible] def pi_leap_Table_Length : PSh := ⟨[], [.mk false [.v (.nptr (.pair (.sl (.pair (.int .i64) (.int .i64))) (.pair (.int .i64) (.int .i64))))], .mk false [vI]]⟩
@[reducible] def po_leap_Table_Length : PSh := ⟨[], [.mk false [vI]]⟩
def f_leap_Table_Length_m (T : Unit) (d : Unit × (((Option ((List (Int × Int)) × (Int × Int))) × Unit) × ((Int × Unit) × Unit))) : Option (Unit × ((Int × Unit) × Unit)) :=
  (g_leap_Table_Leap ((), d.2)).bind fun x1 =>
  let x2 : Int := (iadd .i64 (86400 : Int) x1.2.1.1)
  some ((), ((x2, ()), ()))
def g_leap_Table_Length (d : Unit × (((Option ((List (Int × Int)) × (Int × Int))) × Unit) × ((Int × Unit) × Unit))) : Option (Unit × ((Int × Unit) × Unit)) := f_leap_Table_Length_m () d
theorem ok_leap_Table_Length : FnOk Tryz.prog ET0 152 pi_leap_Table_Length po_leap_Table_Length g_leap_Table_Length :=
  fn0 (E := (E0.add 199 (typedSem pi_leap_Table_Leap po_leap_Table_Leap g_leap_Table_Leap))) (envOk_add e0_ok (typed_ok ok_leap_Table_Leap)) (fn := Tryz.f152) Tryz.func152 (by kernel_rfl) (by kernel_rfl) [.tmp 4] (by kernel_rfl) rfl rfl rfl [] fun d => by kernel_rfl

@[reducible] def pi_leap_Table_Has : PSh := ⟨[], [.mk false [.v (.nptr (.pair (.sl (.pair (.int .i64) (.int .i64))) (.pair (.int .i64) (.int .i64))))], .mk false [vI], .mk false [vI]]⟩
@[reducible] def po_leap_Table_Has : PSh := ⟨[], [.mk false [vB]]⟩
def f_leap_Table_Has_m (T : Unit) (d : Unit × (((Option ((List (Int × Int)) × (Int × Int))) × Unit) × ((Int × Unit) × ((Int × Unit) × Unit)))) : Option (Unit × ((Bool × Unit) × Unit)) :=
  let x1 : Bool := (decide (d.2.2.2.1.1 ≥ (0 : Int)))
  bif x1 then (
  (g_leap_Table_Length ((), (d.2.1, (d.2.2.1, ())))).bind fun x2 =>
  let x3 : Bool := (decide (d.2.2.2.1.1 < x2.2.1.1))
  some ((), ((x3, ()), ())))
  else (
  some ((), ((false, ()), ())))
def g_leap_Table_Has (d : Unit × (((Option ((List (Int × Int)) × (Int × Int))) × Unit) × ((Int × Unit) × ((Int × Unit) × Unit)))) : Option (Unit × ((Bool × Unit) × Unit)) := f_leap_Table_Has_m () d
theorem ok_leap_Table_Has : FnOk Tryz.prog ET0 77 pi_leap_Table_Has po_leap_Table_Has g_leap_Table_Has :=
  fn0 (E := (E0.add 152 (typedSem pi_leap_Table_Length po_leap_Table_Length g_leap_Table_Length))) (envOk_add e0_ok (typed_ok ok_leap_Table_Length)) (fn := Tryz.f77) Tryz.func77 (by kernel_rfl) (by kernel_rfl) [.tmp 6] (by kernel_rfl) rfl rfl rfl [] fun d => by kernel_rfl

@[reducible] def pi_scale_Listed : PSh := ⟨[], [.mk false [.v (.nptr (.pair (.sl (.pair (.int .i64) (.int .i64))) (.pair (.int .i64) (.int .i64))))], .mk true [vI, vI, vI, vI, vI, vI, vI, vI]]⟩
@[reducible] def po_scale_Listed : PSh := ⟨[], [.mk false [vE]]⟩
def f_scale_Listed_m (T : Unit) (d : Unit × (((Option ((List (Int × Int)) × (Int × Int))) × Unit) × ((Int × (Int × (Int × (Int × (Int × (Int × (Int × (Int × Unit)))))))) × Unit))) : Option (Unit × (((Option Int) × Unit) × Unit)) :=
  (g_label_Split ((), d.2.2)).bind fun x1 =>
  let x2 : Bool := (!x1.2.2.2.1.1.isNone)
  bif x2 then (
  some ((), x1.2.2.2))
  else (
  (g_leap_Table_Has ((), (d.2.1, (x1.2.1, (x1.2.2.1, ()))))).bind fun x3 =>
  let x4 : Bool := (!x3.2.1.1)
  bif x4 then (
  let x5 : (Option Int) := (some (12 : Int))
  some ((), ((x5, ()), ())))
  else (
  some ((), (((none : Option Int), ()), ()))))
def g_scale_Listed (d : Unit × (((Option ((List (Int × Int)) × (Int × Int))) × Unit) × ((Int × (Int × (Int × (Int × (Int × (Int × (Int × (Int × Unit)))))))) × Unit))) : Option (Unit × (((Option Int) × Unit) × Unit)) := f_scale_Listed_m () d
theorem ok_scale_Listed : FnOk Tryz.prog ET0 19 pi_scale_Listed po_scale_Listed g_scale_Listed :=
  fn0 (E := ((E0.add 23 (typedSem pi_label_Split po_label_Split g_label_Split)).add 77 (typedSem pi_leap_Table_Has po_leap_Table_Has g_leap_Table_Has))) (envOk_add (envOk_add e0_ok (typed_ok ok_label_Split)) (typed_ok ok_leap_Table_Has)) (fn := Tryz.f19) Tryz.func19 (by kernel_rfl) (by kernel_rfl) [.tmp 4] (by kernel_rfl) rfl rfl rfl [] fun d => by kernel_rfl

@[reducible] def pi_mail_ParseBy : PSh := ⟨[], [.mk false [.v (.nptr (.pair (.sl (.pair (.int .i64) (.int .i64))) (.pair (.int .i64) (.int .i64))))], .mk false [vS]]⟩
@[reducible] def po_mail_ParseBy : PSh := ⟨[], [.mk true [vI, vI, vI, vI, vI, vI, vI, vI], .mk false [vE]]⟩
def f_mail_ParseBy_m (T : Unit) (d : Unit × (((Option ((List (Int × Int)) × (Int × Int))) × Unit) × ((ByteArray × Unit) × Unit))) : Option (Unit × ((Int × (Int × (Int × (Int × (Int × (Int × (Int × (Int × Unit)))))))) × (((Option Int) × Unit) × Unit))) :=
  (g_mail_Parse ((), d.2.2)).bind fun x1 =>
  let x2 : Bool := (!x1.2.2.1.1.isNone)
  bif x2 then (
  some ((), (((0 : Int), ((0 : Int), ((0 : Int), ((0 : Int), ((0 : Int), ((0 : Int), ((0 : Int), ((0 : Int), ())))))))), x1.2.2)))
  else (
  (g_scale_Listed ((), (d.2.1, (x1.2.1, ())))).bind fun x3 =>
  let x4 : Bool := (!x3.2.1.1.isNone)
  bif x4 then (
  some ((), (((0 : Int), ((0 : Int), ((0 : Int), ((0 : Int), ((0 : Int), ((0 : Int), ((0 : Int), ((0 : Int), ())))))))), x3.2)))
  else (
  some ((), (x1.2.1, (((none : Option Int), ()), ())))))
def g_mail_ParseBy (d : Unit × (((Option ((List (Int × Int)) × (Int × Int))) × Unit) × ((ByteArray × Unit) × Unit))) : Option (Unit × ((Int × (Int × (Int × (Int × (Int × (Int × (Int × (Int × Unit)))))))) × (((Option Int) × Unit) × Unit))) := f_mail_ParseBy_m () d
theorem ok_mail_ParseBy : FnOk Tryz.prog ET0 14 pi_mail_ParseBy po_mail_ParseBy g_mail_ParseBy :=
  fn0 (E := ((E0.add 8 (typedSem pi_mail_Parse po_mail_Parse g_mail_Parse)).add 19 (typedSem pi_scale_Listed po_scale_Listed g_scale_Listed))) (envOk_add (envOk_add e0_ok (typed_ok ok_mail_Parse)) (typed_ok ok_scale_Listed)) (fn := Tryz.f14) Tryz.func14 (by kernel_rfl) (by kernel_rfl) [.cell 4 28, .tmp 5] (by kernel_rfl) rfl rfl rfl [] fun d => by kernel_rfl

@[reducible] def pi_ref08_Split : PSh := ⟨[], [.mk true [vI, vI, vI, vI, vI, vI, vI, vI]]⟩
@[reducible] def po_ref08_Split : PSh := ⟨[], [.mk false [vI], .mk false [vI], .mk false [vI]]⟩
def f_ref08_Split_m (T : Unit) (d : Unit × ((Int × (Int × (Int × (Int × (Int × (Int × (Int × (Int × Unit)))))))) × Unit)) : Option (Unit × ((Int × Unit) × ((Int × Unit) × ((Int × Unit) × Unit)))) :=
  (g_ref08_Check ((), d.2)).bind fun x1 =>
  let x2 : Bool := (x1.2.1.1 != (0 : Int))
  bif x2 then (
  some ((), (((0 : Int), ()), (((0 : Int), ()), x1.2))))
  else (
  (g_ref08_Moment ((), d.2)).bind fun x3 =>
  let x4 : Int := (imul .i64 x3.2.2.1.1 (60 : Int))
  let x5 : Int := (iadd .i64 x4 d.2.1.2.2.2.2.2.1)
  some ((), (x3.2.1, ((x5, ()), (((0 : Int), ()), ())))))
def g_ref08_Split (d : Unit × ((Int × (Int × (Int × (Int × (Int × (Int × (Int × (Int × Unit)))))))) × Unit)) : Option (Unit × ((Int × Unit) × ((Int × Unit) × ((Int × Unit) × Unit)))) := f_ref08_Split_m () d
theorem ok_ref08_Split : FnOk Tryz.prog ET0 15 pi_ref08_Split po_ref08_Split g_ref08_Split :=
  fn0 (E := ((E0.add 58 (typedSem pi_ref08_Check po_ref08_Check g_ref08_Check)).add 65 (typedSem pi_ref08_Moment po_ref08_Moment g_ref08_Moment))) (envOk_add (envOk_add e0_ok (typed_ok ok_ref08_Check)) (typed_ok ok_ref08_Moment)) (fn := Tryz.f15) Tryz.func15 (by kernel_rfl) (by kernel_rfl) [.tmp 2, .tmp 3, .tmp 4] (by kernel_rfl) rfl rfl rfl [] fun d => by kernel_rfl

@[reducible] def pi_ref10_Leap : PSh := ⟨[], [.mk true [.v (.sl (.pair (.int .i64) (.int .i64))), vI, vI], .mk false [vI]]⟩
@[reducible] def po_ref10_Leap : PSh := ⟨[], [.mk false [vI]]⟩
@[reducible] def TT_ref10_Leap : Type := ((((((List (Int × Int)) × (Int × (Int × Unit))) × Unit) × ((Int × Unit) × (Unit × ((Int × Unit) × Unit)))) → Option (Unit × ((Int × Unit) × Unit))) × Unit)
@[reducible] def sh_ref10_Leap_3 : PSh := ⟨[.var 41 [.v (.sl (.pair (.int .i64) (.int .i64))), vI, vI]], [.any, .mk false [vI], .mk false [.ref 0 0], .any, .any, .mk false [vI], .any, .any, .any, .any, .any, .any, .any, .any, .any, .any, .any, .any, .any, .any, .any, .any, .any, .any, .any, .any, .any, .any, .any, .any, .any, .any, .any, .any, .any, .any]⟩
def f_ref10_Leap_p3 (T : TT_ref10_Leap) (d : (((List (Int × Int)) × (Int × (Int × Unit))) × Unit) × ((Int × Unit) × (Unit × ((Int × Unit) × Unit)))) : Option (Unit × ((Int × Unit) × Unit)) :=
  let x1 : Int := (d.1.1.1.length : Int)
  let x2 : Bool := (decide (d.2.2.2.1.1 < x1))
  bif x2 then (
  bif decide ((0 : Int) ≤ d.2.2.2.1.1) && decide (d.2.2.2.1.1 < (d.1.1.1.length : Int)) then (
  let x3 : Int := (isub .i64 (gd_i64_i64 d.1.1.1 d.2.2.2.1.1).1 (1 : Int))
  let x4 : Bool := (x3 == d.2.1.1)
  bif x4 then (
  bif decide ((0 : Int) ≤ d.2.2.2.1.1) && decide (d.2.2.2.1.1 < (d.1.1.1.length : Int)) then (
  let x5 : Int := (isub .i64 d.2.2.2.1.1 (1 : Int))
  bif decide ((0 : Int) ≤ x5) && decide (x5 < (d.1.1.1.length : Int)) then (
  let x6 : Int := (isub .i64 (gd_i64_i64 d.1.1.1 d.2.2.2.1.1).2 (gd_i64_i64 d.1.1.1 x5).2)
  some ((), ((x6, ()), ())))
  else none)
  else none)
  else (
  let x7 : Int := (iadd .i64 d.2.2.2.1.1 (1 : Int))
  (T.1 (d.1, (d.2.1, ((), ((x7, ()), ())))))))
  else none)
  else (
  some ((), (((0 : Int), ()), ())))
def f_ref10_Leap_t : Nat → TT_ref10_Leap
  | 0 => (fun _ => none, ())
  | k + 1 => (f_ref10_Leap_p3 (f_ref10_Leap_t k), ())
theorem t_ref10_Leap (k : Nat) : f_ref10_Leap_t (k + 1) = (f_ref10_Leap_p3 (f_ref10_Leap_t k), ()) := rfl
def f_ref10_Leap_m (T : TT_ref10_Leap) (d : Unit × (((List (Int × Int)) × (Int × (Int × Unit))) × ((Int × Unit) × Unit))) : Option (Unit × ((Int × Unit) × Unit)) :=
  (T.1 ((d.2.1, ()), (d.2.2.1, ((), (((1 : Int), ()), ())))))
def c_ref10_Leap : List Nat := []
def L_ref10_Leap (k : Nat) : Pts po_ref10_Leap.den := [(3, ⟨sh_ref10_Leap_3, (f_ref10_Leap_t k).1⟩)]
def R_ref10_Leap (_ : Nat) : PtsR po_ref10_Leap.den := []
def E_ref10_Leap : Env := E0
theorem q_ref10_Leap_3 (k : Nat) (d : sh_ref10_Leap_3.den) : evAt E_ref10_Leap (tb (L_ref10_Leap k) (R_ref10_Leap k)) c_ref10_Leap 3 (bodyOf Tryz.f66) 0 (finK E_ref10_Leap po_ref10_Leap [.tmp 4]) (ptSt sh_ref10_Leap_3 d) = f_ref10_Leap_p3 (f_ref10_Leap_t k) d := by kernel_rfl
theorem q_ref10_Leap_m (k : Nat) (d : pi_ref10_Leap.den) : evCode E_ref10_Leap (tb (L_ref10_Leap k) (R_ref10_Leap k)) c_ref10_Leap (bodyOf Tryz.f66) 0 (finK E_ref10_Leap po_ref10_Leap [.tmp 4]) (startSt pi_ref10_Leap 36 d) = f_ref10_Leap_m (f_ref10_Leap_t k) d := by kernel_rfl
def g_ref10_Leap (d : Unit × (((List (Int × Int)) × (Int × (Int × Unit))) × ((Int × Unit) × Unit))) : Option (Unit × ((Int × Unit) × Unit)) := lim fun k => f_ref10_Leap_m (f_ref10_Leap_t k) d
theorem ok_ref10_Leap : FnOk Tryz.prog ET0 66 pi_ref10_Leap po_ref10_Leap g_ref10_Leap :=
  fn_of_body (E := E_ref10_Leap) e0_ok (fn := Tryz.f66) Tryz.func66 (by kernel_rfl) (by kernel_rfl) [.tmp 4] (by kernel_rfl) (by kernel_rfl) (by decide) rfl c_ref10_Leap L_ref10_Leap R_ref10_Leap
    (by intro x hx d; simp only [L_ref10_Leap, List.mem_cons, List.not_mem_nil, or_false] at hx; subst hx; rfl)
    (by intro k x hx d out h; simp only [L_ref10_Leap, List.mem_cons, List.not_mem_nil, or_false] at hx; subst hx; exact (q_ref10_Leap_3 k d).trans h)
    (by intro x hx; cases hx)
    (by intro k x hx; cases hx)
    (by intro d out h; obtain ⟨k, hk⟩ := lim_some h; exact ⟨k, (q_ref10_Leap_m k d).trans hk⟩)

@[reducible] def pi_ref12_Has : PSh := ⟨[], [.mk true [.v (.sl (.pair (.int .i64) (.int .i64))), vI, vI], .mk false [vI], .mk false [vI]]⟩
@[reducible] def po_ref12_Has : PSh := ⟨[], [.mk false [vB]]⟩
def f_ref12_Has_m (T : Unit) (d : Unit × (((List (Int × Int)) × (Int × (Int × Unit))) × ((Int × Unit) × ((Int × Unit) × Unit)))) : Option (Unit × ((Bool × Unit) × Unit)) :=
  let x1 : Bool := (decide (d.2.2.2.1.1 ≥ (0 : Int)))
  bif x1 then (
  (g_ref10_Leap ((), (d.2.1, (d.2.2.1, ())))).bind fun x2 =>
  let x3 : Int := (iadd .i64 (86400 : Int) x2.2.1.1)
  let x4 : Bool := (decide (d.2.2.2.1.1 < x3))
  some ((), ((x4, ()), ())))
  else (
  some ((), ((false, ()), ())))
def g_ref12_Has (d : Unit × (((List (Int × Int)) × (Int × (Int × Unit))) × ((Int × Unit) × ((Int × Unit) × Unit)))) : Option (Unit × ((Bool × Unit) × Unit)) := f_ref12_Has_m () d
theorem ok_ref12_Has : FnOk Tryz.prog ET0 16 pi_ref12_Has po_ref12_Has g_ref12_Has :=
  fn0 (E := (E0.add 66 (typedSem pi_ref10_Leap po_ref10_Leap g_ref10_Leap))) (envOk_add e0_ok (typed_ok ok_ref10_Leap)) (fn := Tryz.f16) Tryz.func16 (by kernel_rfl) (by kernel_rfl) [.tmp 6] (by kernel_rfl) rfl rfl rfl [] fun d => by kernel_rfl

@[reducible] def pi_law25_MailParses : PSh := ⟨[], [.mk false [vS], .mk true [.v (.sl (.pair (.int .i64) (.int .i64))), vI, vI]]⟩
@[reducible] def po_law25_MailParses : PSh := ⟨[], [.mk false [vB]]⟩
def f_law25_MailParses_m (T : Unit) (d : Unit × ((ByteArray × Unit) × (((List (Int × Int)) × (Int × (Int × Unit))) × Unit))) : Option (Unit × ((Bool × Unit) × Unit)) :=
  (g_law25_alive ((), ())).bind fun x1 =>
  let x2 : Bool := (!x1.2.1.1)
  bif x2 then (
  some ((), ((false, ()), ())))
  else (
  let x3 : Int := (d.2.1.1.size : Int)
  let x4 : Bool := (decide (x3 > (300 : Int)))
  bif x4 then (
  some ((), ((true, ()), ())))
  else (
  (g_law10_Long ((), d.2.2)).bind fun x5 =>
  bif x5.2.1.1 then (
  some ((), ((true, ()), ())))
  else (
  (g_mail_Parse ((), (d.2.1, ()))).bind fun x6 =>
  (g_ref25_Parse ((), (d.2.1, ()))).bind fun x7 =>
  (g_law08_Document ((), (x6.2.1, ()))).bind fun x8 =>
  let x9 : Bool := (!((x8.2.1.1 == x7.2.1.1) && ((x8.2.1.2.1 == x7.2.1.2.1) && ((x8.2.1.2.2.1 == x7.2.1.2.2.1) && ((x8.2.1.2.2.2.1 == x7.2.1.2.2.2.1) && ((x8.2.1.2.2.2.2.1 == x7.2.1.2.2.2.2.1) && ((x8.2.1.2.2.2.2.2.1 == x7.2.1.2.2.2.2.2.1) && ((x8.2.1.2.2.2.2.2.2.1 == x7.2.1.2.2.2.2.2.2.1) && ((x8.2.1.2.2.2.2.2.2.2.1 == x7.2.1.2.2.2.2.2.2.2.1) && true)))))))))
  bif x9 then (
  some ((), ((false, ()), ())))
  else (
  (g_hnum_Num ((), x6.2.2)).bind fun x10 =>
  let x11 : Bool := (x10.2.1.1 != x7.2.2.1.1)
  bif x11 then (
  some ((), ((false, ()), ())))
  else (
  (g_law10_Made ((), d.2.2)).bind fun x12 =>
  let x13 : Bool := (!x12.2.2.2.1.1)
  bif x13 then (
  (g_ref10_Check ((), ((x12.1.1, x12.2.2.1), ()))).bind fun x14 =>
  let x15 : Bool := (x14.2.1.1 != (0 : Int))
  some ((), ((x15, ()), ())))
  else (
  (g_mail_ParseBy ((), (x12.2.1, (d.2.1, ())))).bind fun x16 =>
  let x17 : Bool := (x7.2.2.1.1 == (0 : Int))
  bif x17 then (
  (g_ref08_Split ((), (x7.2.1, ()))).bind fun x18 =>
  (g_ref12_Has ((), ((x12.1.1, x12.2.2.1), (x18.2.1, (x18.2.2.1, ()))))).bind fun x19 =>
  let x20 : Bool := (!x19.2.1.1)
  bif x20 then (
  (g_law08_Document ((), (x16.2.1, ()))).bind fun x21 =>
  let x22 : Bool := ((x21.2.1.1 == (0 : Int)) && ((x21.2.1.2.1 == (0 : Int)) && ((x21.2.1.2.2.1 == (0 : Int)) && ((x21.2.1.2.2.2.1 == (0 : Int)) && ((x21.2.1.2.2.2.2.1 == (0 : Int)) && ((x21.2.1.2.2.2.2.2.1 == (0 : Int)) && ((x21.2.1.2.2.2.2.2.2.1 == (0 : Int)) && ((x21.2.1.2.2.2.2.2.2.2.1 == (0 : Int)) && true))))))))
  bif x22 then (
  (g_hnum_Num ((), x16.2.2)).bind fun x23 =>
  let x24 : Bool := (x23.2.1.1 == (12 : Int))
  some ((), ((x24, ()), ())))
  else (
  some ((), ((false, ()), ()))))
  else (
  (g_law08_Document ((), (x16.2.1, ()))).bind fun x25 =>
  let x26 : Bool := ((x25.2.1.1 == x7.2.1.1) && ((x25.2.1.2.1 == x7.2.1.2.1) && ((x25.2.1.2.2.1 == x7.2.1.2.2.1) && ((x25.2.1.2.2.2.1 == x7.2.1.2.2.2.1) && ((x25.2.1.2.2.2.2.1 == x7.2.1.2.2.2.2.1) && ((x25.2.1.2.2.2.2.2.1 == x7.2.1.2.2.2.2.2.1) && ((x25.2.1.2.2.2.2.2.2.1 == x7.2.1.2.2.2.2.2.2.1) && ((x25.2.1.2.2.2.2.2.2.2.1 == x7.2.1.2.2.2.2.2.2.2.1) && true))))))))
  bif x26 then (
  (g_hnum_Num ((), x16.2.2)).bind fun x27 =>
  let x28 : Bool := (x27.2.1.1 == x7.2.2.1.1)
  some ((), ((x28, ()), ())))
  else (
  some ((), ((false, ()), ())))))
  else (
  (g_law08_Document ((), (x16.2.1, ()))).bind fun x29 =>
  let x30 : Bool := ((x29.2.1.1 == x7.2.1.1) && ((x29.2.1.2.1 == x7.2.1.2.1) && ((x29.2.1.2.2.1 == x7.2.1.2.2.1) && ((x29.2.1.2.2.2.1 == x7.2.1.2.2.2.1) && ((x29.2.1.2.2.2.2.1 == x7.2.1.2.2.2.2.1) && ((x29.2.1.2.2.2.2.2.1 == x7.2.1.2.2.2.2.2.1) && ((x29.2.1.2.2.2.2.2.2.1 == x7.2.1.2.2.2.2.2.2.1) && ((x29.2.1.2.2.2.2.2.2.2.1 == x7.2.1.2.2.2.2.2.2.2.1) && true))))))))
  bif x30 then (
  (g_hnum_Num ((), x16.2.2)).bind fun x31 =>
  let x32 : Bool := (x31.2.1.1 == x7.2.2.1.1)
  some ((), ((x32, ()), ())))
  else (
  some ((), ((false, ()), ()))))))))))
def g_law25_MailParses (d : Unit × ((ByteArray × Unit) × (((List (Int × Int)) × (Int × (Int × Unit))) × Unit))) : Option (Unit × ((Bool × Unit) × Unit)) := f_law25_MailParses_m () d
theorem ok_law25_MailParses : FnOk Tryz.prog ET0 3 pi_law25_MailParses po_law25_MailParses g_law25_MailParses :=
  fn0 (E := (((((((((((E0.add 6 (typedSem pi_law25_alive po_law25_alive g_law25_alive)).add 7 (typedSem pi_law10_Long po_law10_Long g_law10_Long)).add 8 (typedSem pi_mail_Parse po_mail_Parse g_mail_Parse)).add 9 (typedSem pi_ref25_Parse po_ref25_Parse g_ref25_Parse)).add 10 (typedSem pi_law08_Document po_law08_Document g_law08_Document)).add 11 (typedSem pi_hnum_Num po_hnum_Num g_hnum_Num)).add 12 (typedSem pi_law10_Made po_law10_Made g_law10_Made)).add 13 (typedSem pi_ref10_Check po_ref10_Check g_ref10_Check)).add 14 (typedSem pi_mail_ParseBy po_mail_ParseBy g_mail_ParseBy)).add 15 (typedSem pi_ref08_Split po_ref08_Split g_ref08_Split)).add 16 (typedSem pi_ref12_Has po_ref12_Has g_ref12_Has))) (envOk_add (envOk_add (envOk_add (envOk_add (envOk_add (envOk_add (envOk_add (envOk_add (envOk_add (envOk_add (envOk_add e0_ok (typed_ok ok_law25_alive)) (typed_ok ok_law10_Long)) (typed_ok ok_mail_Parse)) (typed_ok ok_ref25_Parse)) (typed_ok ok_law08_Document)) (typed_ok ok_hnum_Num)) (typed_ok ok_law10_Made)) (typed_ok ok_ref10_Check)) (typed_ok ok_mail_ParseBy)) (typed_ok ok_ref08_Split)) (typed_ok ok_ref12_Has)) (fn := Tryz.f3) Tryz.func3 (by kernel_rfl) (by kernel_rfl) [.tmp 4] (by kernel_rfl) rfl rfl rfl [] fun d => by kernel_rfl
end
end Go.Proofs.YtddnfappkfiidaaGreat.Ev
