/- Printed by wip/tools/evgen.py. -/
import Derived.Test.YtignndakgibpaaaGreatEvGa
import Derived.Test.YtignndakgibpaaaGreatEvE
import Derived.Test.YtignndakgibpaaaGreatProg
import Derived.KernelRfl
set_option maxRecDepth 100000
set_option maxHeartbeats 2000000
set_option linter.unusedVariables false
namespace Go.Proofs.YtignndakgibpaaaGreat.Ev
open Go
noncomputable section

/- horologe/horologeref24.Parse -/
@[reducible] def pi_ref24_Parse : PSh := ⟨[], [.mk false [.v .str]]⟩
@[reducible] def po_ref24_Parse : PSh := ⟨[], [.mk true [.v (.int .i64), .v (.int .i64), .v (.int .i64), .v (.int .i64), .v (.int .i64), .v (.int .i64), .v (.int .i64), .v (.int .i64)], .mk false [.v (.int .i64)]]⟩
@[reducible] def TT_ref24_Parse : Type := (((((Int × (Int × (Int × (Int × (Int × (Int × (Int × (Int × Unit)))))))) × ((Int × (Int × (Int × (Int × (Int × (Int × (Int × (Int × Unit)))))))) × ((Int × (Int × (Int × (Int × (Int × (Int × (Int × (Int × Unit)))))))) × Unit))) × (Unit × (Unit × (Unit × ((ByteArray × Unit) × ((ByteArray × Unit) × ((Bool × Unit) × Unit))))))) → Option (Unit × ((Int × (Int × (Int × (Int × (Int × (Int × (Int × (Int × Unit)))))))) × ((Int × Unit) × Unit)))) × (((((Int × (Int × (Int × (Int × (Int × (Int × (Int × (Int × Unit)))))))) × ((Int × (Int × (Int × (Int × (Int × (Int × (Int × (Int × Unit)))))))) × ((Int × (Int × (Int × (Int × (Int × (Int × (Int × (Int × Unit)))))))) × Unit))) × (Unit × (Unit × (Unit × ((ByteArray × Unit) × ((ByteArray × Unit) × ((Bool × Unit) × ((Bool × Unit) × Unit)))))))) → Option (Unit × ((Int × (Int × (Int × (Int × (Int × (Int × (Int × (Int × Unit)))))))) × ((Int × Unit) × Unit)))) × (((((Int × (Int × (Int × (Int × (Int × (Int × (Int × (Int × Unit)))))))) × ((Int × (Int × (Int × (Int × (Int × (Int × (Int × (Int × Unit)))))))) × ((Int × (Int × (Int × (Int × (Int × (Int × (Int × (Int × Unit)))))))) × Unit))) × (Unit × (Unit × (Unit × ((ByteArray × Unit) × ((ByteArray × Unit) × ((Bool × Unit) × Unit))))))) → Option (Unit × ((Int × (Int × (Int × (Int × (Int × (Int × (Int × (Int × Unit)))))))) × ((Int × Unit) × Unit)))) × (((((Int × (Int × (Int × (Int × (Int × (Int × (Int × (Int × Unit)))))))) × ((Int × (Int × (Int × (Int × (Int × (Int × (Int × (Int × Unit)))))))) × ((Int × (Int × (Int × (Int × (Int × (Int × (Int × (Int × Unit)))))))) × Unit))) × (Unit × (Unit × (Unit × ((ByteArray × Unit) × ((Bool × Unit) × Unit)))))) → Option (Unit × ((Int × (Int × (Int × (Int × (Int × (Int × (Int × (Int × Unit)))))))) × ((Int × Unit) × Unit)))) × Unit))))
@[reducible] def sh_ref24_Parse_15 : PSh := ⟨[.var 48 [.v (.int .i64), .v (.int .i64), .v (.int .i64), .v (.int .i64), .v (.int .i64), .v (.int .i64), .v (.int .i64), .v (.int .i64)], .var 48 [.v (.int .i64), .v (.int .i64), .v (.int .i64), .v (.int .i64), .v (.int .i64), .v (.int .i64), .v (.int .i64), .v (.int .i64)], .var 48 [.v (.int .i64), .v (.int .i64), .v (.int .i64), .v (.int .i64), .v (.int .i64), .v (.int .i64), .v (.int .i64), .v (.int .i64)]], [.any, .any, .mk false [.ref 0 0], .any, .mk false [.ref 1 0], .mk false [.ref 2 0], .mk false [.v .str], .mk false [.v .str], .any, .mk false [.v .bool], .any, .any, .any, .any, .any, .any, .any, .any, .any, .any, .any, .any, .any, .any, .any, .any, .any, .any, .any, .any, .any, .any, .any, .any, .any, .any, .any, .any, .any, .any, .any, .any, .any, .any, .any, .any, .any, .any, .any, .any, .any, .any, .any, .any, .any, .any, .any, .any, .any, .any, .any, .any, .any, .any, .any, .any, .any, .any, .any, .any, .any, .any, .any, .any, .any, .any, .any, .any, .any, .any, .any, .any, .any, .any, .any, .any, .any, .any, .any, .any, .any, .any, .any, .any, .any, .any, .any, .any, .any, .any, .any, .any, .any, .any, .any, .any, .any, .any, .any, .any, .any, .any, .any, .any, .any, .any, .any, .any, .any, .any, .any, .any, .any, .any, .any, .any, .any, .any]⟩
@[reducible] def sh_ref24_Parse_17 : PSh := ⟨[.var 48 [.v (.int .i64), .v (.int .i64), .v (.int .i64), .v (.int .i64), .v (.int .i64), .v (.int .i64), .v (.int .i64), .v (.int .i64)], .var 48 [.v (.int .i64), .v (.int .i64), .v (.int .i64), .v (.int .i64), .v (.int .i64), .v (.int .i64), .v (.int .i64), .v (.int .i64)], .var 48 [.v (.int .i64), .v (.int .i64), .v (.int .i64), .v (.int .i64), .v (.int .i64), .v (.int .i64), .v (.int .i64), .v (.int .i64)]], [.any, .any, .mk false [.ref 0 0], .any, .mk false [.ref 1 0], .mk false [.ref 2 0], .mk false [.v .str], .mk false [.v .str], .any, .mk false [.v .bool], .any, .any, .any, .any, .any, .any, .any, .any, .any, .any, .any, .any, .any, .any, .any, .any, .any, .any, .any, .any, .any, .any, .any, .any, .any, .any, .any, .any, .any, .any, .any, .any, .any, .any, .any, .any, .any, .any, .any, .any, .any, .any, .any, .any, .any, .any, .any, .any, .any, .any, .any, .any, .any, .any, .any, .any, .mk false [.v .bool], .any, .any, .any, .any, .any, .any, .any, .any, .any, .any, .any, .any, .any, .any, .any, .any, .any, .any, .any, .any, .any, .any, .any, .any, .any, .any, .any, .any, .any, .any, .any, .any, .any, .any, .any, .any, .any, .any, .any, .any, .any, .any, .any, .any, .any, .any, .any, .any, .any, .any, .any, .any, .any, .any, .any, .any, .any, .any, .any, .any, .any]⟩
@[reducible] def sh_ref24_Parse_19 : PSh := ⟨[.var 48 [.v (.int .i64), .v (.int .i64), .v (.int .i64), .v (.int .i64), .v (.int .i64), .v (.int .i64), .v (.int .i64), .v (.int .i64)], .var 48 [.v (.int .i64), .v (.int .i64), .v (.int .i64), .v (.int .i64), .v (.int .i64), .v (.int .i64), .v (.int .i64), .v (.int .i64)], .var 48 [.v (.int .i64), .v (.int .i64), .v (.int .i64), .v (.int .i64), .v (.int .i64), .v (.int .i64), .v (.int .i64), .v (.int .i64)]], [.any, .any, .mk false [.ref 0 0], .any, .mk false [.ref 1 0], .mk false [.ref 2 0], .mk false [.v .str], .mk false [.v .str], .any, .any, .any, .any, .any, .any, .any, .any, .any, .any, .any, .any, .any, .any, .any, .any, .any, .any, .any, .any, .any, .any, .any, .any, .any, .any, .any, .any, .any, .any, .any, .any, .any, .any, .any, .any, .any, .any, .any, .any, .any, .any, .any, .any, .any, .any, .any, .any, .any, .any, .any, .any, .any, .any, .any, .any, .any, .any, .any, .any, .any, .any, .any, .any, .any, .any, .any, .any, .any, .any, .any, .mk false [.v .bool], .any, .any, .any, .any, .any, .any, .any, .any, .any, .any, .any, .any, .any, .any, .any, .any, .any, .any, .any, .any, .any, .any, .any, .any, .any, .any, .any, .any, .any, .any, .any, .any, .any, .any, .any, .any, .any, .any, .any, .any, .any, .any, .any, .any, .any, .any, .any, .any]⟩
@[reducible] def sh_ref24_Parse_16 : PSh := ⟨[.var 48 [.v (.int .i64), .v (.int .i64), .v (.int .i64), .v (.int .i64), .v (.int .i64), .v (.int .i64), .v (.int .i64), .v (.int .i64)], .var 48 [.v (.int .i64), .v (.int .i64), .v (.int .i64), .v (.int .i64), .v (.int .i64), .v (.int .i64), .v (.int .i64), .v (.int .i64)], .var 48 [.v (.int .i64), .v (.int .i64), .v (.int .i64), .v (.int .i64), .v (.int .i64), .v (.int .i64), .v (.int .i64), .v (.int .i64)]], [.any, .any, .mk false [.ref 0 0], .any, .mk false [.ref 1 0], .mk false [.ref 2 0], .any, .mk false [.v .str], .any, .mk false [.v .bool], .any, .any, .any, .any, .any, .any, .any, .any, .any, .any, .any, .any, .any, .any, .any, .any, .any, .any, .any, .any, .any, .any, .any, .any, .any, .any, .any, .any, .any, .any, .any, .any, .any, .any, .any, .any, .any, .any, .any, .any, .any, .any, .any, .any, .any, .any, .any, .any, .any, .any, .any, .any, .any, .any, .any, .any, .any, .any, .any, .any, .any, .any, .any, .any, .any, .any, .any, .any, .any, .any, .any, .any, .any, .any, .any, .any, .any, .any, .any, .any, .any, .any, .any, .any, .any, .any, .any, .any, .any, .any, .any, .any, .any, .any, .any, .any, .any, .any, .any, .any, .any, .any, .any, .any, .any, .any, .any, .any, .any, .any, .any, .any, .any, .any, .any, .any, .any, .any]⟩
def f_ref24_Parse_p15 (T : TT_ref24_Parse) (d : ((Int × (Int × (Int × (Int × (Int × (Int × (Int × (Int × Unit)))))))) × ((Int × (Int × (Int × (Int × (Int × (Int × (Int × (Int × Unit)))))))) × ((Int × (Int × (Int × (Int × (Int × (Int × (Int × (Int × Unit)))))))) × Unit))) × (Unit × (Unit × (Unit × ((ByteArray × Unit) × ((ByteArray × Unit) × ((Bool × Unit) × Unit))))))) : Option (Unit × ((Int × (Int × (Int × (Int × (Int × (Int × (Int × (Int × Unit)))))))) × ((Int × Unit) × Unit))) :=
  let x27 : Bool := (!(d.2.2.2.2.1.1.toList == (⟨#[90]⟩ : ByteArray).toList))
  bif x27 then (
  let x28 : Bool := (!(d.2.2.2.2.1.1.toList == (⟨#[122]⟩ : ByteArray).toList))
  (T.2.1 (((d.1.1.1, (d.1.1.2.1, (d.1.1.2.2.1, (d.1.1.2.2.2.1, (d.1.1.2.2.2.2.1, (d.1.1.2.2.2.2.2.1, (d.1.1.2.2.2.2.2.2.1, (d.1.1.2.2.2.2.2.2.2.1, ())))))))), ((d.1.2.1.1, (d.1.2.1.2.1, (d.1.2.1.2.2.1, (d.1.2.1.2.2.2.1, (d.1.2.1.2.2.2.2.1, (d.1.2.1.2.2.2.2.2.1, (d.1.2.1.2.2.2.2.2.2.1, (d.1.2.1.2.2.2.2.2.2.2.1, ())))))))), ((d.1.2.2.1.1, (d.1.2.2.1.2.1, (d.1.2.2.1.2.2.1, (d.1.2.2.1.2.2.2.1, (d.1.2.2.1.2.2.2.2.1, (d.1.2.2.1.2.2.2.2.2.1, (d.1.2.2.1.2.2.2.2.2.2.1, (d.1.2.2.1.2.2.2.2.2.2.2.1, ())))))))), ()))), ((), ((), ((), ((d.2.2.2.2.1.1, ()), ((d.2.2.2.2.2.1.1, ()), ((d.2.2.2.2.2.2.1.1, ()), ((x28, ()), ()))))))))))
  else (
  (T.2.1 (((d.1.1.1, (d.1.1.2.1, (d.1.1.2.2.1, (d.1.1.2.2.2.1, (d.1.1.2.2.2.2.1, (d.1.1.2.2.2.2.2.1, (d.1.1.2.2.2.2.2.2.1, (d.1.1.2.2.2.2.2.2.2.1, ())))))))), ((d.1.2.1.1, (d.1.2.1.2.1, (d.1.2.1.2.2.1, (d.1.2.1.2.2.2.1, (d.1.2.1.2.2.2.2.1, (d.1.2.1.2.2.2.2.2.1, (d.1.2.1.2.2.2.2.2.2.1, (d.1.2.1.2.2.2.2.2.2.2.1, ())))))))), ((d.1.2.2.1.1, (d.1.2.2.1.2.1, (d.1.2.2.1.2.2.1, (d.1.2.2.1.2.2.2.1, (d.1.2.2.1.2.2.2.2.1, (d.1.2.2.1.2.2.2.2.2.1, (d.1.2.2.1.2.2.2.2.2.2.1, (d.1.2.2.1.2.2.2.2.2.2.2.1, ())))))))), ()))), ((), ((), ((), ((d.2.2.2.2.1.1, ()), ((d.2.2.2.2.2.1.1, ()), ((d.2.2.2.2.2.2.1.1, ()), ((false, ()), ()))))))))))
def f_ref24_Parse_p17 (T : TT_ref24_Parse) (d : ((Int × (Int × (Int × (Int × (Int × (Int × (Int × (Int × Unit)))))))) × ((Int × (Int × (Int × (Int × (Int × (Int × (Int × (Int × Unit)))))))) × ((Int × (Int × (Int × (Int × (Int × (Int × (Int × (Int × Unit)))))))) × Unit))) × (Unit × (Unit × (Unit × ((ByteArray × Unit) × ((ByteArray × Unit) × ((Bool × Unit) × ((Bool × Unit) × Unit)))))))) : Option (Unit × ((Int × (Int × (Int × (Int × (Int × (Int × (Int × (Int × Unit)))))))) × ((Int × Unit) × Unit))) :=
  bif d.2.2.2.2.2.2.2.1.1 then (
  let x29 : Int := (d.2.2.2.2.1.1.size : Int)
  let x30 : Bool := (x29 != (6 : Int))
  bif x30 then (
  (T.2.2.1 (((d.1.1.1, (d.1.1.2.1, (d.1.1.2.2.1, (d.1.1.2.2.2.1, (d.1.1.2.2.2.2.1, (d.1.1.2.2.2.2.2.1, (d.1.1.2.2.2.2.2.2.1, (d.1.1.2.2.2.2.2.2.2.1, ())))))))), ((d.1.2.1.1, (d.1.2.1.2.1, (d.1.2.1.2.2.1, (d.1.2.1.2.2.2.1, (d.1.2.1.2.2.2.2.1, (d.1.2.1.2.2.2.2.2.1, (d.1.2.1.2.2.2.2.2.2.1, (d.1.2.1.2.2.2.2.2.2.2.1, ())))))))), ((d.1.2.2.1.1, (d.1.2.2.1.2.1, (d.1.2.2.1.2.2.1, (d.1.2.2.1.2.2.2.1, (d.1.2.2.1.2.2.2.2.1, (d.1.2.2.1.2.2.2.2.2.1, (d.1.2.2.1.2.2.2.2.2.2.1, (d.1.2.2.1.2.2.2.2.2.2.2.1, ())))))))), ()))), ((), ((), ((), ((d.2.2.2.2.1.1, ()), ((d.2.2.2.2.2.1.1, ()), ((true, ()), ())))))))))
  else (
  (g_ref24_fits ((), ((d.2.2.2.2.1.1, ()), (((⟨#[43, 48, 48, 58, 48, 48]⟩ : ByteArray), ()), ())))).bind fun x31 =>
  let x32 : Bool := (!x31.2.1.1)
  bif x32 then (
  (g_ref24_fits ((), ((d.2.2.2.2.1.1, ()), (((⟨#[45, 48, 48, 58, 48, 48]⟩ : ByteArray), ()), ())))).bind fun x33 =>
  let x34 : Bool := (!x33.2.1.1)
  (T.2.2.1 (((d.1.1.1, (d.1.1.2.1, (d.1.1.2.2.1, (d.1.1.2.2.2.1, (d.1.1.2.2.2.2.1, (d.1.1.2.2.2.2.2.1, (d.1.1.2.2.2.2.2.2.1, (d.1.1.2.2.2.2.2.2.2.1, ())))))))), ((d.1.2.1.1, (d.1.2.1.2.1, (d.1.2.1.2.2.1, (d.1.2.1.2.2.2.1, (d.1.2.1.2.2.2.2.1, (d.1.2.1.2.2.2.2.2.1, (d.1.2.1.2.2.2.2.2.2.1, (d.1.2.1.2.2.2.2.2.2.2.1, ())))))))), ((d.1.2.2.1.1, (d.1.2.2.1.2.1, (d.1.2.2.1.2.2.1, (d.1.2.2.1.2.2.2.1, (d.1.2.2.1.2.2.2.2.1, (d.1.2.2.1.2.2.2.2.2.1, (d.1.2.2.1.2.2.2.2.2.2.1, (d.1.2.2.1.2.2.2.2.2.2.2.1, ())))))))), ()))), ((), ((), ((), ((d.2.2.2.2.1.1, ()), ((d.2.2.2.2.2.1.1, ()), ((x34, ()), ())))))))))
  else (
  (T.2.2.1 (((d.1.1.1, (d.1.1.2.1, (d.1.1.2.2.1, (d.1.1.2.2.2.1, (d.1.1.2.2.2.2.1, (d.1.1.2.2.2.2.2.1, (d.1.1.2.2.2.2.2.2.1, (d.1.1.2.2.2.2.2.2.2.1, ())))))))), ((d.1.2.1.1, (d.1.2.1.2.1, (d.1.2.1.2.2.1, (d.1.2.1.2.2.2.1, (d.1.2.1.2.2.2.2.1, (d.1.2.1.2.2.2.2.2.1, (d.1.2.1.2.2.2.2.2.2.1, (d.1.2.1.2.2.2.2.2.2.2.1, ())))))))), ((d.1.2.2.1.1, (d.1.2.2.1.2.1, (d.1.2.2.1.2.2.1, (d.1.2.2.1.2.2.2.1, (d.1.2.2.1.2.2.2.2.1, (d.1.2.2.1.2.2.2.2.2.1, (d.1.2.2.1.2.2.2.2.2.2.1, (d.1.2.2.1.2.2.2.2.2.2.2.1, ())))))))), ()))), ((), ((), ((), ((d.2.2.2.2.1.1, ()), ((d.2.2.2.2.2.1.1, ()), ((false, ()), ())))))))))))
  else (
  (T.2.2.2.1 (((d.1.1.1, (d.1.1.2.1, (d.1.1.2.2.1, (d.1.1.2.2.2.1, (d.1.1.2.2.2.2.1, (d.1.1.2.2.2.2.2.1, (d.1.1.2.2.2.2.2.2.1, (d.1.1.2.2.2.2.2.2.2.1, ())))))))), ((d.1.2.1.1, (d.1.2.1.2.1, (d.1.2.1.2.2.1, (d.1.2.1.2.2.2.1, (d.1.2.1.2.2.2.2.1, (d.1.2.1.2.2.2.2.2.1, (d.1.2.1.2.2.2.2.2.2.1, (d.1.2.1.2.2.2.2.2.2.2.1, ())))))))), ((d.1.2.2.1.1, (d.1.2.2.1.2.1, (d.1.2.2.1.2.2.1, (d.1.2.2.1.2.2.2.1, (d.1.2.2.1.2.2.2.2.1, (d.1.2.2.1.2.2.2.2.2.1, (d.1.2.2.1.2.2.2.2.2.2.1, (d.1.2.2.1.2.2.2.2.2.2.2.1, ())))))))), ()))), ((), ((), ((), ((d.2.2.2.2.2.1.1, ()), ((d.2.2.2.2.2.2.1.1, ()), ()))))))))
def f_ref24_Parse_p19 (T : TT_ref24_Parse) (d : ((Int × (Int × (Int × (Int × (Int × (Int × (Int × (Int × Unit)))))))) × ((Int × (Int × (Int × (Int × (Int × (Int × (Int × (Int × Unit)))))))) × ((Int × (Int × (Int × (Int × (Int × (Int × (Int × (Int × Unit)))))))) × Unit))) × (Unit × (Unit × (Unit × ((ByteArray × Unit) × ((ByteArray × Unit) × ((Bool × Unit) × Unit))))))) : Option (Unit × ((Int × (Int × (Int × (Int × (Int × (Int × (Int × (Int × Unit)))))))) × ((Int × Unit) × Unit))) :=
  bif d.2.2.2.2.2.2.1.1 then (
  some ((), ((d.1.2.1.1, (d.1.2.1.2.1, (d.1.2.1.2.2.1, (d.1.2.1.2.2.2.1, (d.1.2.1.2.2.2.2.1, (d.1.2.1.2.2.2.2.2.1, (d.1.2.1.2.2.2.2.2.2.1, (d.1.2.1.2.2.2.2.2.2.2.1, ())))))))), (((2 : Int), ()), ()))))
  else (
  bif decide ((3 : Int) ≤ (d.2.2.2.2.1.1.size : Int)) then (
  let x35 : ByteArray := (d.2.2.2.2.1.1.extract (Int.toNat (1 : Int)) (Int.toNat (3 : Int)))
  (g_ref24_number ((), ((x35, ()), ()))).bind fun x36 =>
  bif decide ((4 : Int) ≤ (d.2.2.2.2.1.1.size : Int)) && decide ((d.2.2.2.2.1.1.size : Int) ≤ (d.2.2.2.2.1.1.size : Int)) then (
  let x37 : ByteArray := (d.2.2.2.2.1.1.extract (Int.toNat (4 : Int)) (Int.toNat (d.2.2.2.2.1.1.size : Int)))
  (g_ref24_number ((), ((x37, ()), ()))).bind fun x38 =>
  let x39 : Bool := (decide (x36.2.1.1 ≤ (23 : Int)))
  bif x39 then (
  let x40 : Bool := (decide (x38.2.1.1 ≤ (59 : Int)))
  let x41 : Int := (imul .i64 x36.2.1.1 (60 : Int))
  let x42 : Int := (iadd .i64 x41 x38.2.1.1)
  bif decide ((0 : Int) ≤ (0 : Int)) && decide ((0 : Int) < ((d.2.2.2.2.1.1.size : Int) : Int)) then (
  let x43 : Int := (bt d.2.2.2.2.1.1 (0 : Int))
  let x44 : Bool := (x43 == (45 : Int))
  bif x44 then (
  let x45 : Int := (isub .i64 (0 : Int) x42)
  (T.2.2.2.1 (((d.1.1.1, (d.1.1.2.1, (d.1.1.2.2.1, (d.1.1.2.2.2.1, (d.1.1.2.2.2.2.1, (d.1.1.2.2.2.2.2.1, (d.1.1.2.2.2.2.2.2.1, (d.1.1.2.2.2.2.2.2.2.1, ())))))))), ((d.1.2.1.1, (d.1.2.1.2.1, (d.1.2.1.2.2.1, (d.1.2.1.2.2.2.1, (d.1.2.1.2.2.2.2.1, (d.1.2.1.2.2.2.2.2.1, (d.1.2.1.2.2.2.2.2.2.1, (d.1.2.1.2.2.2.2.2.2.2.1, ())))))))), ((d.1.2.2.1.1, (d.1.2.2.1.2.1, (d.1.2.2.1.2.2.1, (d.1.2.2.1.2.2.2.1, (d.1.2.2.1.2.2.2.2.1, (d.1.2.2.1.2.2.2.2.2.1, (d.1.2.2.1.2.2.2.2.2.2.1, (x45, ())))))))), ()))), ((), ((), ((), ((d.2.2.2.2.2.1.1, ()), ((x40, ()), ()))))))))
  else (
  (T.2.2.2.1 (((d.1.1.1, (d.1.1.2.1, (d.1.1.2.2.1, (d.1.1.2.2.2.1, (d.1.1.2.2.2.2.1, (d.1.1.2.2.2.2.2.1, (d.1.1.2.2.2.2.2.2.1, (d.1.1.2.2.2.2.2.2.2.1, ())))))))), ((d.1.2.1.1, (d.1.2.1.2.1, (d.1.2.1.2.2.1, (d.1.2.1.2.2.2.1, (d.1.2.1.2.2.2.2.1, (d.1.2.1.2.2.2.2.2.1, (d.1.2.1.2.2.2.2.2.2.1, (d.1.2.1.2.2.2.2.2.2.2.1, ())))))))), ((d.1.2.2.1.1, (d.1.2.2.1.2.1, (d.1.2.2.1.2.2.1, (d.1.2.2.1.2.2.2.1, (d.1.2.2.1.2.2.2.2.1, (d.1.2.2.1.2.2.2.2.2.1, (d.1.2.2.1.2.2.2.2.2.2.1, (x42, ())))))))), ()))), ((), ((), ((), ((d.2.2.2.2.2.1.1, ()), ((x40, ()), ())))))))))
  else none)
  else (
  let x46 : Int := (imul .i64 x36.2.1.1 (60 : Int))
  let x47 : Int := (iadd .i64 x46 x38.2.1.1)
  bif decide ((0 : Int) ≤ (0 : Int)) && decide ((0 : Int) < ((d.2.2.2.2.1.1.size : Int) : Int)) then (
  let x48 : Int := (bt d.2.2.2.2.1.1 (0 : Int))
  let x49 : Bool := (x48 == (45 : Int))
  bif x49 then (
  let x50 : Int := (isub .i64 (0 : Int) x47)
  (T.2.2.2.1 (((d.1.1.1, (d.1.1.2.1, (d.1.1.2.2.1, (d.1.1.2.2.2.1, (d.1.1.2.2.2.2.1, (d.1.1.2.2.2.2.2.1, (d.1.1.2.2.2.2.2.2.1, (d.1.1.2.2.2.2.2.2.2.1, ())))))))), ((d.1.2.1.1, (d.1.2.1.2.1, (d.1.2.1.2.2.1, (d.1.2.1.2.2.2.1, (d.1.2.1.2.2.2.2.1, (d.1.2.1.2.2.2.2.2.1, (d.1.2.1.2.2.2.2.2.2.1, (d.1.2.1.2.2.2.2.2.2.2.1, ())))))))), ((d.1.2.2.1.1, (d.1.2.2.1.2.1, (d.1.2.2.1.2.2.1, (d.1.2.2.1.2.2.2.1, (d.1.2.2.1.2.2.2.2.1, (d.1.2.2.1.2.2.2.2.2.1, (d.1.2.2.1.2.2.2.2.2.2.1, (x50, ())))))))), ()))), ((), ((), ((), ((d.2.2.2.2.2.1.1, ()), ((false, ()), ()))))))))
  else (
  (T.2.2.2.1 (((d.1.1.1, (d.1.1.2.1, (d.1.1.2.2.1, (d.1.1.2.2.2.1, (d.1.1.2.2.2.2.1, (d.1.1.2.2.2.2.2.1, (d.1.1.2.2.2.2.2.2.1, (d.1.1.2.2.2.2.2.2.2.1, ())))))))), ((d.1.2.1.1, (d.1.2.1.2.1, (d.1.2.1.2.2.1, (d.1.2.1.2.2.2.1, (d.1.2.1.2.2.2.2.1, (d.1.2.1.2.2.2.2.2.1, (d.1.2.1.2.2.2.2.2.2.1, (d.1.2.1.2.2.2.2.2.2.2.1, ())))))))), ((d.1.2.2.1.1, (d.1.2.2.1.2.1, (d.1.2.2.1.2.2.1, (d.1.2.2.1.2.2.2.1, (d.1.2.2.1.2.2.2.2.1, (d.1.2.2.1.2.2.2.2.2.1, (d.1.2.2.1.2.2.2.2.2.2.1, (x47, ())))))))), ()))), ((), ((), ((), ((d.2.2.2.2.2.1.1, ()), ((false, ()), ())))))))))
  else none))
  else none)
  else none)
def f_ref24_Parse_p16 (T : TT_ref24_Parse) (d : ((Int × (Int × (Int × (Int × (Int × (Int × (Int × (Int × Unit)))))))) × ((Int × (Int × (Int × (Int × (Int × (Int × (Int × (Int × Unit)))))))) × ((Int × (Int × (Int × (Int × (Int × (Int × (Int × (Int × Unit)))))))) × Unit))) × (Unit × (Unit × (Unit × ((ByteArray × Unit) × ((Bool × Unit) × Unit)))))) : Option (Unit × ((Int × (Int × (Int × (Int × (Int × (Int × (Int × (Int × Unit)))))))) × ((Int × Unit) × Unit))) :=
  let x51 : Int := (d.2.2.2.2.1.1.size : Int)
  let x52 : Bool := (decide (x51 > (9 : Int)))
  bif x52 then (
  some ((), ((d.1.2.1.1, (d.1.2.1.2.1, (d.1.2.1.2.2.1, (d.1.2.1.2.2.2.1, (d.1.2.1.2.2.2.2.1, (d.1.2.1.2.2.2.2.2.1, (d.1.2.1.2.2.2.2.2.2.1, (d.1.2.1.2.2.2.2.2.2.2.1, ())))))))), (((3 : Int), ()), ()))))
  else (
  let x53 : Bool := (!d.2.2.2.2.2.1.1)
  bif x53 then (
  some ((), ((d.1.2.1.1, (d.1.2.1.2.1, (d.1.2.1.2.2.1, (d.1.2.1.2.2.2.1, (d.1.2.1.2.2.2.2.1, (d.1.2.1.2.2.2.2.2.1, (d.1.2.1.2.2.2.2.2.2.1, (d.1.2.1.2.2.2.2.2.2.2.1, ())))))))), (((1 : Int), ()), ()))))
  else (
  let x54 : Int := (d.2.2.2.2.1.1.size : Int)
  let x55 : Bool := (decide (x54 > (0 : Int)))
  bif x55 then (
  (g_ref02_Fraction ((), ((d.2.2.2.2.1.1, ()), ()))).bind fun x56 =>
  (g_ref08_Check ((), ((d.1.2.2.1.1, (d.1.2.2.1.2.1, (d.1.2.2.1.2.2.1, (d.1.2.2.1.2.2.2.1, (d.1.2.2.1.2.2.2.2.1, (d.1.2.2.1.2.2.2.2.2.1, (x56.2.1.1, (d.1.2.2.1.2.2.2.2.2.2.2.1, ())))))))), ()))).bind fun x57 =>
  let x58 : Bool := (x57.2.1.1 != (0 : Int))
  bif x58 then (
  some ((), ((d.1.2.1.1, (d.1.2.1.2.1, (d.1.2.1.2.2.1, (d.1.2.1.2.2.2.1, (d.1.2.1.2.2.2.2.1, (d.1.2.1.2.2.2.2.2.1, (d.1.2.1.2.2.2.2.2.2.1, (d.1.2.1.2.2.2.2.2.2.2.1, ())))))))), ((x57.2.1.1, ()), ()))))
  else (
  some ((), ((d.1.2.2.1.1, (d.1.2.2.1.2.1, (d.1.2.2.1.2.2.1, (d.1.2.2.1.2.2.2.1, (d.1.2.2.1.2.2.2.2.1, (d.1.2.2.1.2.2.2.2.2.1, (x56.2.1.1, (d.1.2.2.1.2.2.2.2.2.2.2.1, ())))))))), (((0 : Int), ()), ())))))
  else (
  (g_ref08_Check ((), ((d.1.2.2.1.1, (d.1.2.2.1.2.1, (d.1.2.2.1.2.2.1, (d.1.2.2.1.2.2.2.1, (d.1.2.2.1.2.2.2.2.1, (d.1.2.2.1.2.2.2.2.2.1, (d.1.2.2.1.2.2.2.2.2.2.1, (d.1.2.2.1.2.2.2.2.2.2.2.1, ())))))))), ()))).bind fun x59 =>
  let x60 : Bool := (x59.2.1.1 != (0 : Int))
  bif x60 then (
  some ((), ((d.1.2.1.1, (d.1.2.1.2.1, (d.1.2.1.2.2.1, (d.1.2.1.2.2.2.1, (d.1.2.1.2.2.2.2.1, (d.1.2.1.2.2.2.2.2.1, (d.1.2.1.2.2.2.2.2.2.1, (d.1.2.1.2.2.2.2.2.2.2.1, ())))))))), ((x59.2.1.1, ()), ()))))
  else (
  some ((), ((d.1.2.2.1.1, (d.1.2.2.1.2.1, (d.1.2.2.1.2.2.1, (d.1.2.2.1.2.2.2.1, (d.1.2.2.1.2.2.2.2.1, (d.1.2.2.1.2.2.2.2.2.1, (d.1.2.2.1.2.2.2.2.2.2.1, (d.1.2.2.1.2.2.2.2.2.2.2.1, ())))))))), (((0 : Int), ()), ())))))))
def f_ref24_Parse_t : Nat → TT_ref24_Parse
  | 0 => (fun _ => none, (fun _ => none, (fun _ => none, (fun _ => none, ()))))
  | k + 1 => (f_ref24_Parse_p15 (f_ref24_Parse_t k), (f_ref24_Parse_p17 (f_ref24_Parse_t k), (f_ref24_Parse_p19 (f_ref24_Parse_t k), (f_ref24_Parse_p16 (f_ref24_Parse_t k), ()))))
theorem t_ref24_Parse (k : Nat) : f_ref24_Parse_t (k + 1) = (f_ref24_Parse_p15 (f_ref24_Parse_t k), (f_ref24_Parse_p17 (f_ref24_Parse_t k), (f_ref24_Parse_p19 (f_ref24_Parse_t k), (f_ref24_Parse_p16 (f_ref24_Parse_t k), ())))) := rfl
def f_ref24_Parse_m (T : TT_ref24_Parse) (d : Unit × ((ByteArray × Unit) × Unit)) : Option (Unit × ((Int × (Int × (Int × (Int × (Int × (Int × (Int × (Int × Unit)))))))) × ((Int × Unit) × Unit))) :=
  (g_ref24_fits ((), ((d.2.1.1, ()), (((⟨#[48, 48, 48, 48, 45, 48, 48, 45, 48, 48, 84, 48, 48, 58, 48, 48, 58, 48, 48]⟩ : ByteArray), ()), ())))).bind fun x1 =>
  let x2 : Bool := (!x1.2.1.1)
  bif x2 then (
  some ((), (((0 : Int), ((0 : Int), ((0 : Int), ((0 : Int), ((0 : Int), ((0 : Int), ((0 : Int), ((0 : Int), ())))))))), (((2 : Int), ()), ()))))
  else (
  bif decide ((0 : Int) ≤ (0 : Int)) && decide ((4 : Int) ≤ (d.2.1.1.size : Int)) then (
  let x3 : ByteArray := (d.2.1.1.extract (Int.toNat (0 : Int)) (Int.toNat (4 : Int)))
  (g_ref24_number ((), ((x3, ()), ()))).bind fun x4 =>
  bif decide ((7 : Int) ≤ (d.2.1.1.size : Int)) then (
  let x5 : ByteArray := (d.2.1.1.extract (Int.toNat (5 : Int)) (Int.toNat (7 : Int)))
  (g_ref24_number ((), ((x5, ()), ()))).bind fun x6 =>
  bif decide ((10 : Int) ≤ (d.2.1.1.size : Int)) then (
  let x7 : ByteArray := (d.2.1.1.extract (Int.toNat (8 : Int)) (Int.toNat (10 : Int)))
  (g_ref24_number ((), ((x7, ()), ()))).bind fun x8 =>
  bif decide ((13 : Int) ≤ (d.2.1.1.size : Int)) then (
  let x9 : ByteArray := (d.2.1.1.extract (Int.toNat (11 : Int)) (Int.toNat (13 : Int)))
  (g_ref24_number ((), ((x9, ()), ()))).bind fun x10 =>
  bif decide ((16 : Int) ≤ (d.2.1.1.size : Int)) then (
  let x11 : ByteArray := (d.2.1.1.extract (Int.toNat (14 : Int)) (Int.toNat (16 : Int)))
  (g_ref24_number ((), ((x11, ()), ()))).bind fun x12 =>
  bif decide ((19 : Int) ≤ (d.2.1.1.size : Int)) then (
  let x13 : ByteArray := (d.2.1.1.extract (Int.toNat (17 : Int)) (Int.toNat (19 : Int)))
  (g_ref24_number ((), ((x13, ()), ()))).bind fun x14 =>
  bif decide ((19 : Int) ≤ (d.2.1.1.size : Int)) && decide ((d.2.1.1.size : Int) ≤ (d.2.1.1.size : Int)) then (
  let x15 : ByteArray := (d.2.1.1.extract (Int.toNat (19 : Int)) (Int.toNat (d.2.1.1.size : Int)))
  let x16 : Int := (x15.size : Int)
  let x17 : Bool := (decide (x16 > (0 : Int)))
  bif x17 then (
  bif decide ((0 : Int) ≤ (0 : Int)) && decide ((0 : Int) < ((x15.size : Int) : Int)) then (
  let x18 : Int := (bt x15 (0 : Int))
  let x19 : Bool := (x18 == (46 : Int))
  bif x19 then (
  bif decide ((1 : Int) ≤ (x15.size : Int)) && decide ((x15.size : Int) ≤ (x15.size : Int)) then (
  let x20 : ByteArray := (x15.extract (Int.toNat (1 : Int)) (Int.toNat (x15.size : Int)))
  (g_ref02_Many ((), ((x20, ()), ()))).bind fun x21 =>
  let x22 : Bool := (x21.2.1.1 == (0 : Int))
  bif x22 then (
  some ((), (((0 : Int), ((0 : Int), ((0 : Int), ((0 : Int), ((0 : Int), ((0 : Int), ((0 : Int), ((0 : Int), ())))))))), (((2 : Int), ()), ()))))
  else (
  let x23 : Int := (iadd .i64 (1 : Int) x21.2.1.1)
  bif decide ((1 : Int) ≤ x23) && decide (x23 ≤ (x15.size : Int)) then (
  let x24 : ByteArray := (x15.extract (Int.toNat (1 : Int)) (Int.toNat x23))
  let x25 : Int := (iadd .i64 (1 : Int) x21.2.1.1)
  bif decide ((0 : Int) ≤ x25) && decide (x25 ≤ (x15.size : Int)) && decide ((x15.size : Int) ≤ (x15.size : Int)) then (
  let x26 : ByteArray := (x15.extract (Int.toNat x25) (Int.toNat (x15.size : Int)))
  (T.1 ((((0 : Int), ((0 : Int), ((0 : Int), ((0 : Int), ((0 : Int), ((0 : Int), ((0 : Int), ((0 : Int), ())))))))), (((0 : Int), ((0 : Int), ((0 : Int), ((0 : Int), ((0 : Int), ((0 : Int), ((0 : Int), ((0 : Int), ())))))))), ((x4.2.1.1, (x6.2.1.1, (x8.2.1.1, (x10.2.1.1, (x12.2.1.1, (x14.2.1.1, ((0 : Int), ((0 : Int), ())))))))), ()))), ((), ((), ((), ((x26, ()), ((x24, ()), ((true, ()), ())))))))))
  else none)
  else none))
  else none)
  else (
  (T.1 ((((0 : Int), ((0 : Int), ((0 : Int), ((0 : Int), ((0 : Int), ((0 : Int), ((0 : Int), ((0 : Int), ())))))))), (((0 : Int), ((0 : Int), ((0 : Int), ((0 : Int), ((0 : Int), ((0 : Int), ((0 : Int), ((0 : Int), ())))))))), ((x4.2.1.1, (x6.2.1.1, (x8.2.1.1, (x10.2.1.1, (x12.2.1.1, (x14.2.1.1, ((0 : Int), ((0 : Int), ())))))))), ()))), ((), ((), ((), ((x15, ()), (((⟨#[]⟩ : ByteArray), ()), ((true, ()), ()))))))))))
  else none)
  else (
  (T.1 ((((0 : Int), ((0 : Int), ((0 : Int), ((0 : Int), ((0 : Int), ((0 : Int), ((0 : Int), ((0 : Int), ())))))))), (((0 : Int), ((0 : Int), ((0 : Int), ((0 : Int), ((0 : Int), ((0 : Int), ((0 : Int), ((0 : Int), ())))))))), ((x4.2.1.1, (x6.2.1.1, (x8.2.1.1, (x10.2.1.1, (x12.2.1.1, (x14.2.1.1, ((0 : Int), ((0 : Int), ())))))))), ()))), ((), ((), ((), ((x15, ()), (((⟨#[]⟩ : ByteArray), ()), ((true, ()), ()))))))))))
  else none)
  else none)
  else none)
  else none)
  else none)
  else none)
  else none)
def c_ref24_Parse : List Nat := [15, 16, 17, 19]
def L_ref24_Parse (k : Nat) : Pts po_ref24_Parse.den := [(15, ⟨sh_ref24_Parse_15, (f_ref24_Parse_t k).1⟩), (17, ⟨sh_ref24_Parse_17, (f_ref24_Parse_t k).2.1⟩), (19, ⟨sh_ref24_Parse_19, (f_ref24_Parse_t k).2.2.1⟩), (16, ⟨sh_ref24_Parse_16, (f_ref24_Parse_t k).2.2.2.1⟩)]
def E_ref24_Parse : Env := (((((E0.add 32 (typedSem pi_ref24_fits po_ref24_fits g_ref24_fits)).add 33 (typedSem pi_ref24_number po_ref24_number g_ref24_number)).add 44 (typedSem pi_ref02_Many po_ref02_Many g_ref02_Many)).add 45 (typedSem pi_ref02_Fraction po_ref02_Fraction g_ref02_Fraction)).add 46 (typedSem pi_ref08_Check po_ref08_Check g_ref08_Check))
theorem q_ref24_Parse_15 (k : Nat) (d : ((Int × (Int × (Int × (Int × (Int × (Int × (Int × (Int × Unit)))))))) × ((Int × (Int × (Int × (Int × (Int × (Int × (Int × (Int × Unit)))))))) × ((Int × (Int × (Int × (Int × (Int × (Int × (Int × (Int × Unit)))))))) × Unit))) × (Unit × (Unit × (Unit × ((ByteArray × Unit) × ((ByteArray × Unit) × ((Bool × Unit) × Unit))))))) : evAt E_ref24_Parse (tab (L_ref24_Parse k)) c_ref24_Parse 15 (bodyOf Tryz.f17) 0 (finK E_ref24_Parse po_ref24_Parse [.cell 2 48, .tmp 3]) (ptSt sh_ref24_Parse_15 d) = f_ref24_Parse_p15 (f_ref24_Parse_t k) d := by kernel_rfl
theorem q_ref24_Parse_17 (k : Nat) (d : ((Int × (Int × (Int × (Int × (Int × (Int × (Int × (Int × Unit)))))))) × ((Int × (Int × (Int × (Int × (Int × (Int × (Int × (Int × Unit)))))))) × ((Int × (Int × (Int × (Int × (Int × (Int × (Int × (Int × Unit)))))))) × Unit))) × (Unit × (Unit × (Unit × ((ByteArray × Unit) × ((ByteArray × Unit) × ((Bool × Unit) × ((Bool × Unit) × Unit)))))))) : evAt E_ref24_Parse (tab (L_ref24_Parse k)) c_ref24_Parse 17 (bodyOf Tryz.f17) 0 (finK E_ref24_Parse po_ref24_Parse [.cell 2 48, .tmp 3]) (ptSt sh_ref24_Parse_17 d) = f_ref24_Parse_p17 (f_ref24_Parse_t k) d := by kernel_rfl
theorem q_ref24_Parse_19 (k : Nat) (d : ((Int × (Int × (Int × (Int × (Int × (Int × (Int × (Int × Unit)))))))) × ((Int × (Int × (Int × (Int × (Int × (Int × (Int × (Int × Unit)))))))) × ((Int × (Int × (Int × (Int × (Int × (Int × (Int × (Int × Unit)))))))) × Unit))) × (Unit × (Unit × (Unit × ((ByteArray × Unit) × ((ByteArray × Unit) × ((Bool × Unit) × Unit))))))) : evAt E_ref24_Parse (tab (L_ref24_Parse k)) c_ref24_Parse 19 (bodyOf Tryz.f17) 0 (finK E_ref24_Parse po_ref24_Parse [.cell 2 48, .tmp 3]) (ptSt sh_ref24_Parse_19 d) = f_ref24_Parse_p19 (f_ref24_Parse_t k) d := by kernel_rfl
theorem q_ref24_Parse_16 (k : Nat) (d : ((Int × (Int × (Int × (Int × (Int × (Int × (Int × (Int × Unit)))))))) × ((Int × (Int × (Int × (Int × (Int × (Int × (Int × (Int × Unit)))))))) × ((Int × (Int × (Int × (Int × (Int × (Int × (Int × (Int × Unit)))))))) × Unit))) × (Unit × (Unit × (Unit × ((ByteArray × Unit) × ((Bool × Unit) × Unit)))))) : evAt E_ref24_Parse (tab (L_ref24_Parse k)) c_ref24_Parse 16 (bodyOf Tryz.f17) 0 (finK E_ref24_Parse po_ref24_Parse [.cell 2 48, .tmp 3]) (ptSt sh_ref24_Parse_16 d) = f_ref24_Parse_p16 (f_ref24_Parse_t k) d := by kernel_rfl
theorem q_ref24_Parse_m (k : Nat) (d : Unit × ((ByteArray × Unit) × Unit)) : evCode E_ref24_Parse (tab (L_ref24_Parse k)) c_ref24_Parse (bodyOf Tryz.f17) 0 (finK E_ref24_Parse po_ref24_Parse [.cell 2 48, .tmp 3]) (startSt pi_ref24_Parse 128 d) = f_ref24_Parse_m (f_ref24_Parse_t k) d := by kernel_rfl
theorem go_ref24_Parse (F : Unit × ((ByteArray × Unit) × Unit) → Option (Unit × ((Int × (Int × (Int × (Int × (Int × (Int × (Int × (Int × Unit)))))))) × ((Int × Unit) × Unit)))) (hF : ∀ d out, F d = some out → ∃ k, f_ref24_Parse_m (f_ref24_Parse_t k) d = some out) : FnOk Tryz.prog ET0 17 pi_ref24_Parse po_ref24_Parse F :=
  fn_of_body (E := E_ref24_Parse) (envOk_add (envOk_add (envOk_add (envOk_add (envOk_add e0_ok (typed_ok ok_ref24_fits)) (typed_ok ok_ref24_number)) (typed_ok ok_ref02_Many)) (typed_ok ok_ref02_Fraction)) (typed_ok ok_ref08_Check)) (fn := Tryz.f17) Tryz.func17 (by kernel_rfl) (by kernel_rfl) [.cell 2 48, .tmp 3] (by kernel_rfl) (by kernel_rfl) (by decide) rfl c_ref24_Parse L_ref24_Parse
    (by intro x hx d; simp only [L_ref24_Parse, List.mem_cons, List.not_mem_nil, or_false] at hx; rcases hx with rfl | rfl | rfl | rfl; rfl; rfl; rfl; rfl)
    (by intro k x hx d out h; simp only [L_ref24_Parse, List.mem_cons, List.not_mem_nil, or_false] at hx; rcases hx with rfl | rfl | rfl | rfl; exact (q_ref24_Parse_15 k d).trans h; exact (q_ref24_Parse_17 k d).trans h; exact (q_ref24_Parse_19 k d).trans h; exact (q_ref24_Parse_16 k d).trans h)
    (by intro d out h; obtain ⟨k, hk⟩ := hF d out h; exact ⟨k, (q_ref24_Parse_m k d).trans hk⟩)
def g_ref24_Parse (d : Unit × ((ByteArray × Unit) × Unit)) : Option (Unit × ((Int × (Int × (Int × (Int × (Int × (Int × (Int × (Int × Unit)))))))) × ((Int × Unit) × Unit))) := lim fun k => f_ref24_Parse_m (f_ref24_Parse_t k) d
theorem ok_ref24_Parse : FnOk Tryz.prog ET0 17 pi_ref24_Parse po_ref24_Parse g_ref24_Parse := go_ref24_Parse g_ref24_Parse fun d out h => lim_some h

/- horologe/horologelaw08.Document -/
@[reducible] def pi_law08_Document : PSh := ⟨[], [.mk true [.v (.int .i64), .v (.int .i64), .v (.int .i64), .v (.int .i64), .v (.int .i64), .v (.int .i64), .v (.int .i64), .v (.int .i64)]]⟩
@[reducible] def po_law08_Document : PSh := ⟨[], [.mk true [.v (.int .i64), .v (.int .i64), .v (.int .i64), .v (.int .i64), .v (.int .i64), .v (.int .i64), .v (.int .i64), .v (.int .i64)]]⟩
def f_law08_Document_m (T : Unit) (d : Unit × ((Int × (Int × (Int × (Int × (Int × (Int × (Int × (Int × Unit)))))))) × Unit)) : Option (Unit × ((Int × (Int × (Int × (Int × (Int × (Int × (Int × (Int × Unit)))))))) × Unit)) :=
  some ((), ((d.2.1.1, (d.2.1.2.1, (d.2.1.2.2.1, (d.2.1.2.2.2.1, (d.2.1.2.2.2.2.1, (d.2.1.2.2.2.2.2.1, (d.2.1.2.2.2.2.2.2.1, (d.2.1.2.2.2.2.2.2.2.1, ())))))))), ()))
def c_law08_Document : List Nat := []
def L_law08_Document (_ : Nat) : Pts po_law08_Document.den := []
def E_law08_Document : Env := E0
theorem q_law08_Document_m (k : Nat) (d : Unit × ((Int × (Int × (Int × (Int × (Int × (Int × (Int × (Int × Unit)))))))) × Unit)) : evCode E_law08_Document (tab (L_law08_Document k)) c_law08_Document (bodyOf Tryz.f18) 0 (finK E_law08_Document po_law08_Document [.cell 2 48]) (startSt pi_law08_Document 20 d) = f_law08_Document_m () d := by kernel_rfl
def g_law08_Document (d : Unit × ((Int × (Int × (Int × (Int × (Int × (Int × (Int × (Int × Unit)))))))) × Unit)) : Option (Unit × ((Int × (Int × (Int × (Int × (Int × (Int × (Int × (Int × Unit)))))))) × Unit)) := f_law08_Document_m () d
theorem ok_law08_Document : FnOk Tryz.prog ET0 18 pi_law08_Document po_law08_Document g_law08_Document :=
  fn_of_body (E := E_law08_Document) e0_ok (fn := Tryz.f18) Tryz.func18 (by kernel_rfl) (by kernel_rfl) [.cell 2 48] (by kernel_rfl) (by kernel_rfl) (by decide) rfl c_law08_Document L_law08_Document
    (by intro x hx; cases hx) (by intro k x hx; cases hx) (fun d out h => ⟨0, (q_law08_Document_m 0 d).trans h⟩)

/- horologe/iso.Valid -/
@[reducible] def pi_iso_Valid : PSh := ⟨[], [.mk false [.v .str]]⟩
@[reducible] def po_iso_Valid : PSh := ⟨[], [.mk false [.v .bool]]⟩
def f_iso_Valid_m (T : Unit) (d : Unit × ((ByteArray × Unit) × Unit)) : Option (Unit × ((Bool × Unit) × Unit)) :=
  (g_iso_Parse ((), ((d.2.1.1, ()), ()))).bind fun x1 =>
  some ((), ((x1.2.2.1.1.isNone, ()), ()))
def c_iso_Valid : List Nat := []
def L_iso_Valid (_ : Nat) : Pts po_iso_Valid.den := []
def E_iso_Valid : Env := (E0.add 16 (typedSem pi_iso_Parse po_iso_Parse g_iso_Parse))
theorem q_iso_Valid_m (k : Nat) (d : Unit × ((ByteArray × Unit) × Unit)) : evCode E_iso_Valid (tab (L_iso_Valid k)) c_iso_Valid (bodyOf Tryz.f19) 0 (finK E_iso_Valid po_iso_Valid [.tmp 2]) (startSt pi_iso_Valid 12 d) = f_iso_Valid_m () d := by kernel_rfl
def g_iso_Valid (d : Unit × ((ByteArray × Unit) × Unit)) : Option (Unit × ((Bool × Unit) × Unit)) := f_iso_Valid_m () d
theorem ok_iso_Valid : FnOk Tryz.prog ET0 19 pi_iso_Valid po_iso_Valid g_iso_Valid :=
  fn_of_body (E := E_iso_Valid) (envOk_add e0_ok (typed_ok ok_iso_Parse)) (fn := Tryz.f19) Tryz.func19 (by kernel_rfl) (by kernel_rfl) [.tmp 2] (by kernel_rfl) (by kernel_rfl) (by decide) rfl c_iso_Valid L_iso_Valid
    (by intro x hx; cases hx) (by intro k x hx; cases hx) (fun d out h => ⟨0, (q_iso_Valid_m 0 d).trans h⟩)

/- horologe/horologeref10.Check -/
@[reducible] def pi_ref10_Check : PSh := ⟨[], [.mk true [.v (.sl (.pair (.int .i64) (.int .i64))), .v (.int .i64), .v (.int .i64)]]⟩
@[reducible] def po_ref10_Check : PSh := ⟨[], [.mk false [.v (.int .i64)]]⟩
@[reducible] def TT_ref10_Check : Type := ((((((List (Int × Int)) × (Int × (Int × Unit))) × Unit) × (Unit × ((Int × Unit) × Unit))) → Option (Unit × ((Int × Unit) × Unit))) × ((((((List (Int × Int)) × (Int × (Int × Unit))) × Unit) × (Unit × ((Int × Unit) × Unit))) → Option (Unit × ((Int × Unit) × Unit))) × ((((((List (Int × Int)) × (Int × (Int × Unit))) × Unit) × (Unit × ((Int × Unit) × Unit))) → Option (Unit × ((Int × Unit) × Unit))) × Unit)))
@[reducible] def sh_ref10_Check_9 : PSh := ⟨[.var 56 [.v (.sl (.pair (.int .i64) (.int .i64))), .v (.int .i64), .v (.int .i64)]], [.any, .mk false [.ref 0 0], .any, .mk false [.v (.int .i64)], .any, .any, .any, .any, .any, .any, .any, .any, .any, .any, .any, .any, .any, .any, .any, .any, .any, .any, .any, .any, .any, .any, .any, .any, .any, .any, .any, .any, .any, .any, .any, .any, .any, .any, .any, .any, .any, .any, .any, .any, .any, .any, .any, .any, .any, .any, .any, .any, .any, .any, .any, .any, .any, .any, .any, .any, .any, .any, .any, .any, .any, .any, .any, .any, .any, .any, .any, .any, .any, .any, .any, .any, .any, .any, .any, .any, .any, .any, .any, .any, .any, .any, .any, .any, .any, .any, .any, .any, .any, .any, .any, .any, .any, .any, .any, .any, .any, .any, .any, .any, .any, .any, .any, .any, .any, .any, .any, .any, .any, .any, .any, .any, .any, .any, .any, .any, .any, .any, .any, .any, .any, .any, .any, .any, .any, .any, .any, .any, .any, .any, .any, .any]⟩
@[reducible] def sh_ref10_Check_21 : PSh := ⟨[.var 56 [.v (.sl (.pair (.int .i64) (.int .i64))), .v (.int .i64), .v (.int .i64)]], [.any, .mk false [.ref 0 0], .any, .any, .any, .mk false [.v (.int .i64)], .any, .any, .any, .any, .any, .any, .any, .any, .any, .any, .any, .any, .any, .any, .any, .any, .any, .any, .any, .any, .any, .any, .any, .any, .any, .any, .any, .any, .any, .any, .any, .any, .any, .any, .any, .any, .any, .any, .any, .any, .any, .any, .any, .any, .any, .any, .any, .any, .any, .any, .any, .any, .any, .any, .any, .any, .any, .any, .any, .any, .any, .any, .any, .any, .any, .any, .any, .any, .any, .any, .any, .any, .any, .any, .any, .any, .any, .any, .any, .any, .any, .any, .any, .any, .any, .any, .any, .any, .any, .any, .any, .any, .any, .any, .any, .any, .any, .any, .any, .any, .any, .any, .any, .any, .any, .any, .any, .any, .any, .any, .any, .any, .any, .any, .any, .any, .any, .any, .any, .any, .any, .any, .any, .any, .any, .any, .any, .any, .any, .any]⟩
@[reducible] def sh_ref10_Check_30 : PSh := ⟨[.var 56 [.v (.sl (.pair (.int .i64) (.int .i64))), .v (.int .i64), .v (.int .i64)]], [.any, .mk false [.ref 0 0], .any, .any, .any, .any, .any, .any, .any, .mk false [.v (.int .i64)], .any, .any, .any, .any, .any, .any, .any, .any, .any, .any, .any, .any, .any, .any, .any, .any, .any, .any, .any, .any, .any, .any, .any, .any, .any, .any, .any, .any, .any, .any, .any, .any, .any, .any, .any, .any, .any, .any, .any, .any, .any, .any, .any, .any, .any, .any, .any, .any, .any, .any, .any, .any, .any, .any, .any, .any, .any, .any, .any, .any, .any, .any, .any, .any, .any, .any, .any, .any, .any, .any, .any, .any, .any, .any, .any, .any, .any, .any, .any, .any, .any, .any, .any, .any, .any, .any, .any, .any, .any, .any, .any, .any, .any, .any, .any, .any, .any, .any, .any, .any, .any, .any, .any, .any, .any, .any, .any, .any, .any, .any, .any, .any, .any, .any, .any, .any, .any, .any, .any, .any, .any, .any, .any, .any, .any, .any]⟩
def f_ref10_Check_p9 (T : TT_ref10_Check) (d : (((List (Int × Int)) × (Int × (Int × Unit))) × Unit) × (Unit × ((Int × Unit) × Unit))) : Option (Unit × ((Int × Unit) × Unit)) :=
  let x5 : Int := (d.1.1.1.length : Int)
  let x6 : Bool := (decide (d.2.2.1.1 < x5))
  bif x6 then (
  bif decide ((0 : Int) ≤ d.2.2.1.1) && decide (d.2.2.1.1 < (d.1.1.1.length : Int)) then (
  (g_ref05_Start ((), (((1900 : Int), ()), ()))).bind fun x7 =>
  let x8 : Bool := (decide ((gd_i64_i64 d.1.1.1 d.2.2.1.1).1 < x7.2.1.1))
  bif x8 then (
  some ((), (((13 : Int), ()), ())))
  else (
  (g_ref05_Last ((), ())).bind fun x9 =>
  let x10 : Bool := (decide ((gd_i64_i64 d.1.1.1 d.2.2.1.1).1 > x9.2.1.1))
  bif x10 then (
  some ((), (((13 : Int), ()), ())))
  else (
  let x11 : Int := (iadd .i64 d.2.2.1.1 (1 : Int))
  (T.1 (((d.1.1.1, (d.1.1.2.1, (d.1.1.2.2.1, ()))), ()), ((), ((x11, ()), ())))))))
  else none)
  else (
  let x12 : Bool := (decide (d.1.1.2.1 < (0 : Int)))
  bif x12 then (
  some ((), (((1 : Int), ()), ())))
  else (
  let x13 : Bool := (decide (d.1.1.2.1 > (1099511627776 : Int)))
  bif x13 then (
  some ((), (((1 : Int), ()), ())))
  else (
  let x14 : Bool := (decide (d.1.1.2.2.1 < (0 : Int)))
  bif x14 then (
  some ((), (((1 : Int), ()), ())))
  else (
  let x15 : Bool := (decide (d.1.1.2.2.1 > (1099511627776 : Int)))
  bif x15 then (
  some ((), (((1 : Int), ()), ())))
  else (
  (T.2.1 (((d.1.1.1, (d.1.1.2.1, (d.1.1.2.2.1, ()))), ()), ((), (((0 : Int), ()), ())))))))))
def f_ref10_Check_p21 (T : TT_ref10_Check) (d : (((List (Int × Int)) × (Int × (Int × Unit))) × Unit) × (Unit × ((Int × Unit) × Unit))) : Option (Unit × ((Int × Unit) × Unit)) :=
  let x16 : Int := (d.1.1.1.length : Int)
  let x17 : Bool := (decide (d.2.2.1.1 < x16))
  bif x17 then (
  bif decide ((0 : Int) ≤ d.2.2.1.1) && decide (d.2.2.1.1 < (d.1.1.1.length : Int)) then (
  (g_ref05_Date ((), (((gd_i64_i64 d.1.1.1 d.2.2.1.1).1, ()), ()))).bind fun x18 =>
  let x19 : Bool := (x18.2.2.2.1.1 != (1 : Int))
  bif x19 then (
  some ((), (((1 : Int), ()), ())))
  else (
  bif decide ((0 : Int) ≤ d.2.2.1.1) && decide (d.2.2.1.1 < (d.1.1.1.length : Int)) then (
  let x20 : Bool := (decide ((gd_i64_i64 d.1.1.1 d.2.2.1.1).2 < (0 : Int)))
  bif x20 then (
  some ((), (((1 : Int), ()), ())))
  else (
  bif decide ((0 : Int) ≤ d.2.2.1.1) && decide (d.2.2.1.1 < (d.1.1.1.length : Int)) then (
  let x21 : Bool := (decide ((gd_i64_i64 d.1.1.1 d.2.2.1.1).2 > (1000 : Int)))
  bif x21 then (
  some ((), (((1 : Int), ()), ())))
  else (
  let x22 : Int := (iadd .i64 d.2.2.1.1 (1 : Int))
  (T.2.1 (((d.1.1.1, (d.1.1.2.1, (d.1.1.2.2.1, ()))), ()), ((), ((x22, ()), ()))))))
  else none))
  else none))
  else none)
  else (
  (T.2.2.1 (((d.1.1.1, (d.1.1.2.1, (d.1.1.2.2.1, ()))), ()), ((), (((1 : Int), ()), ())))))
def f_ref10_Check_p30 (T : TT_ref10_Check) (d : (((List (Int × Int)) × (Int × (Int × Unit))) × Unit) × (Unit × ((Int × Unit) × Unit))) : Option (Unit × ((Int × Unit) × Unit)) :=
  let x23 : Int := (d.1.1.1.length : Int)
  let x24 : Bool := (decide (d.2.2.1.1 < x23))
  bif x24 then (
  let x25 : Int := (isub .i64 d.2.2.1.1 (1 : Int))
  bif decide ((0 : Int) ≤ x25) && decide (x25 < (d.1.1.1.length : Int)) then (
  bif decide ((0 : Int) ≤ d.2.2.1.1) && decide (d.2.2.1.1 < (d.1.1.1.length : Int)) then (
  let x26 : Bool := (decide ((gd_i64_i64 d.1.1.1 d.2.2.1.1).1 ≤ (gd_i64_i64 d.1.1.1 x25).1))
  bif x26 then (
  some ((), (((6 : Int), ()), ())))
  else (
  let x27 : Int := (iadd .i64 (gd_i64_i64 d.1.1.1 x25).2 (1 : Int))
  let x28 : Bool := ((gd_i64_i64 d.1.1.1 d.2.2.1.1).2 != x27)
  bif x28 then (
  let x29 : Int := (isub .i64 (gd_i64_i64 d.1.1.1 x25).2 (1 : Int))
  let x30 : Bool := ((gd_i64_i64 d.1.1.1 d.2.2.1.1).2 != x29)
  bif x30 then (
  some ((), (((6 : Int), ()), ())))
  else (
  let x31 : Int := (iadd .i64 d.2.2.1.1 (1 : Int))
  (T.2.2.1 (((d.1.1.1, (d.1.1.2.1, (d.1.1.2.2.1, ()))), ()), ((), ((x31, ()), ()))))))
  else (
  let x32 : Int := (iadd .i64 d.2.2.1.1 (1 : Int))
  (T.2.2.1 (((d.1.1.1, (d.1.1.2.1, (d.1.1.2.2.1, ()))), ()), ((), ((x32, ()), ())))))))
  else none)
  else none)
  else (
  some ((), (((0 : Int), ()), ())))
def f_ref10_Check_t : Nat → TT_ref10_Check
  | 0 => (fun _ => none, (fun _ => none, (fun _ => none, ())))
  | k + 1 => (f_ref10_Check_p9 (f_ref10_Check_t k), (f_ref10_Check_p21 (f_ref10_Check_t k), (f_ref10_Check_p30 (f_ref10_Check_t k), ())))
theorem t_ref10_Check (k : Nat) : f_ref10_Check_t (k + 1) = (f_ref10_Check_p9 (f_ref10_Check_t k), (f_ref10_Check_p21 (f_ref10_Check_t k), (f_ref10_Check_p30 (f_ref10_Check_t k), ()))) := rfl
def f_ref10_Check_m (T : TT_ref10_Check) (d : Unit × (((List (Int × Int)) × (Int × (Int × Unit))) × Unit)) : Option (Unit × ((Int × Unit) × Unit)) :=
  let x1 : Int := (d.2.1.1.length : Int)
  let x2 : Bool := (x1 == (0 : Int))
  bif x2 then (
  some ((), (((8 : Int), ()), ())))
  else (
  let x3 : Int := (d.2.1.1.length : Int)
  let x4 : Bool := (decide (x3 > (256 : Int)))
  bif x4 then (
  some ((), (((3 : Int), ()), ())))
  else (
  (T.1 (((d.2.1.1, (d.2.1.2.1, (d.2.1.2.2.1, ()))), ()), ((), (((0 : Int), ()), ()))))))
def c_ref10_Check : List Nat := []
def L_ref10_Check (k : Nat) : Pts po_ref10_Check.den := [(9, ⟨sh_ref10_Check_9, (f_ref10_Check_t k).1⟩), (21, ⟨sh_ref10_Check_21, (f_ref10_Check_t k).2.1⟩), (30, ⟨sh_ref10_Check_30, (f_ref10_Check_t k).2.2.1⟩)]
def E_ref10_Check : Env := (((E0.add 10 (typedSem pi_ref05_Start po_ref05_Start g_ref05_Start)).add 11 (typedSem pi_ref05_Last po_ref05_Last g_ref05_Last)).add 13 (typedSem pi_ref05_Date po_ref05_Date g_ref05_Date))
theorem q_ref10_Check_9 (k : Nat) (d : (((List (Int × Int)) × (Int × (Int × Unit))) × Unit) × (Unit × ((Int × Unit) × Unit))) : evAt E_ref10_Check (tab (L_ref10_Check k)) c_ref10_Check 9 (bodyOf Tryz.f21) 0 (finK E_ref10_Check po_ref10_Check [.tmp 2]) (ptSt sh_ref10_Check_9 d) = f_ref10_Check_p9 (f_ref10_Check_t k) d := by kernel_rfl
theorem q_ref10_Check_21 (k : Nat) (d : (((List (Int × Int)) × (Int × (Int × Unit))) × Unit) × (Unit × ((Int × Unit) × Unit))) : evAt E_ref10_Check (tab (L_ref10_Check k)) c_ref10_Check 21 (bodyOf Tryz.f21) 0 (finK E_ref10_Check po_ref10_Check [.tmp 2]) (ptSt sh_ref10_Check_21 d) = f_ref10_Check_p21 (f_ref10_Check_t k) d := by kernel_rfl
theorem q_ref10_Check_30 (k : Nat) (d : (((List (Int × Int)) × (Int × (Int × Unit))) × Unit) × (Unit × ((Int × Unit) × Unit))) : evAt E_ref10_Check (tab (L_ref10_Check k)) c_ref10_Check 30 (bodyOf Tryz.f21) 0 (finK E_ref10_Check po_ref10_Check [.tmp 2]) (ptSt sh_ref10_Check_30 d) = f_ref10_Check_p30 (f_ref10_Check_t k) d := by kernel_rfl
theorem q_ref10_Check_m (k : Nat) (d : Unit × (((List (Int × Int)) × (Int × (Int × Unit))) × Unit)) : evCode E_ref10_Check (tab (L_ref10_Check k)) c_ref10_Check (bodyOf Tryz.f21) 0 (finK E_ref10_Check po_ref10_Check [.tmp 2]) (startSt pi_ref10_Check 136 d) = f_ref10_Check_m (f_ref10_Check_t k) d := by kernel_rfl
theorem go_ref10_Check (F : Unit × (((List (Int × Int)) × (Int × (Int × Unit))) × Unit) → Option (Unit × ((Int × Unit) × Unit))) (hF : ∀ d out, F d = some out → ∃ k, f_ref10_Check_m (f_ref10_Check_t k) d = some out) : FnOk Tryz.prog ET0 21 pi_ref10_Check po_ref10_Check F :=
  fn_of_body (E := E_ref10_Check) (envOk_add (envOk_add (envOk_add e0_ok (typed_ok ok_ref05_Start)) (typed_ok ok_ref05_Last)) (typed_ok ok_ref05_Date)) (fn := Tryz.f21) Tryz.func21 (by kernel_rfl) (by kernel_rfl) [.tmp 2] (by kernel_rfl) (by kernel_rfl) (by decide) rfl c_ref10_Check L_ref10_Check
    (by intro x hx d; simp only [L_ref10_Check, List.mem_cons, List.not_mem_nil, or_false] at hx; rcases hx with rfl | rfl | rfl; rfl; rfl; rfl)
    (by intro k x hx d out h; simp only [L_ref10_Check, List.mem_cons, List.not_mem_nil, or_false] at hx; rcases hx with rfl | rfl | rfl; exact (q_ref10_Check_9 k d).trans h; exact (q_ref10_Check_21 k d).trans h; exact (q_ref10_Check_30 k d).trans h)
    (by intro d out h; obtain ⟨k, hk⟩ := hF d out h; exact ⟨k, (q_ref10_Check_m k d).trans hk⟩)
def g_ref10_Check (d : Unit × (((List (Int × Int)) × (Int × (Int × Unit))) × Unit)) : Option (Unit × ((Int × Unit) × Unit)) := lim fun k => f_ref10_Check_m (f_ref10_Check_t k) d
theorem ok_ref10_Check : FnOk Tryz.prog ET0 21 pi_ref10_Check po_ref10_Check g_ref10_Check := go_ref10_Check g_ref10_Check fun d out h => lim_some h

/- (horologe/leap.Row).dated -/
@[reducible] def pi_leap_Row_dated : PSh := ⟨[], [.mk true [.v (.int .i64), .v (.int .i64)]]⟩
@[reducible] def po_leap_Row_dated : PSh := ⟨[], [.mk false [.v .bool]]⟩
def f_leap_Row_dated_m (T : Unit) (d : Unit × ((Int × (Int × Unit)) × Unit)) : Option (Unit × ((Bool × Unit) × Unit)) :=
  (g_day_Date ((), ((d.2.1.1, ()), ()))).bind fun x1 =>
  bif x1.2.2.2.2.1.1.isNone then (
  let x2 : Bool := (decide (x1.2.1.1 ≥ (1900 : Int)))
  some ((), ((x2, ()), ())))
  else (
  some ((), ((false, ()), ())))
def c_leap_Row_dated : List Nat := []
def L_leap_Row_dated (_ : Nat) : Pts po_leap_Row_dated.den := []
def E_leap_Row_dated : Env := (E0.add 26 (typedSem pi_day_Date po_day_Date g_day_Date))
theorem q_leap_Row_dated_m (k : Nat) (d : Unit × ((Int × (Int × Unit)) × Unit)) : evCode E_leap_Row_dated (tab (L_leap_Row_dated k)) c_leap_Row_dated (bodyOf Tryz.f80) 0 (finK E_leap_Row_dated po_leap_Row_dated [.tmp 2]) (startSt pi_leap_Row_dated 21 d) = f_leap_Row_dated_m () d := by kernel_rfl
def g_leap_Row_dated (d : Unit × ((Int × (Int × Unit)) × Unit)) : Option (Unit × ((Bool × Unit) × Unit)) := f_leap_Row_dated_m () d
theorem ok_leap_Row_dated : FnOk Tryz.prog ET0 80 pi_leap_Row_dated po_leap_Row_dated g_leap_Row_dated :=
  fn_of_body (E := E_leap_Row_dated) (envOk_add e0_ok (typed_ok ok_day_Date)) (fn := Tryz.f80) Tryz.func80 (by kernel_rfl) (by kernel_rfl) [.tmp 2] (by kernel_rfl) (by kernel_rfl) (by decide) rfl c_leap_Row_dated L_leap_Row_dated
    (by intro x hx; cases hx) (by intro k x hx; cases hx) (fun d out h => ⟨0, (q_leap_Row_dated_m 0 d).trans h⟩)

/- horologe/leap.New$1 -/
@[reducible] def pi_leap_New_1 : PSh := ⟨[], [.mk true [.v (.int .i64), .v (.int .i64)]]⟩
@[reducible] def po_leap_New_1 : PSh := ⟨[], [.mk false [.v .bool]]⟩
def f_leap_New_1_m (T : Unit) (d : Unit × ((Int × (Int × Unit)) × Unit)) : Option (Unit × ((Bool × Unit) × Unit)) :=
  (g_leap_Row_dated ((), ((d.2.1.1, (d.2.1.2.1, ())), ()))).bind fun x1 =>
  let x2 : Bool := (!x1.2.1.1)
  some ((), ((x2, ()), ()))
def c_leap_New_1 : List Nat := []
def L_leap_New_1 (_ : Nat) : Pts po_leap_New_1.den := []
def E_leap_New_1 : Env := (E0.add 80 (typedSem pi_leap_Row_dated po_leap_Row_dated g_leap_Row_dated))
theorem q_leap_New_1_m (k : Nat) (d : Unit × ((Int × (Int × Unit)) × Unit)) : evCode E_leap_New_1 (tab (L_leap_New_1 k)) c_leap_New_1 (bodyOf Tryz.f79) 0 (finK E_leap_New_1 po_leap_New_1 [.tmp 2]) (startSt pi_leap_New_1 6 d) = f_leap_New_1_m () d := by kernel_rfl
def g_leap_New_1 (d : Unit × ((Int × (Int × Unit)) × Unit)) : Option (Unit × ((Bool × Unit) × Unit)) := f_leap_New_1_m () d
theorem ok_leap_New_1 : FnOk Tryz.prog ET0 79 pi_leap_New_1 po_leap_New_1 g_leap_New_1 :=
  fn_of_body (E := E_leap_New_1) (envOk_add e0_ok (typed_ok ok_leap_Row_dated)) (fn := Tryz.f79) Tryz.func79 (by kernel_rfl) (by kernel_rfl) [.tmp 2] (by kernel_rfl) (by kernel_rfl) (by decide) rfl c_leap_New_1 L_leap_New_1
    (by intro x hx; cases hx) (by intro k x hx; cases hx) (fun d out h => ⟨0, (q_leap_New_1_m 0 d).trans h⟩)

/- (horologe/leap.Row).may -/
@[reducible] def pi_leap_Row_may : PSh := ⟨[], [.mk true [.v (.int .i64), .v (.int .i64)]]⟩
@[reducible] def po_leap_Row_may : PSh := ⟨[], [.mk false [.v .bool]]⟩
def f_leap_Row_may_m (T : Unit) (d : Unit × ((Int × (Int × Unit)) × Unit)) : Option (Unit × ((Bool × Unit) × Unit)) :=
  (g_day_Date ((), ((d.2.1.1, ()), ()))).bind fun x1 =>
  bif x1.2.2.2.2.1.1.isNone then (
  let x2 : Bool := (x1.2.2.2.1.1 == (1 : Int))
  bif x2 then (
  let x3 : Bool := (decide (d.2.1.2.1 ≥ (0 : Int)))
  bif x3 then (
  let x4 : Bool := (decide (d.2.1.2.1 ≤ (1000 : Int)))
  some ((), ((x4, ()), ())))
  else (
  some ((), ((false, ()), ()))))
  else (
  some ((), ((false, ()), ()))))
  else (
  some ((), ((false, ()), ())))
def c_leap_Row_may : List Nat := []
def L_leap_Row_may (_ : Nat) : Pts po_leap_Row_may.den := []
def E_leap_Row_may : Env := (E0.add 26 (typedSem pi_day_Date po_day_Date g_day_Date))
theorem q_leap_Row_may_m (k : Nat) (d : Unit × ((Int × (Int × Unit)) × Unit)) : evCode E_leap_Row_may (tab (L_leap_Row_may k)) c_leap_Row_may (bodyOf Tryz.f82) 0 (finK E_leap_Row_may po_leap_Row_may [.tmp 2]) (startSt pi_leap_Row_may 31 d) = f_leap_Row_may_m () d := by kernel_rfl
def g_leap_Row_may (d : Unit × ((Int × (Int × Unit)) × Unit)) : Option (Unit × ((Bool × Unit) × Unit)) := f_leap_Row_may_m () d
theorem ok_leap_Row_may : FnOk Tryz.prog ET0 82 pi_leap_Row_may po_leap_Row_may g_leap_Row_may :=
  fn_of_body (E := E_leap_Row_may) (envOk_add e0_ok (typed_ok ok_day_Date)) (fn := Tryz.f82) Tryz.func82 (by kernel_rfl) (by kernel_rfl) [.tmp 2] (by kernel_rfl) (by kernel_rfl) (by decide) rfl c_leap_Row_may L_leap_Row_may
    (by intro x hx; cases hx) (by intro k x hx; cases hx) (fun d out h => ⟨0, (q_leap_Row_may_m 0 d).trans h⟩)

/- horologe/leap.New$2 -/
@[reducible] def pi_leap_New_2 : PSh := ⟨[], [.mk true [.v (.int .i64), .v (.int .i64)]]⟩
@[reducible] def po_leap_New_2 : PSh := ⟨[], [.mk false [.v .bool]]⟩
def f_leap_New_2_m (T : Unit) (d : Unit × ((Int × (Int × Unit)) × Unit)) : Option (Unit × ((Bool × Unit) × Unit)) :=
  (g_leap_Row_may ((), ((d.2.1.1, (d.2.1.2.1, ())), ()))).bind fun x1 =>
  let x2 : Bool := (!x1.2.1.1)
  some ((), ((x2, ()), ()))
def c_leap_New_2 : List Nat := []
def L_leap_New_2 (_ : Nat) : Pts po_leap_New_2.den := []
def E_leap_New_2 : Env := (E0.add 82 (typedSem pi_leap_Row_may po_leap_Row_may g_leap_Row_may))
theorem q_leap_New_2_m (k : Nat) (d : Unit × ((Int × (Int × Unit)) × Unit)) : evCode E_leap_New_2 (tab (L_leap_New_2 k)) c_leap_New_2 (bodyOf Tryz.f81) 0 (finK E_leap_New_2 po_leap_New_2 [.tmp 2]) (startSt pi_leap_New_2 6 d) = f_leap_New_2_m () d := by kernel_rfl
def g_leap_New_2 (d : Unit × ((Int × (Int × Unit)) × Unit)) : Option (Unit × ((Bool × Unit) × Unit)) := f_leap_New_2_m () d
theorem ok_leap_New_2 : FnOk Tryz.prog ET0 81 pi_leap_New_2 po_leap_New_2 g_leap_New_2 :=
  fn_of_body (E := E_leap_New_2) (envOk_add e0_ok (typed_ok ok_leap_Row_may)) (fn := Tryz.f81) Tryz.func81 (by kernel_rfl) (by kernel_rfl) [.tmp 2] (by kernel_rfl) (by kernel_rfl) (by decide) rfl c_leap_New_2 L_leap_New_2
    (by intro x hx; cases hx) (by intro k x hx; cases hx) (fun d out h => ⟨0, (q_leap_New_2_m 0 d).trans h⟩)

/- horologe/leap.time -/
@[reducible] def pi_leap_time : PSh := ⟨[], [.mk false [.v (.int .i64)]]⟩
@[reducible] def po_leap_time : PSh := ⟨[], [.mk false [.v .bool]]⟩
def f_leap_time_m (T : Unit) (d : Unit × ((Int × Unit) × Unit)) : Option (Unit × ((Bool × Unit) × Unit)) :=
  let x1 : Bool := (decide (d.2.1.1 ≥ (0 : Int)))
  bif x1 then (
  let x2 : Bool := (decide (d.2.1.1 ≤ (1099511627776 : Int)))
  some ((), ((x2, ()), ())))
  else (
  some ((), ((false, ()), ())))
def c_leap_time : List Nat := []
def L_leap_time (_ : Nat) : Pts po_leap_time.den := []
def E_leap_time : Env := E0
theorem q_leap_time_m (k : Nat) (d : Unit × ((Int × Unit) × Unit)) : evCode E_leap_time (tab (L_leap_time k)) c_leap_time (bodyOf Tryz.f84) 0 (finK E_leap_time po_leap_time [.tmp 2]) (startSt pi_leap_time 9 d) = f_leap_time_m () d := by kernel_rfl
def g_leap_time (d : Unit × ((Int × Unit) × Unit)) : Option (Unit × ((Bool × Unit) × Unit)) := f_leap_time_m () d
theorem ok_leap_time : FnOk Tryz.prog ET0 84 pi_leap_time po_leap_time g_leap_time :=
  fn_of_body (E := E_leap_time) e0_ok (fn := Tryz.f84) Tryz.func84 (by kernel_rfl) (by kernel_rfl) [.tmp 2] (by kernel_rfl) (by kernel_rfl) (by decide) rfl c_leap_time L_leap_time
    (by intro x hx; cases hx) (by intro k x hx; cases hx) (fun d out h => ⟨0, (q_leap_time_m 0 d).trans h⟩)

/- (horologe/leap.Row).follows -/
@[reducible] def pi_leap_Row_follows : PSh := ⟨[], [.mk true [.v (.int .i64), .v (.int .i64)], .mk true [.v (.int .i64), .v (.int .i64)]]⟩
@[reducible] def po_leap_Row_follows : PSh := ⟨[], [.mk false [.v .bool]]⟩
def f_leap_Row_follows_m (T : Unit) (d : Unit × ((Int × (Int × Unit)) × ((Int × (Int × Unit)) × Unit))) : Option (Unit × ((Bool × Unit) × Unit)) :=
  let x1 : Int := (isub .i64 d.2.1.2.1 d.2.2.1.2.1)
  let x2 : Bool := (decide (d.2.1.1 > d.2.2.1.1))
  bif x2 then (
  let x3 : Bool := (x1 == (1 : Int))
  bif x3 then (
  some ((), ((true, ()), ())))
  else (
  let x4 : Bool := (x1 == (-1 : Int))
  some ((), ((x4, ()), ()))))
  else (
  some ((), ((false, ()), ())))
def c_leap_Row_follows : List Nat := []
def L_leap_Row_follows (_ : Nat) : Pts po_leap_Row_follows.den := []
def E_leap_Row_follows : Env := E0
theorem q_leap_Row_follows_m (k : Nat) (d : Unit × ((Int × (Int × Unit)) × ((Int × (Int × Unit)) × Unit))) : evCode E_leap_Row_follows (tab (L_leap_Row_follows k)) c_leap_Row_follows (bodyOf Tryz.f112) 0 (finK E_leap_Row_follows po_leap_Row_follows [.tmp 4]) (startSt pi_leap_Row_follows 24 d) = f_leap_Row_follows_m () d := by kernel_rfl
def g_leap_Row_follows (d : Unit × ((Int × (Int × Unit)) × ((Int × (Int × Unit)) × Unit))) : Option (Unit × ((Bool × Unit) × Unit)) := f_leap_Row_follows_m () d
theorem ok_leap_Row_follows : FnOk Tryz.prog ET0 112 pi_leap_Row_follows po_leap_Row_follows g_leap_Row_follows :=
  fn_of_body (E := E_leap_Row_follows) e0_ok (fn := Tryz.f112) Tryz.func112 (by kernel_rfl) (by kernel_rfl) [.tmp 4] (by kernel_rfl) (by kernel_rfl) (by decide) rfl c_leap_Row_follows L_leap_Row_follows
    (by intro x hx; cases hx) (by intro k x hx; cases hx) (fun d out h => ⟨0, (q_leap_Row_follows_m 0 d).trans h⟩)

/- horologe/leap.rise -/
@[reducible] def pi_leap_rise : PSh := ⟨[], [.mk false [.v (.sl (.pair (.int .i64) (.int .i64)))]]⟩
@[reducible] def po_leap_rise : PSh := ⟨[], [.mk false [.v .bool]]⟩
@[reducible] def TT_leap_rise : Type := (((Unit × (((List (Int × Int)) × Unit) × ((Int × Unit) × Unit))) → Option (Unit × ((Bool × Unit) × Unit))) × Unit)
@[reducible] def sh_leap_rise_3 : PSh := ⟨[], [.mk false [.v (.sl (.pair (.int .i64) (.int .i64)))], .any, .any, .mk false [.v (.int .i64)], .any, .any, .any, .any, .any, .any, .any, .any, .any, .any, .any, .any, .any, .any, .any, .any, .any]⟩
def f_leap_rise_p3 (T : TT_leap_rise) (d : Unit × (((List (Int × Int)) × Unit) × ((Int × Unit) × Unit))) : Option (Unit × ((Bool × Unit) × Unit)) :=
  let x1 : Int := (d.2.1.1.length : Int)
  let x2 : Bool := (decide (d.2.2.1.1 < x1))
  bif x2 then (
  bif decide ((0 : Int) ≤ d.2.2.1.1) && decide (d.2.2.1.1 < (d.2.1.1.length : Int)) then (
  let x3 : Int := (isub .i64 d.2.2.1.1 (1 : Int))
  bif decide ((0 : Int) ≤ x3) && decide (x3 < (d.2.1.1.length : Int)) then (
  (g_leap_Row_follows ((), (((gd_i64_i64 d.2.1.1 d.2.2.1.1).1, ((gd_i64_i64 d.2.1.1 d.2.2.1.1).2, ())), (((gd_i64_i64 d.2.1.1 x3).1, ((gd_i64_i64 d.2.1.1 x3).2, ())), ())))).bind fun x4 =>
  let x5 : Bool := (!x4.2.1.1)
  bif x5 then (
  some ((), ((false, ()), ())))
  else (
  let x6 : Int := (iadd .i64 d.2.2.1.1 (1 : Int))
  (T.1 ((), ((d.2.1.1, ()), ((x6, ()), ()))))))
  else none)
  else none)
  else (
  some ((), ((true, ()), ())))
def f_leap_rise_t : Nat → TT_leap_rise
  | 0 => (fun _ => none, ())
  | k + 1 => (f_leap_rise_p3 (f_leap_rise_t k), ())
theorem t_leap_rise (k : Nat) : f_leap_rise_t (k + 1) = (f_leap_rise_p3 (f_leap_rise_t k), ()) := rfl
def f_leap_rise_m (T : TT_leap_rise) (d : Unit × (((List (Int × Int)) × Unit) × Unit)) : Option (Unit × ((Bool × Unit) × Unit)) :=
  (T.1 ((), ((d.2.1.1, ()), (((1 : Int), ()), ()))))
def c_leap_rise : List Nat := []
def L_leap_rise (k : Nat) : Pts po_leap_rise.den := [(3, ⟨sh_leap_rise_3, (f_leap_rise_t k).1⟩)]
def E_leap_rise : Env := (E0.add 112 (typedSem pi_leap_Row_follows po_leap_Row_follows g_leap_Row_follows))
theorem q_leap_rise_3 (k : Nat) (d : Unit × (((List (Int × Int)) × Unit) × ((Int × Unit) × Unit))) : evAt E_leap_rise (tab (L_leap_rise k)) c_leap_rise 3 (bodyOf Tryz.f85) 0 (finK E_leap_rise po_leap_rise [.tmp 2]) (ptSt sh_leap_rise_3 d) = f_leap_rise_p3 (f_leap_rise_t k) d := by kernel_rfl
theorem q_leap_rise_m (k : Nat) (d : Unit × (((List (Int × Int)) × Unit) × Unit)) : evCode E_leap_rise (tab (L_leap_rise k)) c_leap_rise (bodyOf Tryz.f85) 0 (finK E_leap_rise po_leap_rise [.tmp 2]) (startSt pi_leap_rise 21 d) = f_leap_rise_m (f_leap_rise_t k) d := by kernel_rfl
theorem go_leap_rise (F : Unit × (((List (Int × Int)) × Unit) × Unit) → Option (Unit × ((Bool × Unit) × Unit))) (hF : ∀ d out, F d = some out → ∃ k, f_leap_rise_m (f_leap_rise_t k) d = some out) : FnOk Tryz.prog ET0 85 pi_leap_rise po_leap_rise F :=
  fn_of_body (E := E_leap_rise) (envOk_add e0_ok (typed_ok ok_leap_Row_follows)) (fn := Tryz.f85) Tryz.func85 (by kernel_rfl) (by kernel_rfl) [.tmp 2] (by kernel_rfl) (by kernel_rfl) (by decide) rfl c_leap_rise L_leap_rise
    (by intro x hx d; simp only [L_leap_rise, List.mem_cons, List.not_mem_nil, or_false] at hx; subst hx; rfl)
    (by intro k x hx d out h; simp only [L_leap_rise, List.mem_cons, List.not_mem_nil, or_false] at hx; subst hx; exact (q_leap_rise_3 k d).trans h)
    (by intro d out h; obtain ⟨k, hk⟩ := hF d out h; exact ⟨k, (q_leap_rise_m k d).trans hk⟩)
def g_leap_rise (d : Unit × (((List (Int × Int)) × Unit) × Unit)) : Option (Unit × ((Bool × Unit) × Unit)) := lim fun k => f_leap_rise_m (f_leap_rise_t k) d
theorem ok_leap_rise : FnOk Tryz.prog ET0 85 pi_leap_rise po_leap_rise g_leap_rise := go_leap_rise g_leap_rise fun d out h => lim_some h

/- slices.Clone[[]horologe/leap.Row,horologe/leap.Row] -/
@[reducible] def pi_slices_Clone_leap_Row_leap_Row : PSh := ⟨[], [.mk false [.v (.sl (.pair (.int .i64) (.int .i64)))]]⟩
@[reducible] def po_slices_Clone_leap_Row_leap_Row : PSh := ⟨[.row 128 (.pair (.int .i64) (.int .i64))], [.mk false [.osl 0]]⟩
def f_slices_Clone_leap_Row_leap_Row_m (T : Unit) (d : Unit × (((List (Int × Int)) × Unit) × Unit)) : Option (((List (Int × Int)) × Unit) × (Unit × Unit)) :=
  bif d.2.1.1.isEmpty then (
  agree (
  some ((([] : List (Int × Int)), ()), ((), ()))) (
  let x1 : (List (Int × Int)) := ([] : List (Int × Int))
  bif decide (((x1.length + d.2.1.1.length) * 16 : Nat) ≤ 140737488355328) && decide (x1.length + d.2.1.1.length ≤ 9223372036854775807) then (
  let x2 : (List (Int × Int)) := (x1 ++ d.2.1.1)
  some ((x2, ()), ((), ())))
  else none))
  else (
  let x3 : (List (Int × Int)) := ([] : List (Int × Int))
  bif decide (((x3.length + d.2.1.1.length) * 16 : Nat) ≤ 140737488355328) && decide (x3.length + d.2.1.1.length ≤ 9223372036854775807) then (
  let x4 : (List (Int × Int)) := (x3 ++ d.2.1.1)
  some ((x4, ()), ((), ())))
  else none)
def c_slices_Clone_leap_Row_leap_Row : List Nat := []
def L_slices_Clone_leap_Row_leap_Row (_ : Nat) : Pts po_slices_Clone_leap_Row_leap_Row.den := []
def E_slices_Clone_leap_Row_leap_Row : Env := E0
theorem q_slices_Clone_leap_Row_leap_Row_m (k : Nat) (d : Unit × (((List (Int × Int)) × Unit) × Unit)) : evCode E_slices_Clone_leap_Row_leap_Row (tab (L_slices_Clone_leap_Row_leap_Row k)) c_slices_Clone_leap_Row_leap_Row (bodyOf Tryz.f86) 0 (finK E_slices_Clone_leap_Row_leap_Row po_slices_Clone_leap_Row_leap_Row [.tmp 2]) (startSt pi_slices_Clone_leap_Row_leap_Row 8 d) = f_slices_Clone_leap_Row_leap_Row_m () d := by kernel_rfl
def g_slices_Clone_leap_Row_leap_Row (d : Unit × (((List (Int × Int)) × Unit) × Unit)) : Option (((List (Int × Int)) × Unit) × (Unit × Unit)) := f_slices_Clone_leap_Row_leap_Row_m () d
theorem ok_slices_Clone_leap_Row_leap_Row : FnOk Tryz.prog ET0 86 pi_slices_Clone_leap_Row_leap_Row po_slices_Clone_leap_Row_leap_Row g_slices_Clone_leap_Row_leap_Row :=
  fn_of_body (E := E_slices_Clone_leap_Row_leap_Row) e0_ok (fn := Tryz.f86) Tryz.func86 (by kernel_rfl) (by kernel_rfl) [.tmp 2] (by kernel_rfl) (by kernel_rfl) (by decide) rfl c_slices_Clone_leap_Row_leap_Row L_slices_Clone_leap_Row_leap_Row
    (by intro x hx; cases hx) (by intro k x hx; cases hx) (fun d out h => ⟨0, (q_slices_Clone_leap_Row_leap_Row_m 0 d).trans h⟩)

/- slices.IndexFunc[[]horologe/leap.Row,horologe/leap.Row] -/
@[reducible] def pi_slices_IndexFunc_leap_Row_leap_Row_leap_New_1 : PSh := ⟨[], [.mk false [.v (.sl (.pair (.int .i64) (.int .i64)))], .mk false [.fn 79 []]]⟩
@[reducible] def po_slices_IndexFunc_leap_Row_leap_Row_leap_New_1 : PSh := ⟨[], [.mk false [.v (.int .i64)]]⟩
@[reducible] def TT_slices_IndexFunc_leap_Row_leap_Row_leap_New_1 : Type := (((Unit × (((List (Int × Int)) × Unit) × (Unit × ((Int × Unit) × ((Int × Unit) × Unit))))) → Option (Unit × ((Int × Unit) × Unit))) × Unit)
@[reducible] def sh_slices_IndexFunc_leap_Row_leap_Row_leap_New_1_3 : PSh := ⟨[], [.mk false [.v (.sl (.pair (.int .i64) (.int .i64)))], .mk false [.fn 79 []], .any, .any, .any, .any, .any, .mk false [.v (.int .i64)], .mk false [.v (.int .i64)], .any, .any, .any, .any, .any, .any, .any, .any, .any, .any]⟩
def f_slices_IndexFunc_leap_Row_leap_Row_leap_New_1_p3 (T : TT_slices_IndexFunc_leap_Row_leap_Row_leap_New_1) (d : Unit × (((List (Int × Int)) × Unit) × (Unit × ((Int × Unit) × ((Int × Unit) × Unit))))) : Option (Unit × ((Int × Unit) × Unit)) :=
  let x2 : Bool := (decide (d.2.2.2.2.1.1 < d.2.2.2.1.1))
  bif x2 then (
  bif decide ((0 : Int) ≤ d.2.2.2.2.1.1) && decide (d.2.2.2.2.1.1 < (d.2.1.1.length : Int)) then (
  (g_leap_New_1 ((), (((gd_i64_i64 d.2.1.1 d.2.2.2.2.1.1).1, ((gd_i64_i64 d.2.1.1 d.2.2.2.2.1.1).2, ())), ()))).bind fun x3 =>
  bif x3.2.1.1 then (
  some ((), ((d.2.2.2.2.1.1, ()), ())))
  else (
  let x4 : Int := (iadd .i64 d.2.2.2.2.1.1 (1 : Int))
  (T.1 ((), ((d.2.1.1, ()), ((), ((d.2.2.2.1.1, ()), ((x4, ()), ()))))))))
  else none)
  else (
  some ((), (((-1 : Int), ()), ())))
def f_slices_IndexFunc_leap_Row_leap_Row_leap_New_1_t : Nat → TT_slices_IndexFunc_leap_Row_leap_Row_leap_New_1
  | 0 => (fun _ => none, ())
  | k + 1 => (f_slices_IndexFunc_leap_Row_leap_Row_leap_New_1_p3 (f_slices_IndexFunc_leap_Row_leap_Row_leap_New_1_t k), ())
theorem t_slices_IndexFunc_leap_Row_leap_Row_leap_New_1 (k : Nat) : f_slices_IndexFunc_leap_Row_leap_Row_leap_New_1_t (k + 1) = (f_slices_IndexFunc_leap_Row_leap_Row_leap_New_1_p3 (f_slices_IndexFunc_leap_Row_leap_Row_leap_New_1_t k), ()) := rfl
def f_slices_IndexFunc_leap_Row_leap_Row_leap_New_1_m (T : TT_slices_IndexFunc_leap_Row_leap_Row_leap_New_1) (d : Unit × (((List (Int × Int)) × Unit) × (Unit × Unit))) : Option (Unit × ((Int × Unit) × Unit)) :=
  let x1 : Int := (d.2.1.1.length : Int)
  (T.1 ((), ((d.2.1.1, ()), ((), ((x1, ()), (((0 : Int), ()), ()))))))
def c_slices_IndexFunc_leap_Row_leap_Row_leap_New_1 : List Nat := []
def L_slices_IndexFunc_leap_Row_leap_Row_leap_New_1 (k : Nat) : Pts po_slices_IndexFunc_leap_Row_leap_Row_leap_New_1.den := [(3, ⟨sh_slices_IndexFunc_leap_Row_leap_Row_leap_New_1_3, (f_slices_IndexFunc_leap_Row_leap_Row_leap_New_1_t k).1⟩)]
def E_slices_IndexFunc_leap_Row_leap_Row_leap_New_1 : Env := (E0.add 79 (typedSem pi_leap_New_1 po_leap_New_1 g_leap_New_1))
theorem q_slices_IndexFunc_leap_Row_leap_Row_leap_New_1_3 (k : Nat) (d : Unit × (((List (Int × Int)) × Unit) × (Unit × ((Int × Unit) × ((Int × Unit) × Unit))))) : evAt E_slices_IndexFunc_leap_Row_leap_Row_leap_New_1 (tab (L_slices_IndexFunc_leap_Row_leap_Row_leap_New_1 k)) c_slices_IndexFunc_leap_Row_leap_Row_leap_New_1 3 (bodyOf Tryz.f111) 0 (finK E_slices_IndexFunc_leap_Row_leap_Row_leap_New_1 po_slices_IndexFunc_leap_Row_leap_Row_leap_New_1 [.tmp 4]) (ptSt sh_slices_IndexFunc_leap_Row_leap_Row_leap_New_1_3 d) = f_slices_IndexFunc_leap_Row_leap_Row_leap_New_1_p3 (f_slices_IndexFunc_leap_Row_leap_Row_leap_New_1_t k) d := by kernel_rfl
theorem q_slices_IndexFunc_leap_Row_leap_Row_leap_New_1_m (k : Nat) (d : Unit × (((List (Int × Int)) × Unit) × (Unit × Unit))) : evCode E_slices_IndexFunc_leap_Row_leap_Row_leap_New_1 (tab (L_slices_IndexFunc_leap_Row_leap_Row_leap_New_1 k)) c_slices_IndexFunc_leap_Row_leap_Row_leap_New_1 (bodyOf Tryz.f111) 0 (finK E_slices_IndexFunc_leap_Row_leap_Row_leap_New_1 po_slices_IndexFunc_leap_Row_leap_Row_leap_New_1 [.tmp 4]) (startSt pi_slices_IndexFunc_leap_Row_leap_Row_leap_New_1 19 d) = f_slices_IndexFunc_leap_Row_leap_Row_leap_New_1_m (f_slices_IndexFunc_leap_Row_leap_Row_leap_New_1_t k) d := by kernel_rfl
theorem go_slices_IndexFunc_leap_Row_leap_Row_leap_New_1 (F : Unit × (((List (Int × Int)) × Unit) × (Unit × Unit)) → Option (Unit × ((Int × Unit) × Unit))) (hF : ∀ d out, F d = some out → ∃ k, f_slices_IndexFunc_leap_Row_leap_Row_leap_New_1_m (f_slices_IndexFunc_leap_Row_leap_Row_leap_New_1_t k) d = some out) : FnOk Tryz.prog ET0 111 pi_slices_IndexFunc_leap_Row_leap_Row_leap_New_1 po_slices_IndexFunc_leap_Row_leap_Row_leap_New_1 F :=
  fn_of_body (E := E_slices_IndexFunc_leap_Row_leap_Row_leap_New_1) (envOk_add e0_ok (typed_ok ok_leap_New_1)) (fn := Tryz.f111) Tryz.func111 (by kernel_rfl) (by kernel_rfl) [.tmp 4] (by kernel_rfl) (by kernel_rfl) (by decide) rfl c_slices_IndexFunc_leap_Row_leap_Row_leap_New_1 L_slices_IndexFunc_leap_Row_leap_Row_leap_New_1
    (by intro x hx d; simp only [L_slices_IndexFunc_leap_Row_leap_Row_leap_New_1, List.mem_cons, List.not_mem_nil, or_false] at hx; subst hx; rfl)
    (by intro k x hx d out h; simp only [L_slices_IndexFunc_leap_Row_leap_Row_leap_New_1, List.mem_cons, List.not_mem_nil, or_false] at hx; subst hx; exact (q_slices_IndexFunc_leap_Row_leap_Row_leap_New_1_3 k d).trans h)
    (by intro d out h; obtain ⟨k, hk⟩ := hF d out h; exact ⟨k, (q_slices_IndexFunc_leap_Row_leap_Row_leap_New_1_m k d).trans hk⟩)
def g_slices_IndexFunc_leap_Row_leap_Row_leap_New_1 (d : Unit × (((List (Int × Int)) × Unit) × (Unit × Unit))) : Option (Unit × ((Int × Unit) × Unit)) := lim fun k => f_slices_IndexFunc_leap_Row_leap_Row_leap_New_1_m (f_slices_IndexFunc_leap_Row_leap_Row_leap_New_1_t k) d
theorem ok_slices_IndexFunc_leap_Row_leap_Row_leap_New_1 : FnOk Tryz.prog ET0 111 pi_slices_IndexFunc_leap_Row_leap_Row_leap_New_1 po_slices_IndexFunc_leap_Row_leap_Row_leap_New_1 g_slices_IndexFunc_leap_Row_leap_Row_leap_New_1 := go_slices_IndexFunc_leap_Row_leap_Row_leap_New_1 g_slices_IndexFunc_leap_Row_leap_Row_leap_New_1 fun d out h => lim_some h

/- slices.ContainsFunc[[]horologe/leap.Row,horologe/leap.Row] -/
@[reducible] def pi_slices_ContainsFunc_leap_Row_leap_Row_leap_New_1 : PSh := ⟨[], [.mk false [.v (.sl (.pair (.int .i64) (.int .i64)))], .mk false [.fn 79 []]]⟩
@[reducible] def po_slices_ContainsFunc_leap_Row_leap_Row_leap_New_1 : PSh := ⟨[], [.mk false [.v .bool]]⟩
def f_slices_ContainsFunc_leap_Row_leap_Row_leap_New_1_m (T : Unit) (d : Unit × (((List (Int × Int)) × Unit) × (Unit × Unit))) : Option (Unit × ((Bool × Unit) × Unit)) :=
  (g_slices_IndexFunc_leap_Row_leap_Row_leap_New_1 ((), ((d.2.1.1, ()), ((), ())))).bind fun x1 =>
  let x2 : Bool := (decide (x1.2.1.1 ≥ (0 : Int)))
  some ((), ((x2, ()), ()))
def c_slices_ContainsFunc_leap_Row_leap_Row_leap_New_1 : List Nat := []
def L_slices_ContainsFunc_leap_Row_leap_Row_leap_New_1 (_ : Nat) : Pts po_slices_ContainsFunc_leap_Row_leap_Row_leap_New_1.den := []
def E_slices_ContainsFunc_leap_Row_leap_Row_leap_New_1 : Env := (E0.add 111 (typedSem pi_slices_IndexFunc_leap_Row_leap_Row_leap_New_1 po_slices_IndexFunc_leap_Row_leap_Row_leap_New_1 g_slices_IndexFunc_leap_Row_leap_Row_leap_New_1))
theorem q_slices_ContainsFunc_leap_Row_leap_Row_leap_New_1_m (k : Nat) (d : Unit × (((List (Int × Int)) × Unit) × (Unit × Unit))) : evCode E_slices_ContainsFunc_leap_Row_leap_Row_leap_New_1 (tab (L_slices_ContainsFunc_leap_Row_leap_Row_leap_New_1 k)) c_slices_ContainsFunc_leap_Row_leap_Row_leap_New_1 (bodyOf Tryz.f83) 0 (finK E_slices_ContainsFunc_leap_Row_leap_Row_leap_New_1 po_slices_ContainsFunc_leap_Row_leap_Row_leap_New_1 [.tmp 4]) (startSt pi_slices_ContainsFunc_leap_Row_leap_Row_leap_New_1 9 d) = f_slices_ContainsFunc_leap_Row_leap_Row_leap_New_1_m () d := by kernel_rfl
def g_slices_ContainsFunc_leap_Row_leap_Row_leap_New_1 (d : Unit × (((List (Int × Int)) × Unit) × (Unit × Unit))) : Option (Unit × ((Bool × Unit) × Unit)) := f_slices_ContainsFunc_leap_Row_leap_Row_leap_New_1_m () d
theorem ok_slices_ContainsFunc_leap_Row_leap_Row_leap_New_1 : FnOk Tryz.prog ET0 83 pi_slices_ContainsFunc_leap_Row_leap_Row_leap_New_1 po_slices_ContainsFunc_leap_Row_leap_Row_leap_New_1 g_slices_ContainsFunc_leap_Row_leap_Row_leap_New_1 :=
  fn_of_body (E := E_slices_ContainsFunc_leap_Row_leap_Row_leap_New_1) (envOk_add e0_ok (typed_ok ok_slices_IndexFunc_leap_Row_leap_Row_leap_New_1)) (fn := Tryz.f83) Tryz.func83 (by kernel_rfl) (by kernel_rfl) [.tmp 4] (by kernel_rfl) (by kernel_rfl) (by decide) rfl c_slices_ContainsFunc_leap_Row_leap_Row_leap_New_1 L_slices_ContainsFunc_leap_Row_leap_Row_leap_New_1
    (by intro x hx; cases hx) (by intro k x hx; cases hx) (fun d out h => ⟨0, (q_slices_ContainsFunc_leap_Row_leap_Row_leap_New_1_m 0 d).trans h⟩)

/- slices.IndexFunc[[]horologe/leap.Row,horologe/leap.Row] -/
@[reducible] def pi_slices_IndexFunc_leap_Row_leap_Row_leap_New_2 : PSh := ⟨[], [.mk false [.v (.sl (.pair (.int .i64) (.int .i64)))], .mk false [.fn 81 []]]⟩
@[reducible] def po_slices_IndexFunc_leap_Row_leap_Row_leap_New_2 : PSh := ⟨[], [.mk false [.v (.int .i64)]]⟩
@[reducible] def TT_slices_IndexFunc_leap_Row_leap_Row_leap_New_2 : Type := (((Unit × (((List (Int × Int)) × Unit) × (Unit × ((Int × Unit) × ((Int × Unit) × Unit))))) → Option (Unit × ((Int × Unit) × Unit))) × Unit)
@[reducible] def sh_slices_IndexFunc_leap_Row_leap_Row_leap_New_2_3 : PSh := ⟨[], [.mk false [.v (.sl (.pair (.int .i64) (.int .i64)))], .mk false [.fn 81 []], .any, .any, .any, .any, .any, .mk false [.v (.int .i64)], .mk false [.v (.int .i64)], .any, .any, .any, .any, .any, .any, .any, .any, .any, .any]⟩
def f_slices_IndexFunc_leap_Row_leap_Row_leap_New_2_p3 (T : TT_slices_IndexFunc_leap_Row_leap_Row_leap_New_2) (d : Unit × (((List (Int × Int)) × Unit) × (Unit × ((Int × Unit) × ((Int × Unit) × Unit))))) : Option (Unit × ((Int × Unit) × Unit)) :=
  let x2 : Bool := (decide (d.2.2.2.2.1.1 < d.2.2.2.1.1))
  bif x2 then (
  bif decide ((0 : Int) ≤ d.2.2.2.2.1.1) && decide (d.2.2.2.2.1.1 < (d.2.1.1.length : Int)) then (
  (g_leap_New_2 ((), (((gd_i64_i64 d.2.1.1 d.2.2.2.2.1.1).1, ((gd_i64_i64 d.2.1.1 d.2.2.2.2.1.1).2, ())), ()))).bind fun x3 =>
  bif x3.2.1.1 then (
  some ((), ((d.2.2.2.2.1.1, ()), ())))
  else (
  let x4 : Int := (iadd .i64 d.2.2.2.2.1.1 (1 : Int))
  (T.1 ((), ((d.2.1.1, ()), ((), ((d.2.2.2.1.1, ()), ((x4, ()), ()))))))))
  else none)
  else (
  some ((), (((-1 : Int), ()), ())))
def f_slices_IndexFunc_leap_Row_leap_Row_leap_New_2_t : Nat → TT_slices_IndexFunc_leap_Row_leap_Row_leap_New_2
  | 0 => (fun _ => none, ())
  | k + 1 => (f_slices_IndexFunc_leap_Row_leap_Row_leap_New_2_p3 (f_slices_IndexFunc_leap_Row_leap_Row_leap_New_2_t k), ())
theorem t_slices_IndexFunc_leap_Row_leap_Row_leap_New_2 (k : Nat) : f_slices_IndexFunc_leap_Row_leap_Row_leap_New_2_t (k + 1) = (f_slices_IndexFunc_leap_Row_leap_Row_leap_New_2_p3 (f_slices_IndexFunc_leap_Row_leap_Row_leap_New_2_t k), ()) := rfl
def f_slices_IndexFunc_leap_Row_leap_Row_leap_New_2_m (T : TT_slices_IndexFunc_leap_Row_leap_Row_leap_New_2) (d : Unit × (((List (Int × Int)) × Unit) × (Unit × Unit))) : Option (Unit × ((Int × Unit) × Unit)) :=
  let x1 : Int := (d.2.1.1.length : Int)
  (T.1 ((), ((d.2.1.1, ()), ((), ((x1, ()), (((0 : Int), ()), ()))))))
def c_slices_IndexFunc_leap_Row_leap_Row_leap_New_2 : List Nat := []
def L_slices_IndexFunc_leap_Row_leap_Row_leap_New_2 (k : Nat) : Pts po_slices_IndexFunc_leap_Row_leap_Row_leap_New_2.den := [(3, ⟨sh_slices_IndexFunc_leap_Row_leap_Row_leap_New_2_3, (f_slices_IndexFunc_leap_Row_leap_Row_leap_New_2_t k).1⟩)]
def E_slices_IndexFunc_leap_Row_leap_Row_leap_New_2 : Env := (E0.add 81 (typedSem pi_leap_New_2 po_leap_New_2 g_leap_New_2))
theorem q_slices_IndexFunc_leap_Row_leap_Row_leap_New_2_3 (k : Nat) (d : Unit × (((List (Int × Int)) × Unit) × (Unit × ((Int × Unit) × ((Int × Unit) × Unit))))) : evAt E_slices_IndexFunc_leap_Row_leap_Row_leap_New_2 (tab (L_slices_IndexFunc_leap_Row_leap_Row_leap_New_2 k)) c_slices_IndexFunc_leap_Row_leap_Row_leap_New_2 3 (bodyOf Tryz.f111) 0 (finK E_slices_IndexFunc_leap_Row_leap_Row_leap_New_2 po_slices_IndexFunc_leap_Row_leap_Row_leap_New_2 [.tmp 4]) (ptSt sh_slices_IndexFunc_leap_Row_leap_Row_leap_New_2_3 d) = f_slices_IndexFunc_leap_Row_leap_Row_leap_New_2_p3 (f_slices_IndexFunc_leap_Row_leap_Row_leap_New_2_t k) d := by kernel_rfl
theorem q_slices_IndexFunc_leap_Row_leap_Row_leap_New_2_m (k : Nat) (d : Unit × (((List (Int × Int)) × Unit) × (Unit × Unit))) : evCode E_slices_IndexFunc_leap_Row_leap_Row_leap_New_2 (tab (L_slices_IndexFunc_leap_Row_leap_Row_leap_New_2 k)) c_slices_IndexFunc_leap_Row_leap_Row_leap_New_2 (bodyOf Tryz.f111) 0 (finK E_slices_IndexFunc_leap_Row_leap_Row_leap_New_2 po_slices_IndexFunc_leap_Row_leap_Row_leap_New_2 [.tmp 4]) (startSt pi_slices_IndexFunc_leap_Row_leap_Row_leap_New_2 19 d) = f_slices_IndexFunc_leap_Row_leap_Row_leap_New_2_m (f_slices_IndexFunc_leap_Row_leap_Row_leap_New_2_t k) d := by kernel_rfl
theorem go_slices_IndexFunc_leap_Row_leap_Row_leap_New_2 (F : Unit × (((List (Int × Int)) × Unit) × (Unit × Unit)) → Option (Unit × ((Int × Unit) × Unit))) (hF : ∀ d out, F d = some out → ∃ k, f_slices_IndexFunc_leap_Row_leap_Row_leap_New_2_m (f_slices_IndexFunc_leap_Row_leap_Row_leap_New_2_t k) d = some out) : FnOk Tryz.prog ET0 111 pi_slices_IndexFunc_leap_Row_leap_Row_leap_New_2 po_slices_IndexFunc_leap_Row_leap_Row_leap_New_2 F :=
  fn_of_body (E := E_slices_IndexFunc_leap_Row_leap_Row_leap_New_2) (envOk_add e0_ok (typed_ok ok_leap_New_2)) (fn := Tryz.f111) Tryz.func111 (by kernel_rfl) (by kernel_rfl) [.tmp 4] (by kernel_rfl) (by kernel_rfl) (by decide) rfl c_slices_IndexFunc_leap_Row_leap_Row_leap_New_2 L_slices_IndexFunc_leap_Row_leap_Row_leap_New_2
    (by intro x hx d; simp only [L_slices_IndexFunc_leap_Row_leap_Row_leap_New_2, List.mem_cons, List.not_mem_nil, or_false] at hx; subst hx; rfl)
    (by intro k x hx d out h; simp only [L_slices_IndexFunc_leap_Row_leap_Row_leap_New_2, List.mem_cons, List.not_mem_nil, or_false] at hx; subst hx; exact (q_slices_IndexFunc_leap_Row_leap_Row_leap_New_2_3 k d).trans h)
    (by intro d out h; obtain ⟨k, hk⟩ := hF d out h; exact ⟨k, (q_slices_IndexFunc_leap_Row_leap_Row_leap_New_2_m k d).trans hk⟩)
def g_slices_IndexFunc_leap_Row_leap_Row_leap_New_2 (d : Unit × (((List (Int × Int)) × Unit) × (Unit × Unit))) : Option (Unit × ((Int × Unit) × Unit)) := lim fun k => f_slices_IndexFunc_leap_Row_leap_Row_leap_New_2_m (f_slices_IndexFunc_leap_Row_leap_Row_leap_New_2_t k) d
theorem ok_slices_IndexFunc_leap_Row_leap_Row_leap_New_2 : FnOk Tryz.prog ET0 111 pi_slices_IndexFunc_leap_Row_leap_Row_leap_New_2 po_slices_IndexFunc_leap_Row_leap_Row_leap_New_2 g_slices_IndexFunc_leap_Row_leap_Row_leap_New_2 := go_slices_IndexFunc_leap_Row_leap_Row_leap_New_2 g_slices_IndexFunc_leap_Row_leap_Row_leap_New_2 fun d out h => lim_some h

/- slices.ContainsFunc[[]horologe/leap.Row,horologe/leap.Row] -/
@[reducible] def pi_slices_ContainsFunc_leap_Row_leap_Row_leap_New_2 : PSh := ⟨[], [.mk false [.v (.sl (.pair (.int .i64) (.int .i64)))], .mk false [.fn 81 []]]⟩
@[reducible] def po_slices_ContainsFunc_leap_Row_leap_Row_leap_New_2 : PSh := ⟨[], [.mk false [.v .bool]]⟩
def f_slices_ContainsFunc_leap_Row_leap_Row_leap_New_2_m (T : Unit) (d : Unit × (((List (Int × Int)) × Unit) × (Unit × Unit))) : Option (Unit × ((Bool × Unit) × Unit)) :=
  (g_slices_IndexFunc_leap_Row_leap_Row_leap_New_2 ((), ((d.2.1.1, ()), ((), ())))).bind fun x1 =>
  let x2 : Bool := (decide (x1.2.1.1 ≥ (0 : Int)))
  some ((), ((x2, ()), ()))
def c_slices_ContainsFunc_leap_Row_leap_Row_leap_New_2 : List Nat := []
def L_slices_ContainsFunc_leap_Row_leap_Row_leap_New_2 (_ : Nat) : Pts po_slices_ContainsFunc_leap_Row_leap_Row_leap_New_2.den := []
def E_slices_ContainsFunc_leap_Row_leap_Row_leap_New_2 : Env := (E0.add 111 (typedSem pi_slices_IndexFunc_leap_Row_leap_Row_leap_New_2 po_slices_IndexFunc_leap_Row_leap_Row_leap_New_2 g_slices_IndexFunc_leap_Row_leap_Row_leap_New_2))
theorem q_slices_ContainsFunc_leap_Row_leap_Row_leap_New_2_m (k : Nat) (d : Unit × (((List (Int × Int)) × Unit) × (Unit × Unit))) : evCode E_slices_ContainsFunc_leap_Row_leap_Row_leap_New_2 (tab (L_slices_ContainsFunc_leap_Row_leap_Row_leap_New_2 k)) c_slices_ContainsFunc_leap_Row_leap_Row_leap_New_2 (bodyOf Tryz.f83) 0 (finK E_slices_ContainsFunc_leap_Row_leap_Row_leap_New_2 po_slices_ContainsFunc_leap_Row_leap_Row_leap_New_2 [.tmp 4]) (startSt pi_slices_ContainsFunc_leap_Row_leap_Row_leap_New_2 9 d) = f_slices_ContainsFunc_leap_Row_leap_Row_leap_New_2_m () d := by kernel_rfl
def g_slices_ContainsFunc_leap_Row_leap_Row_leap_New_2 (d : Unit × (((List (Int × Int)) × Unit) × (Unit × Unit))) : Option (Unit × ((Bool × Unit) × Unit)) := f_slices_ContainsFunc_leap_Row_leap_Row_leap_New_2_m () d
theorem ok_slices_ContainsFunc_leap_Row_leap_Row_leap_New_2 : FnOk Tryz.prog ET0 83 pi_slices_ContainsFunc_leap_Row_leap_Row_leap_New_2 po_slices_ContainsFunc_leap_Row_leap_Row_leap_New_2 g_slices_ContainsFunc_leap_Row_leap_Row_leap_New_2 :=
  fn_of_body (E := E_slices_ContainsFunc_leap_Row_leap_Row_leap_New_2) (envOk_add e0_ok (typed_ok ok_slices_IndexFunc_leap_Row_leap_Row_leap_New_2)) (fn := Tryz.f83) Tryz.func83 (by kernel_rfl) (by kernel_rfl) [.tmp 4] (by kernel_rfl) (by kernel_rfl) (by decide) rfl c_slices_ContainsFunc_leap_Row_leap_Row_leap_New_2 L_slices_ContainsFunc_leap_Row_leap_Row_leap_New_2
    (by intro x hx; cases hx) (by intro k x hx; cases hx) (fun d out h => ⟨0, (q_slices_ContainsFunc_leap_Row_leap_Row_leap_New_2_m 0 d).trans h⟩)

/- horologe/leap.New -/
@[reducible] def pi_leap_New : PSh := ⟨[], [.mk false [.v (.sl (.pair (.int .i64) (.int .i64)))], .mk false [.v (.int .i64)], .mk false [.v (.int .i64)]]⟩
@[reducible] def po_leap_New : PSh := ⟨[], [.mk false [.v (.nptr (.pair (.sl (.pair (.int .i64) (.int .i64))) (.pair (.int .i64) (.int .i64))))], .mk false [.v .err]]⟩
def f_leap_New_m (T : Unit) (d : Unit × (((List (Int × Int)) × Unit) × ((Int × Unit) × ((Int × Unit) × Unit)))) : Option (Unit × (((Option ((List (Int × Int)) × (Int × Int))) × Unit) × (((Option Int) × Unit) × Unit))) :=
  let x1 : Int := (d.2.1.1.length : Int)
  let x2 : Bool := (x1 == (0 : Int))
  bif x2 then (
  let x3 : (Option Int) := (some (8 : Int))
  some ((), (((none : Option ((List (Int × Int)) × (Int × Int))), ()), ((x3, ()), ()))))
  else (
  let x4 : Int := (d.2.1.1.length : Int)
  let x5 : Bool := (decide (x4 > (256 : Int)))
  bif x5 then (
  let x6 : (Option Int) := (some (3 : Int))
  some ((), (((none : Option ((List (Int × Int)) × (Int × Int))), ()), ((x6, ()), ()))))
  else (
  (g_slices_ContainsFunc_leap_Row_leap_Row_leap_New_1 ((), ((d.2.1.1, ()), ((), ())))).bind fun x7 =>
  bif x7.2.1.1 then (
  let x8 : (Option Int) := (some (13 : Int))
  some ((), (((none : Option ((List (Int × Int)) × (Int × Int))), ()), ((x8, ()), ()))))
  else (
  (g_slices_ContainsFunc_leap_Row_leap_Row_leap_New_2 ((), ((d.2.1.1, ()), ((), ())))).bind fun x9 =>
  bif x9.2.1.1 then (
  let x10 : (Option Int) := (some (1 : Int))
  some ((), (((none : Option ((List (Int × Int)) × (Int × Int))), ()), ((x10, ()), ()))))
  else (
  (g_leap_time ((), ((d.2.2.1.1, ()), ()))).bind fun x11 =>
  let x12 : Bool := (!x11.2.1.1)
  bif x12 then (
  let x13 : (Option Int) := (some (1 : Int))
  some ((), (((none : Option ((List (Int × Int)) × (Int × Int))), ()), ((x13, ()), ()))))
  else (
  (g_leap_time ((), ((d.2.2.2.1.1, ()), ()))).bind fun x14 =>
  let x15 : Bool := (!x14.2.1.1)
  bif x15 then (
  let x16 : (Option Int) := (some (1 : Int))
  some ((), (((none : Option ((List (Int × Int)) × (Int × Int))), ()), ((x16, ()), ()))))
  else (
  (g_leap_rise ((), ((d.2.1.1, ()), ()))).bind fun x17 =>
  let x18 : Bool := (!x17.2.1.1)
  bif x18 then (
  let x19 : (Option Int) := (some (6 : Int))
  some ((), (((none : Option ((List (Int × Int)) × (Int × Int))), ()), ((x19, ()), ()))))
  else (
  (g_slices_Clone_leap_Row_leap_Row ((), ((d.2.1.1, ()), ()))).bind fun x20 =>
  some ((), (((some (x20.1.1, (d.2.2.1.1, d.2.2.2.1.1))), ()), (((none : Option Int), ()), ()))))))))))
def c_leap_New : List Nat := []
def L_leap_New (_ : Nat) : Pts po_leap_New.den := []
def E_leap_New : Env := ((((E0.add 83 (altSem pi_slices_ContainsFunc_leap_Row_leap_Row_leap_New_1 (typedSem pi_slices_ContainsFunc_leap_Row_leap_Row_leap_New_1 po_slices_ContainsFunc_leap_Row_leap_Row_leap_New_1 g_slices_ContainsFunc_leap_Row_leap_Row_leap_New_1) (typedSem pi_slices_ContainsFunc_leap_Row_leap_Row_leap_New_2 po_slices_ContainsFunc_leap_Row_leap_Row_leap_New_2 g_slices_ContainsFunc_leap_Row_leap_Row_leap_New_2))).add 84 (typedSem pi_leap_time po_leap_time g_leap_time)).add 85 (typedSem pi_leap_rise po_leap_rise g_leap_rise)).add 86 (typedSem pi_slices_Clone_leap_Row_leap_Row po_slices_Clone_leap_Row_leap_Row g_slices_Clone_leap_Row_leap_Row))
theorem q_leap_New_m (k : Nat) (d : Unit × (((List (Int × Int)) × Unit) × ((Int × Unit) × ((Int × Unit) × Unit)))) : evCode E_leap_New (tab (L_leap_New k)) c_leap_New (bodyOf Tryz.f47) 0 (finK E_leap_New po_leap_New [.tmp 6, .tmp 7]) (startSt pi_leap_New 51 d) = f_leap_New_m () d := by kernel_rfl
def g_leap_New (d : Unit × (((List (Int × Int)) × Unit) × ((Int × Unit) × ((Int × Unit) × Unit)))) : Option (Unit × (((Option ((List (Int × Int)) × (Int × Int))) × Unit) × (((Option Int) × Unit) × Unit))) := f_leap_New_m () d
theorem ok_leap_New : FnOk Tryz.prog ET0 47 pi_leap_New po_leap_New g_leap_New :=
  fn_of_body (E := E_leap_New) (envOk_add (envOk_add (envOk_add (envOk_add e0_ok (alt_ok (typed_ok ok_slices_ContainsFunc_leap_Row_leap_Row_leap_New_1) (typed_ok ok_slices_ContainsFunc_leap_Row_leap_Row_leap_New_2))) (typed_ok ok_leap_time)) (typed_ok ok_leap_rise)) (typed_ok ok_slices_Clone_leap_Row_leap_Row)) (fn := Tryz.f47) Tryz.func47 (by kernel_rfl) (by kernel_rfl) [.tmp 6, .tmp 7] (by kernel_rfl) (by kernel_rfl) (by decide) rfl c_leap_New L_leap_New
    (by intro x hx; cases hx) (by intro k x hx; cases hx) (fun d out h => ⟨0, (q_leap_New_m 0 d).trans h⟩)

/- horologe/horologelaw10.Document -/
@[reducible] def pi_law10_Document : PSh := ⟨[], [.mk true [.v (.sl (.pair (.int .i64) (.int .i64))), .v (.int .i64), .v (.int .i64)]]⟩
@[reducible] def po_law10_Document : PSh := ⟨[.row 101 (.pair (.int .i64) (.int .i64))], [.mk true [.osl 0, .v (.int .i64), .v (.int .i64)]]⟩
@[reducible] def TT_law10_Document : Type := (((((Int × (Int × Unit)) × ((List (Int × Int)) × ((Int × (Int × Unit)) × ((List (Int × Int)) × Unit)))) × (Unit × (Unit × (((List (Int × Int)) × Unit) × ((Int × Unit) × ((Int × Unit) × Unit)))))) → Option (((List (Int × Int)) × Unit) × ((Int × (Int × Unit)) × Unit))) × Unit)
@[reducible] def sh_law10_Document_4 : PSh := ⟨[.var 56 [.osl 1, .v (.int .i64), .v (.int .i64)], .row 101 (.pair (.int .i64) (.int .i64)), .var 56 [.osl 3, .v (.int .i64), .v (.int .i64)], .row 101 (.pair (.int .i64) (.int .i64))], [.any, .any, .mk false [.ref 0 0], .mk false [.ref 2 0], .any, .any, .any, .any, .any, .any, .any, .any, .mk false [.v (.sl (.pair (.int .i64) (.int .i64)))], .mk false [.v (.int .i64)], .mk false [.v (.int .i64)], .any, .any, .any, .any, .any, .any, .any, .any, .any, .any, .any, .any, .any, .any, .any]⟩
def f_law10_Document_p4 (T : TT_law10_Document) (d : ((Int × (Int × Unit)) × ((List (Int × Int)) × ((Int × (Int × Unit)) × ((List (Int × Int)) × Unit)))) × (Unit × (Unit × (((List (Int × Int)) × Unit) × ((Int × Unit) × ((Int × Unit) × Unit)))))) : Option (((List (Int × Int)) × Unit) × ((Int × (Int × Unit)) × Unit)) :=
  let x2 : Bool := (decide (d.2.2.2.2.2.1.1 < d.2.2.2.2.1.1))
  bif x2 then (
  bif decide ((0 : Int) ≤ d.2.2.2.2.2.1.1) && decide (d.2.2.2.2.2.1.1 < (d.2.2.2.1.1.length : Int)) then (
  let x3 : (List (Int × Int)) := ([((gd_i64_i64 d.2.2.2.1.1 d.2.2.2.2.2.1.1).1, (gd_i64_i64 d.2.2.2.1.1 d.2.2.2.2.2.1.1).2)] : List (Int × Int))
  bif decide (((d.1.2.2.2.1.length + x3.length) * 16 : Nat) ≤ 140737488355328) && decide (d.1.2.2.2.1.length + x3.length ≤ 9223372036854775807) then (
  let x4 : (List (Int × Int)) := (d.1.2.2.2.1 ++ x3)
  let x5 : Int := (iadd .i64 d.2.2.2.2.2.1.1 (1 : Int))
  (T.1 (((d.1.1.1, (d.1.1.2.1, ())), (d.1.2.1, ((d.1.2.2.1.1, (d.1.2.2.1.2.1, ())), (x4, ())))), ((), ((), ((d.2.2.2.1.1, ()), ((d.2.2.2.2.1.1, ()), ((x5, ()), ()))))))))
  else none)
  else none)
  else (
  some ((d.1.2.2.2.1, ()), ((d.1.2.2.1.1, (d.1.2.2.1.2.1, ())), ())))
def f_law10_Document_t : Nat → TT_law10_Document
  | 0 => (fun _ => none, ())
  | k + 1 => (f_law10_Document_p4 (f_law10_Document_t k), ())
theorem t_law10_Document (k : Nat) : f_law10_Document_t (k + 1) = (f_law10_Document_p4 (f_law10_Document_t k), ()) := rfl
def f_law10_Document_m (T : TT_law10_Document) (d : Unit × (((List (Int × Int)) × (Int × (Int × Unit))) × Unit)) : Option (((List (Int × Int)) × Unit) × ((Int × (Int × Unit)) × Unit)) :=
  let x1 : Int := (d.2.1.1.length : Int)
  (T.1 ((((0 : Int), ((0 : Int), ())), (([] : List (Int × Int)), ((d.2.1.2.1, (d.2.1.2.2.1, ())), (([] : List (Int × Int)), ())))), ((), ((), ((d.2.1.1, ()), ((x1, ()), (((0 : Int), ()), ())))))))
def c_law10_Document : List Nat := []
def L_law10_Document (k : Nat) : Pts po_law10_Document.den := [(4, ⟨sh_law10_Document_4, (f_law10_Document_t k).1⟩)]
def E_law10_Document : Env := E0
theorem q_law10_Document_4 (k : Nat) (d : ((Int × (Int × Unit)) × ((List (Int × Int)) × ((Int × (Int × Unit)) × ((List (Int × Int)) × Unit)))) × (Unit × (Unit × (((List (Int × Int)) × Unit) × ((Int × Unit) × ((Int × Unit) × Unit)))))) : evAt E_law10_Document (tab (L_law10_Document k)) c_law10_Document 4 (bodyOf Tryz.f48) 0 (finK E_law10_Document po_law10_Document [.cell 2 56]) (ptSt sh_law10_Document_4 d) = f_law10_Document_p4 (f_law10_Document_t k) d := by kernel_rfl
theorem q_law10_Document_m (k : Nat) (d : Unit × (((List (Int × Int)) × (Int × (Int × Unit))) × Unit)) : evCode E_law10_Document (tab (L_law10_Document k)) c_law10_Document (bodyOf Tryz.f48) 0 (finK E_law10_Document po_law10_Document [.cell 2 56]) (startSt pi_law10_Document 30 d) = f_law10_Document_m (f_law10_Document_t k) d := by kernel_rfl
theorem go_law10_Document (F : Unit × (((List (Int × Int)) × (Int × (Int × Unit))) × Unit) → Option (((List (Int × Int)) × Unit) × ((Int × (Int × Unit)) × Unit))) (hF : ∀ d out, F d = some out → ∃ k, f_law10_Document_m (f_law10_Document_t k) d = some out) : FnOk Tryz.prog ET0 48 pi_law10_Document po_law10_Document F :=
  fn_of_body (E := E_law10_Document) e0_ok (fn := Tryz.f48) Tryz.func48 (by kernel_rfl) (by kernel_rfl) [.cell 2 56] (by kernel_rfl) (by kernel_rfl) (by decide) rfl c_law10_Document L_law10_Document
    (by intro x hx d; simp only [L_law10_Document, List.mem_cons, List.not_mem_nil, or_false] at hx; subst hx; rfl)
    (by intro k x hx d out h; simp only [L_law10_Document, List.mem_cons, List.not_mem_nil, or_false] at hx; subst hx; exact (q_law10_Document_4 k d).trans h)
    (by intro d out h; obtain ⟨k, hk⟩ := hF d out h; exact ⟨k, (q_law10_Document_m k d).trans hk⟩)
def g_law10_Document (d : Unit × (((List (Int × Int)) × (Int × (Int × Unit))) × Unit)) : Option (((List (Int × Int)) × Unit) × ((Int × (Int × Unit)) × Unit)) := lim fun k => f_law10_Document_m (f_law10_Document_t k) d
theorem ok_law10_Document : FnOk Tryz.prog ET0 48 pi_law10_Document po_law10_Document g_law10_Document := go_law10_Document g_law10_Document fun d out h => lim_some h

/- horologe/horologelaw10.Made -/
@[reducible] def pi_law10_Made : PSh := ⟨[], [.mk true [.v (.sl (.pair (.int .i64) (.int .i64))), .v (.int .i64), .v (.int .i64)]]⟩
@[reducible] def po_law10_Made : PSh := ⟨[.row 101 (.pair (.int .i64) (.int .i64))], [.mk false [.v (.nptr (.pair (.sl (.pair (.int .i64) (.int .i64))) (.pair (.int .i64) (.int .i64))))], .mk true [.osl 0, .v (.int .i64), .v (.int .i64)], .mk false [.v .bool]]⟩
def f_law10_Made_m (T : Unit) (d : Unit × (((List (Int × Int)) × (Int × (Int × Unit))) × Unit)) : Option (((List (Int × Int)) × Unit) × (((Option ((List (Int × Int)) × (Int × Int))) × Unit) × ((Int × (Int × Unit)) × ((Bool × Unit) × Unit)))) :=
  (g_leap_New ((), ((d.2.1.1, ()), ((d.2.1.2.1, ()), ((d.2.1.2.2.1, ()), ()))))).bind fun x1 =>
  (g_law10_Document ((), ((d.2.1.1, (d.2.1.2.1, (d.2.1.2.2.1, ()))), ()))).bind fun x2 =>
  bif x1.2.2.1.1.isNone then (
  let x3 : Bool := (!x1.2.1.1.isNone)
  bif x3 then (
  (g_ref10_Check ((), ((x2.1.1, (x2.2.1.1, (x2.2.1.2.1, ()))), ()))).bind fun x4 =>
  let x5 : Bool := (x4.2.1.1 == (0 : Int))
  some ((x2.1.1, ()), ((x1.2.1.1, ()), ((x2.2.1.1, (x2.2.1.2.1, ())), ((x5, ()), ())))))
  else (
  some ((x2.1.1, ()), ((x1.2.1.1, ()), ((x2.2.1.1, (x2.2.1.2.1, ())), ((false, ()), ()))))))
  else (
  some ((x2.1.1, ()), ((x1.2.1.1, ()), ((x2.2.1.1, (x2.2.1.2.1, ())), ((false, ()), ())))))
def c_law10_Made : List Nat := []
def L_law10_Made (_ : Nat) : Pts po_law10_Made.den := []
def E_law10_Made : Env := (((E0.add 21 (typedSem pi_ref10_Check po_ref10_Check g_ref10_Check)).add 47 (typedSem pi_leap_New po_leap_New g_leap_New)).add 48 (typedSem pi_law10_Document po_law10_Document g_law10_Document))
theorem q_law10_Made_m (k : Nat) (d : Unit × (((List (Int × Int)) × (Int × (Int × Unit))) × Unit)) : evCode E_law10_Made (tab (L_law10_Made k)) c_law10_Made (bodyOf Tryz.f20) 0 (finK E_law10_Made po_law10_Made [.tmp 2, .cell 3 56, .tmp 4]) (startSt pi_law10_Made 33 d) = f_law10_Made_m () d := by kernel_rfl
def g_law10_Made (d : Unit × (((List (Int × Int)) × (Int × (Int × Unit))) × Unit)) : Option (((List (Int × Int)) × Unit) × (((Option ((List (Int × Int)) × (Int × Int))) × Unit) × ((Int × (Int × Unit)) × ((Bool × Unit) × Unit)))) := f_law10_Made_m () d
theorem ok_law10_Made : FnOk Tryz.prog ET0 20 pi_law10_Made po_law10_Made g_law10_Made :=
  fn_of_body (E := E_law10_Made) (envOk_add (envOk_add (envOk_add e0_ok (typed_ok ok_ref10_Check)) (typed_ok ok_leap_New)) (typed_ok ok_law10_Document)) (fn := Tryz.f20) Tryz.func20 (by kernel_rfl) (by kernel_rfl) [.tmp 2, .cell 3 56, .tmp 4] (by kernel_rfl) (by kernel_rfl) (by decide) rfl c_law10_Made L_law10_Made
    (by intro x hx; cases hx) (by intro k x hx; cases hx) (fun d out h => ⟨0, (q_law10_Made_m 0 d).trans h⟩)

/- horologe/label.Split -/
@[reducible] def pi_label_Split : PSh := ⟨[], [.mk true [.v (.int .i64), .v (.int .i64), .v (.int .i64), .v (.int .i64), .v (.int .i64), .v (.int .i64), .v (.int .i64), .v (.int .i64)]]⟩
@[reducible] def po_label_Split : PSh := ⟨[], [.mk false [.v (.int .i64)], .mk false [.v (.int .i64)], .mk false [.v .err]]⟩
def f_label_Split_m (T : Unit) (d : Unit × ((Int × (Int × (Int × (Int × (Int × (Int × (Int × (Int × Unit)))))))) × Unit)) : Option (Unit × ((Int × Unit) × ((Int × Unit) × (((Option Int) × Unit) × Unit)))) :=
  (g_label_Check ((), ((d.2.1.1, (d.2.1.2.1, (d.2.1.2.2.1, (d.2.1.2.2.2.1, (d.2.1.2.2.2.2.1, (d.2.1.2.2.2.2.2.1, (d.2.1.2.2.2.2.2.2.1, (d.2.1.2.2.2.2.2.2.2.1, ())))))))), ()))).bind fun x1 =>
  let x2 : Bool := (!x1.2.1.1.isNone)
  bif x2 then (
  some ((), (((0 : Int), ()), (((0 : Int), ()), ((x1.2.1.1, ()), ())))))
  else (
  (g_label_Label_place ((), ((d.2.1.1, (d.2.1.2.1, (d.2.1.2.2.1, (d.2.1.2.2.2.1, (d.2.1.2.2.2.2.1, (d.2.1.2.2.2.2.2.1, (d.2.1.2.2.2.2.2.2.1, (d.2.1.2.2.2.2.2.2.2.1, ())))))))), ()))).bind fun x3 =>
  let x4 : Bool := (!x3.2.2.2.1.1.isNone)
  bif x4 then (
  some ((), (((0 : Int), ()), (((0 : Int), ()), ((x3.2.2.2.1.1, ()), ())))))
  else (
  let x5 : Int := (imul .i64 x3.2.2.1.1 (60 : Int))
  let x6 : Int := (iadd .i64 x5 d.2.1.2.2.2.2.2.1)
  some ((), ((x3.2.1.1, ()), ((x6, ()), (((none : Option Int), ()), ()))))))
def c_label_Split : List Nat := []
def L_label_Split (_ : Nat) : Pts po_label_Split.den := []
def E_label_Split : Env := ((E0.add 43 (typedSem pi_label_Check po_label_Check g_label_Check)).add 76 (typedSem pi_label_Label_place po_label_Label_place g_label_Label_place))
theorem q_label_Split_m (k : Nat) (d : Unit × ((Int × (Int × (Int × (Int × (Int × (Int × (Int × (Int × Unit)))))))) × Unit)) : evCode E_label_Split (tab (L_label_Split k)) c_label_Split (bodyOf Tryz.f87) 0 (finK E_label_Split po_label_Split [.tmp 2, .tmp 3, .tmp 4]) (startSt pi_label_Split 27 d) = f_label_Split_m () d := by kernel_rfl
def g_label_Split (d : Unit × ((Int × (Int × (Int × (Int × (Int × (Int × (Int × (Int × Unit)))))))) × Unit)) : Option (Unit × ((Int × Unit) × ((Int × Unit) × (((Option Int) × Unit) × Unit)))) := f_label_Split_m () d
theorem ok_label_Split : FnOk Tryz.prog ET0 87 pi_label_Split po_label_Split g_label_Split :=
  fn_of_body (E := E_label_Split) (envOk_add (envOk_add e0_ok (typed_ok ok_label_Check)) (typed_ok ok_label_Label_place)) (fn := Tryz.f87) Tryz.func87 (by kernel_rfl) (by kernel_rfl) [.tmp 2, .tmp 3, .tmp 4] (by kernel_rfl) (by kernel_rfl) (by decide) rfl c_label_Split L_label_Split
    (by intro x hx; cases hx) (by intro k x hx; cases hx) (fun d out h => ⟨0, (q_label_Split_m 0 d).trans h⟩)

/- (*horologe/leap.Table).list -/
@[reducible] def pi_leap_Table_list : PSh := ⟨[], [.mk false [.v (.nptr (.pair (.sl (.pair (.int .i64) (.int .i64))) (.pair (.int .i64) (.int .i64))))]]⟩
@[reducible] def po_leap_Table_list : PSh := ⟨[], [.mk false [.v (.sl (.pair (.int .i64) (.int .i64)))]]⟩
def f_leap_Table_list_m (T : Unit) (d : Unit × (((Option ((List (Int × Int)) × (Int × Int))) × Unit) × Unit)) : Option (Unit × (((List (Int × Int)) × Unit) × Unit)) :=
  bif d.2.1.1.isNone then (
  some ((), ((([] : List (Int × Int)), ()), ())))
  else (
  d.2.1.1.bind fun x1 =>
  some ((), ((x1.1, ()), ())))
def c_leap_Table_list : List Nat := []
def L_leap_Table_list (_ : Nat) : Pts po_leap_Table_list.den := []
def E_leap_Table_list : Env := E0
theorem q_leap_Table_list_m (k : Nat) (d : Unit × (((Option ((List (Int × Int)) × (Int × Int))) × Unit) × Unit)) : evCode E_leap_Table_list (tab (L_leap_Table_list k)) c_leap_Table_list (bodyOf Tryz.f141) 0 (finK E_leap_Table_list po_leap_Table_list [.tmp 2]) (startSt pi_leap_Table_list 9 d) = f_leap_Table_list_m () d := by kernel_rfl
def g_leap_Table_list (d : Unit × (((Option ((List (Int × Int)) × (Int × Int))) × Unit) × Unit)) : Option (Unit × (((List (Int × Int)) × Unit) × Unit)) := f_leap_Table_list_m () d
theorem ok_leap_Table_list : FnOk Tryz.prog ET0 141 pi_leap_Table_list po_leap_Table_list g_leap_Table_list :=
  fn_of_body (E := E_leap_Table_list) e0_ok (fn := Tryz.f141) Tryz.func141 (by kernel_rfl) (by kernel_rfl) [.tmp 2] (by kernel_rfl) (by kernel_rfl) (by decide) rfl c_leap_Table_list L_leap_Table_list
    (by intro x hx; cases hx) (by intro k x hx; cases hx) (fun d out h => ⟨0, (q_leap_Table_list_m 0 d).trans h⟩)

/- (*horologe/leap.Table).Len -/
@[reducible] def pi_leap_Table_Len : PSh := ⟨[], [.mk false [.v (.nptr (.pair (.sl (.pair (.int .i64) (.int .i64))) (.pair (.int .i64) (.int .i64))))]]⟩
@[reducible] def po_leap_Table_Len : PSh := ⟨[], [.mk false [.v (.int .i64)]]⟩
def f_leap_Table_Len_m (T : Unit) (d : Unit × (((Option ((List (Int × Int)) × (Int × Int))) × Unit) × Unit)) : Option (Unit × ((Int × Unit) × Unit)) :=
  (g_leap_Table_list ((), ((d.2.1.1, ()), ()))).bind fun x1 =>
  let x2 : Int := (x1.2.1.1.length : Int)
  some ((), ((x2, ()), ()))
def c_leap_Table_Len : List Nat := []
def L_leap_Table_Len (_ : Nat) : Pts po_leap_Table_Len.den := []
def E_leap_Table_Len : Env := (E0.add 141 (typedSem pi_leap_Table_list po_leap_Table_list g_leap_Table_list))
theorem q_leap_Table_Len_m (k : Nat) (d : Unit × (((Option ((List (Int × Int)) × (Int × Int))) × Unit) × Unit)) : evCode E_leap_Table_Len (tab (L_leap_Table_Len k)) c_leap_Table_Len (bodyOf Tryz.f139) 0 (finK E_leap_Table_Len po_leap_Table_Len [.tmp 2]) (startSt pi_leap_Table_Len 6 d) = f_leap_Table_Len_m () d := by kernel_rfl
def g_leap_Table_Len (d : Unit × (((Option ((List (Int × Int)) × (Int × Int))) × Unit) × Unit)) : Option (Unit × ((Int × Unit) × Unit)) := f_leap_Table_Len_m () d
theorem ok_leap_Table_Len : FnOk Tryz.prog ET0 139 pi_leap_Table_Len po_leap_Table_Len g_leap_Table_Len :=
  fn_of_body (E := E_leap_Table_Len) (envOk_add e0_ok (typed_ok ok_leap_Table_list)) (fn := Tryz.f139) Tryz.func139 (by kernel_rfl) (by kernel_rfl) [.tmp 2] (by kernel_rfl) (by kernel_rfl) (by decide) rfl c_leap_Table_Len L_leap_Table_Len
    (by intro x hx; cases hx) (by intro k x hx; cases hx) (fun d out h => ⟨0, (q_leap_Table_Len_m 0 d).trans h⟩)

/- (*horologe/leap.Table).Row -/
@[reducible] def pi_leap_Table_Row : PSh := ⟨[], [.mk false [.v (.nptr (.pair (.sl (.pair (.int .i64) (.int .i64))) (.pair (.int .i64) (.int .i64))))], .mk false [.v (.int .i64)]]⟩
@[reducible] def po_leap_Table_Row : PSh := ⟨[], [.mk true [.v (.int .i64), .v (.int .i64)], .mk false [.v .bool]]⟩
def f_leap_Table_Row_m (T : Unit) (d : Unit × (((Option ((List (Int × Int)) × (Int × Int))) × Unit) × ((Int × Unit) × Unit))) : Option (Unit × ((Int × (Int × Unit)) × ((Bool × Unit) × Unit))) :=
  let x1 : Bool := (decide (d.2.2.1.1 < (0 : Int)))
  bif x1 then (
  some ((), (((0 : Int), ((0 : Int), ())), ((false, ()), ()))))
  else (
  (g_leap_Table_Len ((), ((d.2.1.1, ()), ()))).bind fun x2 =>
  let x3 : Bool := (decide (d.2.2.1.1 ≥ x2.2.1.1))
  bif x3 then (
  some ((), (((0 : Int), ((0 : Int), ())), ((false, ()), ()))))
  else (
  d.2.1.1.bind fun x4 =>
  bif decide ((0 : Int) ≤ d.2.2.1.1) && decide (d.2.2.1.1 < (x4.1.length : Int)) then (
  some ((), (((gd_i64_i64 x4.1 d.2.2.1.1).1, ((gd_i64_i64 x4.1 d.2.2.1.1).2, ())), ((true, ()), ()))))
  else none))
def c_leap_Table_Row : List Nat := []
def L_leap_Table_Row (_ : Nat) : Pts po_leap_Table_Row.den := []
def E_leap_Table_Row : Env := (E0.add 139 (typedSem pi_leap_Table_Len po_leap_Table_Len g_leap_Table_Len))
theorem q_leap_Table_Row_m (k : Nat) (d : Unit × (((Option ((List (Int × Int)) × (Int × Int))) × Unit) × ((Int × Unit) × Unit))) : evCode E_leap_Table_Row (tab (L_leap_Table_Row k)) c_leap_Table_Row (bodyOf Tryz.f135) 0 (finK E_leap_Table_Row po_leap_Table_Row [.cell 4 128, .tmp 5]) (startSt pi_leap_Table_Row 22 d) = f_leap_Table_Row_m () d := by kernel_rfl
def g_leap_Table_Row (d : Unit × (((Option ((List (Int × Int)) × (Int × Int))) × Unit) × ((Int × Unit) × Unit))) : Option (Unit × ((Int × (Int × Unit)) × ((Bool × Unit) × Unit))) := f_leap_Table_Row_m () d
theorem ok_leap_Table_Row : FnOk Tryz.prog ET0 135 pi_leap_Table_Row po_leap_Table_Row g_leap_Table_Row :=
  fn_of_body (E := E_leap_Table_Row) (envOk_add e0_ok (typed_ok ok_leap_Table_Len)) (fn := Tryz.f135) Tryz.func135 (by kernel_rfl) (by kernel_rfl) [.cell 4 128, .tmp 5] (by kernel_rfl) (by kernel_rfl) (by decide) rfl c_leap_Table_Row L_leap_Table_Row
    (by intro x hx; cases hx) (by intro k x hx; cases hx) (fun d out h => ⟨0, (q_leap_Table_Row_m 0 d).trans h⟩)

/- (*horologe/leap.Table).behind$1 -/
@[reducible] def pi_leap_Table_behind_1 : PSh := ⟨[], [.mk true [.v (.int .i64), .v (.int .i64)], .mk false [.v (.int .i64)]]⟩
@[reducible] def po_leap_Table_behind_1 : PSh := ⟨[], [.mk false [.v (.int .i64)]]⟩
def f_leap_Table_behind_1_m (T : Unit) (d : Unit × ((Int × (Int × Unit)) × ((Int × Unit) × Unit))) : Option (Unit × ((Int × Unit) × Unit)) :=
  let x1 : Bool := (decide (d.2.1.1 < d.2.2.1.1))
  bif x1 then (
  some ((), (((-1 : Int), ()), ())))
  else (
  let x2 : Bool := (decide (d.2.1.1 > d.2.2.1.1))
  bif x2 then (
  some ((), (((1 : Int), ()), ())))
  else (
  some ((), (((0 : Int), ()), ()))))
def c_leap_Table_behind_1 : List Nat := []
def L_leap_Table_behind_1 (_ : Nat) : Pts po_leap_Table_behind_1.den := []
def E_leap_Table_behind_1 : Env := E0
theorem q_leap_Table_behind_1_m (k : Nat) (d : Unit × ((Int × (Int × Unit)) × ((Int × Unit) × Unit))) : evCode E_leap_Table_behind_1 (tab (L_leap_Table_behind_1 k)) c_leap_Table_behind_1 (bodyOf Tryz.f142) 0 (finK E_leap_Table_behind_1 po_leap_Table_behind_1 [.tmp 4]) (startSt pi_leap_Table_behind_1 15 d) = f_leap_Table_behind_1_m () d := by kernel_rfl
def g_leap_Table_behind_1 (d : Unit × ((Int × (Int × Unit)) × ((Int × Unit) × Unit))) : Option (Unit × ((Int × Unit) × Unit)) := f_leap_Table_behind_1_m () d
theorem ok_leap_Table_behind_1 : FnOk Tryz.prog ET0 142 pi_leap_Table_behind_1 po_leap_Table_behind_1 g_leap_Table_behind_1 :=
  fn_of_body (E := E_leap_Table_behind_1) e0_ok (fn := Tryz.f142) Tryz.func142 (by kernel_rfl) (by kernel_rfl) [.tmp 4] (by kernel_rfl) (by kernel_rfl) (by decide) rfl c_leap_Table_behind_1 L_leap_Table_behind_1
    (by intro x hx; cases hx) (by intro k x hx; cases hx) (fun d out h => ⟨0, (q_leap_Table_behind_1_m 0 d).trans h⟩)

/- slices.BinarySearchFunc[[]horologe/leap.Row,horologe/leap.Row,int64] -/
@[reducible] def pi_slices_BinarySearchFunc_leap_Row_leap_Row_i64_leap_Table_behind_1 : PSh := ⟨[], [.mk false [.v (.sl (.pair (.int .i64) (.int .i64)))], .mk false [.v (.int .i64)], .mk false [.fn 142 []]]⟩
@[reducible] def po_slices_BinarySearchFunc_leap_Row_leap_Row_i64_leap_Table_behind_1 : PSh := ⟨[], [.mk false [.v (.int .i64)], .mk false [.v .bool]]⟩
@[reducible] def TT_slices_BinarySearchFunc_leap_Row_leap_Row_i64_leap_Table_behind_1 : Type := (((Unit × (((List (Int × Int)) × Unit) × ((Int × Unit) × (Unit × ((Int × Unit) × ((Int × Unit) × ((Int × Unit) × Unit))))))) → Option (Unit × ((Int × Unit) × ((Bool × Unit) × Unit)))) × Unit)
@[reducible] def sh_slices_BinarySearchFunc_leap_Row_leap_Row_i64_leap_Table_behind_1_4 : PSh := ⟨[], [.mk false [.v (.sl (.pair (.int .i64) (.int .i64)))], .mk false [.v (.int .i64)], .mk false [.fn 142 []], .any, .any, .any, .any, .any, .mk false [.v (.int .i64)], .mk false [.v (.int .i64)], .mk false [.v (.int .i64)], .any, .any, .any, .any, .any, .any, .any, .any, .any, .any, .any, .any, .any, .any, .any, .any, .any, .any, .any, .any, .any, .any, .any, .any, .any, .any, .any, .any, .any, .any, .any, .any, .any, .any, .any, .any, .any, .any]⟩
def f_slices_BinarySearchFunc_leap_Row_leap_Row_i64_leap_Table_behind_1_p4 (T : TT_slices_BinarySearchFunc_leap_Row_leap_Row_i64_leap_Table_behind_1) (d : Unit × (((List (Int × Int)) × Unit) × ((Int × Unit) × (Unit × ((Int × Unit) × ((Int × Unit) × ((Int × Unit) × Unit))))))) : Option (Unit × ((Int × Unit) × ((Bool × Unit) × Unit))) :=
  let x2 : Bool := (decide (d.2.2.2.2.2.1.1 < d.2.2.2.2.2.2.1.1))
  bif x2 then (
  let x3 : Int := (iadd .i64 d.2.2.2.2.2.1.1 d.2.2.2.2.2.2.1.1)
  let x4 : Int := (iconv .u64 x3)
  let x5 : Int := (ishr .u64 x4 (1 : Int))
  let x6 : Int := (iconv .i64 x5)
  bif decide ((0 : Int) ≤ x6) && decide (x6 < (d.2.1.1.length : Int)) then (
  (g_leap_Table_behind_1 ((), (((gd_i64_i64 d.2.1.1 x6).1, ((gd_i64_i64 d.2.1.1 x6).2, ())), ((d.2.2.1.1, ()), ())))).bind fun x7 =>
  let x8 : Bool := (decide (x7.2.1.1 < (0 : Int)))
  bif x8 then (
  let x9 : Int := (iadd .i64 x6 (1 : Int))
  (T.1 ((), ((d.2.1.1, ()), ((d.2.2.1.1, ()), ((), ((d.2.2.2.2.1.1, ()), ((x9, ()), ((d.2.2.2.2.2.2.1.1, ()), ())))))))))
  else (
  (T.1 ((), ((d.2.1.1, ()), ((d.2.2.1.1, ()), ((), ((d.2.2.2.2.1.1, ()), ((d.2.2.2.2.2.1.1, ()), ((x6, ()), ()))))))))))
  else none)
  else (
  let x10 : Bool := (decide (d.2.2.2.2.2.1.1 < d.2.2.2.2.1.1))
  bif x10 then (
  bif decide ((0 : Int) ≤ d.2.2.2.2.2.1.1) && decide (d.2.2.2.2.2.1.1 < (d.2.1.1.length : Int)) then (
  (g_leap_Table_behind_1 ((), (((gd_i64_i64 d.2.1.1 d.2.2.2.2.2.1.1).1, ((gd_i64_i64 d.2.1.1 d.2.2.2.2.2.1.1).2, ())), ((d.2.2.1.1, ()), ())))).bind fun x11 =>
  let x12 : Bool := (x11.2.1.1 == (0 : Int))
  some ((), ((d.2.2.2.2.2.1.1, ()), ((x12, ()), ()))))
  else none)
  else (
  some ((), ((d.2.2.2.2.2.1.1, ()), ((false, ()), ())))))
def f_slices_BinarySearchFunc_leap_Row_leap_Row_i64_leap_Table_behind_1_t : Nat → TT_slices_BinarySearchFunc_leap_Row_leap_Row_i64_leap_Table_behind_1
  | 0 => (fun _ => none, ())
  | k + 1 => (f_slices_BinarySearchFunc_leap_Row_leap_Row_i64_leap_Table_behind_1_p4 (f_slices_BinarySearchFunc_leap_Row_leap_Row_i64_leap_Table_behind_1_t k), ())
theorem t_slices_BinarySearchFunc_leap_Row_leap_Row_i64_leap_Table_behind_1 (k : Nat) : f_slices_BinarySearchFunc_leap_Row_leap_Row_i64_leap_Table_behind_1_t (k + 1) = (f_slices_BinarySearchFunc_leap_Row_leap_Row_i64_leap_Table_behind_1_p4 (f_slices_BinarySearchFunc_leap_Row_leap_Row_i64_leap_Table_behind_1_t k), ()) := rfl
def f_slices_BinarySearchFunc_leap_Row_leap_Row_i64_leap_Table_behind_1_m (T : TT_slices_BinarySearchFunc_leap_Row_leap_Row_i64_leap_Table_behind_1) (d : Unit × (((List (Int × Int)) × Unit) × ((Int × Unit) × (Unit × Unit)))) : Option (Unit × ((Int × Unit) × ((Bool × Unit) × Unit))) :=
  let x1 : Int := (d.2.1.1.length : Int)
  (T.1 ((), ((d.2.1.1, ()), ((d.2.2.1.1, ()), ((), ((x1, ()), (((0 : Int), ()), ((x1, ()), ()))))))))
def c_slices_BinarySearchFunc_leap_Row_leap_Row_i64_leap_Table_behind_1 : List Nat := []
def L_slices_BinarySearchFunc_leap_Row_leap_Row_i64_leap_Table_behind_1 (k : Nat) : Pts po_slices_BinarySearchFunc_leap_Row_leap_Row_i64_leap_Table_behind_1.den := [(4, ⟨sh_slices_BinarySearchFunc_leap_Row_leap_Row_i64_leap_Table_behind_1_4, (f_slices_BinarySearchFunc_leap_Row_leap_Row_i64_leap_Table_behind_1_t k).1⟩)]
def E_slices_BinarySearchFunc_leap_Row_leap_Row_i64_leap_Table_behind_1 : Env := (E0.add 142 (typedSem pi_leap_Table_behind_1 po_leap_Table_behind_1 g_leap_Table_behind_1))
theorem q_slices_BinarySearchFunc_leap_Row_leap_Row_i64_leap_Table_behind_1_4 (k : Nat) (d : Unit × (((List (Int × Int)) × Unit) × ((Int × Unit) × (Unit × ((Int × Unit) × ((Int × Unit) × ((Int × Unit) × Unit))))))) : evAt E_slices_BinarySearchFunc_leap_Row_leap_Row_i64_leap_Table_behind_1 (tab (L_slices_BinarySearchFunc_leap_Row_leap_Row_i64_leap_Table_behind_1 k)) c_slices_BinarySearchFunc_leap_Row_leap_Row_i64_leap_Table_behind_1 4 (bodyOf Tryz.f140) 0 (finK E_slices_BinarySearchFunc_leap_Row_leap_Row_i64_leap_Table_behind_1 po_slices_BinarySearchFunc_leap_Row_leap_Row_i64_leap_Table_behind_1 [.tmp 6, .tmp 7]) (ptSt sh_slices_BinarySearchFunc_leap_Row_leap_Row_i64_leap_Table_behind_1_4 d) = f_slices_BinarySearchFunc_leap_Row_leap_Row_i64_leap_Table_behind_1_p4 (f_slices_BinarySearchFunc_leap_Row_leap_Row_i64_leap_Table_behind_1_t k) d := by kernel_rfl
theorem q_slices_BinarySearchFunc_leap_Row_leap_Row_i64_leap_Table_behind_1_m (k : Nat) (d : Unit × (((List (Int × Int)) × Unit) × ((Int × Unit) × (Unit × Unit)))) : evCode E_slices_BinarySearchFunc_leap_Row_leap_Row_i64_leap_Table_behind_1 (tab (L_slices_BinarySearchFunc_leap_Row_leap_Row_i64_leap_Table_behind_1 k)) c_slices_BinarySearchFunc_leap_Row_leap_Row_i64_leap_Table_behind_1 (bodyOf Tryz.f140) 0 (finK E_slices_BinarySearchFunc_leap_Row_leap_Row_i64_leap_Table_behind_1 po_slices_BinarySearchFunc_leap_Row_leap_Row_i64_leap_Table_behind_1 [.tmp 6, .tmp 7]) (startSt pi_slices_BinarySearchFunc_leap_Row_leap_Row_i64_leap_Table_behind_1 49 d) = f_slices_BinarySearchFunc_leap_Row_leap_Row_i64_leap_Table_behind_1_m (f_slices_BinarySearchFunc_leap_Row_leap_Row_i64_leap_Table_behind_1_t k) d := by kernel_rfl
theorem go_slices_BinarySearchFunc_leap_Row_leap_Row_i64_leap_Table_behind_1 (F : Unit × (((List (Int × Int)) × Unit) × ((Int × Unit) × (Unit × Unit))) → Option (Unit × ((Int × Unit) × ((Bool × Unit) × Unit)))) (hF : ∀ d out, F d = some out → ∃ k, f_slices_BinarySearchFunc_leap_Row_leap_Row_i64_leap_Table_behind_1_m (f_slices_BinarySearchFunc_leap_Row_leap_Row_i64_leap_Table_behind_1_t k) d = some out) : FnOk Tryz.prog ET0 140 pi_slices_BinarySearchFunc_leap_Row_leap_Row_i64_leap_Table_behind_1 po_slices_BinarySearchFunc_leap_Row_leap_Row_i64_leap_Table_behind_1 F :=
  fn_of_body (E := E_slices_BinarySearchFunc_leap_Row_leap_Row_i64_leap_Table_behind_1) (envOk_add e0_ok (typed_ok ok_leap_Table_behind_1)) (fn := Tryz.f140) Tryz.func140 (by kernel_rfl) (by kernel_rfl) [.tmp 6, .tmp 7] (by kernel_rfl) (by kernel_rfl) (by decide) rfl c_slices_BinarySearchFunc_leap_Row_leap_Row_i64_leap_Table_behind_1 L_slices_BinarySearchFunc_leap_Row_leap_Row_i64_leap_Table_behind_1
    (by intro x hx d; simp only [L_slices_BinarySearchFunc_leap_Row_leap_Row_i64_leap_Table_behind_1, List.mem_cons, List.not_mem_nil, or_false] at hx; subst hx; rfl)
    (by intro k x hx d out h; simp only [L_slices_BinarySearchFunc_leap_Row_leap_Row_i64_leap_Table_behind_1, List.mem_cons, List.not_mem_nil, or_false] at hx; subst hx; exact (q_slices_BinarySearchFunc_leap_Row_leap_Row_i64_leap_Table_behind_1_4 k d).trans h)
    (by intro d out h; obtain ⟨k, hk⟩ := hF d out h; exact ⟨k, (q_slices_BinarySearchFunc_leap_Row_leap_Row_i64_leap_Table_behind_1_m k d).trans hk⟩)
def g_slices_BinarySearchFunc_leap_Row_leap_Row_i64_leap_Table_behind_1 (d : Unit × (((List (Int × Int)) × Unit) × ((Int × Unit) × (Unit × Unit)))) : Option (Unit × ((Int × Unit) × ((Bool × Unit) × Unit))) := lim fun k => f_slices_BinarySearchFunc_leap_Row_leap_Row_i64_leap_Table_behind_1_m (f_slices_BinarySearchFunc_leap_Row_leap_Row_i64_leap_Table_behind_1_t k) d
theorem ok_slices_BinarySearchFunc_leap_Row_leap_Row_i64_leap_Table_behind_1 : FnOk Tryz.prog ET0 140 pi_slices_BinarySearchFunc_leap_Row_leap_Row_i64_leap_Table_behind_1 po_slices_BinarySearchFunc_leap_Row_leap_Row_i64_leap_Table_behind_1 g_slices_BinarySearchFunc_leap_Row_leap_Row_i64_leap_Table_behind_1 := go_slices_BinarySearchFunc_leap_Row_leap_Row_i64_leap_Table_behind_1 g_slices_BinarySearchFunc_leap_Row_leap_Row_i64_leap_Table_behind_1 fun d out h => lim_some h

/- (*horologe/leap.Table).behind -/
@[reducible] def pi_leap_Table_behind : PSh := ⟨[], [.mk false [.v (.nptr (.pair (.sl (.pair (.int .i64) (.int .i64))) (.pair (.int .i64) (.int .i64))))], .mk false [.v (.int .i64)]]⟩
@[reducible] def po_leap_Table_behind : PSh := ⟨[], [.mk false [.v (.int .i64)]]⟩
def f_leap_Table_behind_m (T : Unit) (d : Unit × (((Option ((List (Int × Int)) × (Int × Int))) × Unit) × ((Int × Unit) × Unit))) : Option (Unit × ((Int × Unit) × Unit)) :=
  (g_leap_Table_list ((), ((d.2.1.1, ()), ()))).bind fun x1 =>
  (g_slices_BinarySearchFunc_leap_Row_leap_Row_i64_leap_Table_behind_1 ((), ((x1.2.1.1, ()), ((d.2.2.1.1, ()), ((), ()))))).bind fun x2 =>
  bif x2.2.2.1.1 then (
  let x3 : Int := (iadd .i64 x2.2.1.1 (1 : Int))
  some ((), ((x3, ()), ())))
  else (
  some ((), ((x2.2.1.1, ()), ())))
def c_leap_Table_behind : List Nat := []
def L_leap_Table_behind (_ : Nat) : Pts po_leap_Table_behind.den := []
def E_leap_Table_behind : Env := ((E0.add 140 (typedSem pi_slices_BinarySearchFunc_leap_Row_leap_Row_i64_leap_Table_behind_1 po_slices_BinarySearchFunc_leap_Row_leap_Row_i64_leap_Table_behind_1 g_slices_BinarySearchFunc_leap_Row_leap_Row_i64_leap_Table_behind_1)).add 141 (typedSem pi_leap_Table_list po_leap_Table_list g_leap_Table_list))
theorem q_leap_Table_behind_m (k : Nat) (d : Unit × (((Option ((List (Int × Int)) × (Int × Int))) × Unit) × ((Int × Unit) × Unit))) : evCode E_leap_Table_behind (tab (L_leap_Table_behind k)) c_leap_Table_behind (bodyOf Tryz.f136) 0 (finK E_leap_Table_behind po_leap_Table_behind [.tmp 4]) (startSt pi_leap_Table_behind 18 d) = f_leap_Table_behind_m () d := by kernel_rfl
def g_leap_Table_behind (d : Unit × (((Option ((List (Int × Int)) × (Int × Int))) × Unit) × ((Int × Unit) × Unit))) : Option (Unit × ((Int × Unit) × Unit)) := f_leap_Table_behind_m () d
theorem ok_leap_Table_behind : FnOk Tryz.prog ET0 136 pi_leap_Table_behind po_leap_Table_behind g_leap_Table_behind :=
  fn_of_body (E := E_leap_Table_behind) (envOk_add (envOk_add e0_ok (typed_ok ok_slices_BinarySearchFunc_leap_Row_leap_Row_i64_leap_Table_behind_1)) (typed_ok ok_leap_Table_list)) (fn := Tryz.f136) Tryz.func136 (by kernel_rfl) (by kernel_rfl) [.tmp 4] (by kernel_rfl) (by kernel_rfl) (by decide) rfl c_leap_Table_behind L_leap_Table_behind
    (by intro x hx; cases hx) (by intro k x hx; cases hx) (fun d out h => ⟨0, (q_leap_Table_behind_m 0 d).trans h⟩)

/- (*horologe/leap.Table).change -/
@[reducible] def pi_leap_Table_change : PSh := ⟨[], [.mk false [.v (.nptr (.pair (.sl (.pair (.int .i64) (.int .i64))) (.pair (.int .i64) (.int .i64))))], .mk false [.v (.int .i64)]]⟩
@[reducible] def po_leap_Table_change : PSh := ⟨[], [.mk false [.v (.int .i64)]]⟩
def f_leap_Table_change_m (T : Unit) (d : Unit × (((Option ((List (Int × Int)) × (Int × Int))) × Unit) × ((Int × Unit) × Unit))) : Option (Unit × ((Int × Unit) × Unit)) :=
  let x1 : Int := (isub .i64 d.2.2.1.1 (1 : Int))
  (g_leap_Table_Row ((), ((d.2.1.1, ()), ((x1, ()), ())))).bind fun x2 =>
  let x3 : Bool := (!x2.2.2.1.1)
  bif x3 then (
  some ((), (((0 : Int), ()), ())))
  else (
  d.2.1.1.bind fun x4 =>
  bif decide ((0 : Int) ≤ d.2.2.1.1) && decide (d.2.2.1.1 < (x4.1.length : Int)) then (
  let x5 : Int := (isub .i64 (gd_i64_i64 x4.1 d.2.2.1.1).2 x2.2.1.2.1)
  some ((), ((x5, ()), ())))
  else none)
def c_leap_Table_change : List Nat := []
def L_leap_Table_change (_ : Nat) : Pts po_leap_Table_change.den := []
def E_leap_Table_change : Env := (E0.add 135 (typedSem pi_leap_Table_Row po_leap_Table_Row g_leap_Table_Row))
theorem q_leap_Table_change_m (k : Nat) (d : Unit × (((Option ((List (Int × Int)) × (Int × Int))) × Unit) × ((Int × Unit) × Unit))) : evCode E_leap_Table_change (tab (L_leap_Table_change k)) c_leap_Table_change (bodyOf Tryz.f137) 0 (finK E_leap_Table_change po_leap_Table_change [.tmp 4]) (startSt pi_leap_Table_change 27 d) = f_leap_Table_change_m () d := by kernel_rfl
def g_leap_Table_change (d : Unit × (((Option ((List (Int × Int)) × (Int × Int))) × Unit) × ((Int × Unit) × Unit))) : Option (Unit × ((Int × Unit) × Unit)) := f_leap_Table_change_m () d
theorem ok_leap_Table_change : FnOk Tryz.prog ET0 137 pi_leap_Table_change po_leap_Table_change g_leap_Table_change :=
  fn_of_body (E := E_leap_Table_change) (envOk_add e0_ok (typed_ok ok_leap_Table_Row)) (fn := Tryz.f137) Tryz.func137 (by kernel_rfl) (by kernel_rfl) [.tmp 4] (by kernel_rfl) (by kernel_rfl) (by decide) rfl c_leap_Table_change L_leap_Table_change
    (by intro x hx; cases hx) (by intro k x hx; cases hx) (fun d out h => ⟨0, (q_leap_Table_change_m 0 d).trans h⟩)

/- (*horologe/leap.Table).Leap -/
@[reducible] def pi_leap_Table_Leap : PSh := ⟨[], [.mk false [.v (.nptr (.pair (.sl (.pair (.int .i64) (.int .i64))) (.pair (.int .i64) (.int .i64))))], .mk false [.v (.int .i64)]]⟩
@[reducible] def po_leap_Table_Leap : PSh := ⟨[], [.mk false [.v (.int .i64)]]⟩
def f_leap_Table_Leap_m (T : Unit) (d : Unit × (((Option ((List (Int × Int)) × (Int × Int))) × Unit) × ((Int × Unit) × Unit))) : Option (Unit × ((Int × Unit) × Unit)) :=
  (g_leap_Table_behind ((), ((d.2.1.1, ()), ((d.2.2.1.1, ()), ())))).bind fun x1 =>
  (g_leap_Table_Row ((), ((d.2.1.1, ()), ((x1.2.1.1, ()), ())))).bind fun x2 =>
  let x3 : Bool := (!x2.2.2.1.1)
  bif x3 then (
  some ((), (((0 : Int), ()), ())))
  else (
  let x4 : Int := (isub .i64 x2.2.1.1 (1 : Int))
  let x5 : Bool := (x4 != d.2.2.1.1)
  bif x5 then (
  some ((), (((0 : Int), ()), ())))
  else (
  (g_leap_Table_behind ((), ((d.2.1.1, ()), ((d.2.2.1.1, ()), ())))).bind fun x6 =>
  (g_leap_Table_change ((), ((d.2.1.1, ()), ((x6.2.1.1, ()), ())))).bind fun x7 =>
  some ((), ((x7.2.1.1, ()), ()))))
def c_leap_Table_Leap : List Nat := []
def L_leap_Table_Leap (_ : Nat) : Pts po_leap_Table_Leap.den := []
def E_leap_Table_Leap : Env := (((E0.add 135 (typedSem pi_leap_Table_Row po_leap_Table_Row g_leap_Table_Row)).add 136 (typedSem pi_leap_Table_behind po_leap_Table_behind g_leap_Table_behind)).add 137 (typedSem pi_leap_Table_change po_leap_Table_change g_leap_Table_change))
theorem q_leap_Table_Leap_m (k : Nat) (d : Unit × (((Option ((List (Int × Int)) × (Int × Int))) × Unit) × ((Int × Unit) × Unit))) : evCode E_leap_Table_Leap (tab (L_leap_Table_Leap k)) c_leap_Table_Leap (bodyOf Tryz.f128) 0 (finK E_leap_Table_Leap po_leap_Table_Leap [.tmp 4]) (startSt pi_leap_Table_Leap 29 d) = f_leap_Table_Leap_m () d := by kernel_rfl
def g_leap_Table_Leap (d : Unit × (((Option ((List (Int × Int)) × (Int × Int))) × Unit) × ((Int × Unit) × Unit))) : Option (Unit × ((Int × Unit) × Unit)) := f_leap_Table_Leap_m () d
theorem ok_leap_Table_Leap : FnOk Tryz.prog ET0 128 pi_leap_Table_Leap po_leap_Table_Leap g_leap_Table_Leap :=
  fn_of_body (E := E_leap_Table_Leap) (envOk_add (envOk_add (envOk_add e0_ok (typed_ok ok_leap_Table_Row)) (typed_ok ok_leap_Table_behind)) (typed_ok ok_leap_Table_change)) (fn := Tryz.f128) Tryz.func128 (by kernel_rfl) (by kernel_rfl) [.tmp 4] (by kernel_rfl) (by kernel_rfl) (by decide) rfl c_leap_Table_Leap L_leap_Table_Leap
    (by intro x hx; cases hx) (by intro k x hx; cases hx) (fun d out h => ⟨0, (q_leap_Table_Leap_m 0 d).trans h⟩)

/- (*horologe/leap.Table).Length -/
@[reducible] def pi_leap_Table_Length : PSh := ⟨[], [.mk false [.v (.nptr (.pair (.sl (.pair (.int .i64) (.int .i64))) (.pair (.int .i64) (.int .i64))))], .mk false [.v (.int .i64)]]⟩
@[reducible] def po_leap_Table_Length : PSh := ⟨[], [.mk false [.v (.int .i64)]]⟩
def f_leap_Table_Length_m (T : Unit) (d : Unit × (((Option ((List (Int × Int)) × (Int × Int))) × Unit) × ((Int × Unit) × Unit))) : Option (Unit × ((Int × Unit) × Unit)) :=
  (g_leap_Table_Leap ((), ((d.2.1.1, ()), ((d.2.2.1.1, ()), ())))).bind fun x1 =>
  let x2 : Int := (iadd .i64 (86400 : Int) x1.2.1.1)
  some ((), ((x2, ()), ()))
def c_leap_Table_Length : List Nat := []
def L_leap_Table_Length (_ : Nat) : Pts po_leap_Table_Length.den := []
def E_leap_Table_Length : Env := (E0.add 128 (typedSem pi_leap_Table_Leap po_leap_Table_Leap g_leap_Table_Leap))
theorem q_leap_Table_Length_m (k : Nat) (d : Unit × (((Option ((List (Int × Int)) × (Int × Int))) × Unit) × ((Int × Unit) × Unit))) : evCode E_leap_Table_Length (tab (L_leap_Table_Length k)) c_leap_Table_Length (bodyOf Tryz.f113) 0 (finK E_leap_Table_Length po_leap_Table_Length [.tmp 4]) (startSt pi_leap_Table_Length 9 d) = f_leap_Table_Length_m () d := by kernel_rfl
def g_leap_Table_Length (d : Unit × (((Option ((List (Int × Int)) × (Int × Int))) × Unit) × ((Int × Unit) × Unit))) : Option (Unit × ((Int × Unit) × Unit)) := f_leap_Table_Length_m () d
theorem ok_leap_Table_Length : FnOk Tryz.prog ET0 113 pi_leap_Table_Length po_leap_Table_Length g_leap_Table_Length :=
  fn_of_body (E := E_leap_Table_Length) (envOk_add e0_ok (typed_ok ok_leap_Table_Leap)) (fn := Tryz.f113) Tryz.func113 (by kernel_rfl) (by kernel_rfl) [.tmp 4] (by kernel_rfl) (by kernel_rfl) (by decide) rfl c_leap_Table_Length L_leap_Table_Length
    (by intro x hx; cases hx) (by intro k x hx; cases hx) (fun d out h => ⟨0, (q_leap_Table_Length_m 0 d).trans h⟩)

/- (*horologe/leap.Table).Has -/
@[reducible] def pi_leap_Table_Has : PSh := ⟨[], [.mk false [.v (.nptr (.pair (.sl (.pair (.int .i64) (.int .i64))) (.pair (.int .i64) (.int .i64))))], .mk false [.v (.int .i64)], .mk false [.v (.int .i64)]]⟩
@[reducible] def po_leap_Table_Has : PSh := ⟨[], [.mk false [.v .bool]]⟩
def f_leap_Table_Has_m (T : Unit) (d : Unit × (((Option ((List (Int × Int)) × (Int × Int))) × Unit) × ((Int × Unit) × ((Int × Unit) × Unit)))) : Option (Unit × ((Bool × Unit) × Unit)) :=
  let x1 : Bool := (decide (d.2.2.2.1.1 ≥ (0 : Int)))
  bif x1 then (
  (g_leap_Table_Length ((), ((d.2.1.1, ()), ((d.2.2.1.1, ()), ())))).bind fun x2 =>
  let x3 : Bool := (decide (d.2.2.2.1.1 < x2.2.1.1))
  some ((), ((x3, ()), ())))
  else (
  some ((), ((false, ()), ())))
def c_leap_Table_Has : List Nat := []
def L_leap_Table_Has (_ : Nat) : Pts po_leap_Table_Has.den := []
def E_leap_Table_Has : Env := (E0.add 113 (typedSem pi_leap_Table_Length po_leap_Table_Length g_leap_Table_Length))
theorem q_leap_Table_Has_m (k : Nat) (d : Unit × (((Option ((List (Int × Int)) × (Int × Int))) × Unit) × ((Int × Unit) × ((Int × Unit) × Unit)))) : evCode E_leap_Table_Has (tab (L_leap_Table_Has k)) c_leap_Table_Has (bodyOf Tryz.f88) 0 (finK E_leap_Table_Has po_leap_Table_Has [.tmp 6]) (startSt pi_leap_Table_Has 16 d) = f_leap_Table_Has_m () d := by kernel_rfl
def g_leap_Table_Has (d : Unit × (((Option ((List (Int × Int)) × (Int × Int))) × Unit) × ((Int × Unit) × ((Int × Unit) × Unit)))) : Option (Unit × ((Bool × Unit) × Unit)) := f_leap_Table_Has_m () d
theorem ok_leap_Table_Has : FnOk Tryz.prog ET0 88 pi_leap_Table_Has po_leap_Table_Has g_leap_Table_Has :=
  fn_of_body (E := E_leap_Table_Has) (envOk_add e0_ok (typed_ok ok_leap_Table_Length)) (fn := Tryz.f88) Tryz.func88 (by kernel_rfl) (by kernel_rfl) [.tmp 6] (by kernel_rfl) (by kernel_rfl) (by decide) rfl c_leap_Table_Has L_leap_Table_Has
    (by intro x hx; cases hx) (by intro k x hx; cases hx) (fun d out h => ⟨0, (q_leap_Table_Has_m 0 d).trans h⟩)

/- horologe/scale.Listed -/
@[reducible] def pi_scale_Listed : PSh := ⟨[], [.mk false [.v (.nptr (.pair (.sl (.pair (.int .i64) (.int .i64))) (.pair (.int .i64) (.int .i64))))], .mk true [.v (.int .i64), .v (.int .i64), .v (.int .i64), .v (.int .i64), .v (.int .i64), .v (.int .i64), .v (.int .i64), .v (.int .i64)]]⟩
@[reducible] def po_scale_Listed : PSh := ⟨[], [.mk false [.v .err]]⟩
def f_scale_Listed_m (T : Unit) (d : Unit × (((Option ((List (Int × Int)) × (Int × Int))) × Unit) × ((Int × (Int × (Int × (Int × (Int × (Int × (Int × (Int × Unit)))))))) × Unit))) : Option (Unit × (((Option Int) × Unit) × Unit)) :=
  (g_label_Split ((), ((d.2.2.1.1, (d.2.2.1.2.1, (d.2.2.1.2.2.1, (d.2.2.1.2.2.2.1, (d.2.2.1.2.2.2.2.1, (d.2.2.1.2.2.2.2.2.1, (d.2.2.1.2.2.2.2.2.2.1, (d.2.2.1.2.2.2.2.2.2.2.1, ())))))))), ()))).bind fun x1 =>
  let x2 : Bool := (!x1.2.2.2.1.1.isNone)
  bif x2 then (
  some ((), ((x1.2.2.2.1.1, ()), ())))
  else (
  (g_leap_Table_Has ((), ((d.2.1.1, ()), ((x1.2.1.1, ()), ((x1.2.2.1.1, ()), ()))))).bind fun x3 =>
  let x4 : Bool := (!x3.2.1.1)
  bif x4 then (
  let x5 : (Option Int) := (some (12 : Int))
  some ((), ((x5, ()), ())))
  else (
  some ((), (((none : Option Int), ()), ()))))
def c_scale_Listed : List Nat := []
def L_scale_Listed (_ : Nat) : Pts po_scale_Listed.den := []
def E_scale_Listed : Env := ((E0.add 87 (typedSem pi_label_Split po_label_Split g_label_Split)).add 88 (typedSem pi_leap_Table_Has po_leap_Table_Has g_leap_Table_Has))
theorem q_scale_Listed_m (k : Nat) (d : Unit × (((Option ((List (Int × Int)) × (Int × Int))) × Unit) × ((Int × (Int × (Int × (Int × (Int × (Int × (Int × (Int × Unit)))))))) × Unit))) : evCode E_scale_Listed (tab (L_scale_Listed k)) c_scale_Listed (bodyOf Tryz.f49) 0 (finK E_scale_Listed po_scale_Listed [.tmp 4]) (startSt pi_scale_Listed 25 d) = f_scale_Listed_m () d := by kernel_rfl
def g_scale_Listed (d : Unit × (((Option ((List (Int × Int)) × (Int × Int))) × Unit) × ((Int × (Int × (Int × (Int × (Int × (Int × (Int × (Int × Unit)))))))) × Unit))) : Option (Unit × (((Option Int) × Unit) × Unit)) := f_scale_Listed_m () d
theorem ok_scale_Listed : FnOk Tryz.prog ET0 49 pi_scale_Listed po_scale_Listed g_scale_Listed :=
  fn_of_body (E := E_scale_Listed) (envOk_add (envOk_add e0_ok (typed_ok ok_label_Split)) (typed_ok ok_leap_Table_Has)) (fn := Tryz.f49) Tryz.func49 (by kernel_rfl) (by kernel_rfl) [.tmp 4] (by kernel_rfl) (by kernel_rfl) (by decide) rfl c_scale_Listed L_scale_Listed
    (by intro x hx; cases hx) (by intro k x hx; cases hx) (fun d out h => ⟨0, (q_scale_Listed_m 0 d).trans h⟩)

/- horologe/iso.ParseBy -/
@[reducible] def pi_iso_ParseBy : PSh := ⟨[], [.mk false [.v (.nptr (.pair (.sl (.pair (.int .i64) (.int .i64))) (.pair (.int .i64) (.int .i64))))], .mk false [.v .str]]⟩
@[reducible] def po_iso_ParseBy : PSh := ⟨[], [.mk true [.v (.int .i64), .v (.int .i64), .v (.int .i64), .v (.int .i64), .v (.int .i64), .v (.int .i64), .v (.int .i64), .v (.int .i64)], .mk false [.v .err]]⟩
def f_iso_ParseBy_m (T : Unit) (d : Unit × (((Option ((List (Int × Int)) × (Int × Int))) × Unit) × ((ByteArray × Unit) × Unit))) : Option (Unit × ((Int × (Int × (Int × (Int × (Int × (Int × (Int × (Int × Unit)))))))) × (((Option Int) × Unit) × Unit))) :=
  (g_iso_Parse ((), ((d.2.2.1.1, ()), ()))).bind fun x1 =>
  let x2 : Bool := (!x1.2.2.1.1.isNone)
  bif x2 then (
  some ((), (((0 : Int), ((0 : Int), ((0 : Int), ((0 : Int), ((0 : Int), ((0 : Int), ((0 : Int), ((0 : Int), ())))))))), ((x1.2.2.1.1, ()), ()))))
  else (
  (g_scale_Listed ((), ((d.2.1.1, ()), ((x1.2.1.1, (x1.2.1.2.1, (x1.2.1.2.2.1, (x1.2.1.2.2.2.1, (x1.2.1.2.2.2.2.1, (x1.2.1.2.2.2.2.2.1, (x1.2.1.2.2.2.2.2.2.1, (x1.2.1.2.2.2.2.2.2.2.1, ())))))))), ())))).bind fun x3 =>
  let x4 : Bool := (!x3.2.1.1.isNone)
  bif x4 then (
  some ((), (((0 : Int), ((0 : Int), ((0 : Int), ((0 : Int), ((0 : Int), ((0 : Int), ((0 : Int), ((0 : Int), ())))))))), ((x3.2.1.1, ()), ()))))
  else (
  some ((), ((x1.2.1.1, (x1.2.1.2.1, (x1.2.1.2.2.1, (x1.2.1.2.2.2.1, (x1.2.1.2.2.2.2.1, (x1.2.1.2.2.2.2.2.1, (x1.2.1.2.2.2.2.2.2.1, (x1.2.1.2.2.2.2.2.2.2.1, ())))))))), (((none : Option Int), ()), ())))))
def c_iso_ParseBy : List Nat := []
def L_iso_ParseBy (_ : Nat) : Pts po_iso_ParseBy.den := []
def E_iso_ParseBy : Env := ((E0.add 16 (typedSem pi_iso_Parse po_iso_Parse g_iso_Parse)).add 49 (typedSem pi_scale_Listed po_scale_Listed g_scale_Listed))
theorem q_iso_ParseBy_m (k : Nat) (d : Unit × (((Option ((List (Int × Int)) × (Int × Int))) × Unit) × ((ByteArray × Unit) × Unit))) : evCode E_iso_ParseBy (tab (L_iso_ParseBy k)) c_iso_ParseBy (bodyOf Tryz.f22) 0 (finK E_iso_ParseBy po_iso_ParseBy [.cell 4 45, .tmp 5]) (startSt pi_iso_ParseBy 26 d) = f_iso_ParseBy_m () d := by kernel_rfl
def g_iso_ParseBy (d : Unit × (((Option ((List (Int × Int)) × (Int × Int))) × Unit) × ((ByteArray × Unit) × Unit))) : Option (Unit × ((Int × (Int × (Int × (Int × (Int × (Int × (Int × (Int × Unit)))))))) × (((Option Int) × Unit) × Unit))) := f_iso_ParseBy_m () d
theorem ok_iso_ParseBy : FnOk Tryz.prog ET0 22 pi_iso_ParseBy po_iso_ParseBy g_iso_ParseBy :=
  fn_of_body (E := E_iso_ParseBy) (envOk_add (envOk_add e0_ok (typed_ok ok_iso_Parse)) (typed_ok ok_scale_Listed)) (fn := Tryz.f22) Tryz.func22 (by kernel_rfl) (by kernel_rfl) [.cell 4 45, .tmp 5] (by kernel_rfl) (by kernel_rfl) (by decide) rfl c_iso_ParseBy L_iso_ParseBy
    (by intro x hx; cases hx) (by intro k x hx; cases hx) (fun d out h => ⟨0, (q_iso_ParseBy_m 0 d).trans h⟩)

/- horologe/horologeref08.Split -/
@[reducible] def pi_ref08_Split : PSh := ⟨[], [.mk true [.v (.int .i64), .v (.int .i64), .v (.int .i64), .v (.int .i64), .v (.int .i64), .v (.int .i64), .v (.int .i64), .v (.int .i64)]]⟩
@[reducible] def po_ref08_Split : PSh := ⟨[], [.mk false [.v (.int .i64)], .mk false [.v (.int .i64)], .mk false [.v (.int .i64)]]⟩
def f_ref08_Split_m (T : Unit) (d : Unit × ((Int × (Int × (Int × (Int × (Int × (Int × (Int × (Int × Unit)))))))) × Unit)) : Option (Unit × ((Int × Unit) × ((Int × Unit) × ((Int × Unit) × Unit)))) :=
  (g_ref08_Check ((), ((d.2.1.1, (d.2.1.2.1, (d.2.1.2.2.1, (d.2.1.2.2.2.1, (d.2.1.2.2.2.2.1, (d.2.1.2.2.2.2.2.1, (d.2.1.2.2.2.2.2.2.1, (d.2.1.2.2.2.2.2.2.2.1, ())))))))), ()))).bind fun x1 =>
  let x2 : Bool := (x1.2.1.1 != (0 : Int))
  bif x2 then (
  some ((), (((0 : Int), ()), (((0 : Int), ()), ((x1.2.1.1, ()), ())))))
  else (
  (g_ref08_Moment ((), ((d.2.1.1, (d.2.1.2.1, (d.2.1.2.2.1, (d.2.1.2.2.2.1, (d.2.1.2.2.2.2.1, (d.2.1.2.2.2.2.2.1, (d.2.1.2.2.2.2.2.2.1, (d.2.1.2.2.2.2.2.2.2.1, ())))))))), ()))).bind fun x3 =>
  let x4 : Int := (imul .i64 x3.2.2.1.1 (60 : Int))
  let x5 : Int := (iadd .i64 x4 d.2.1.2.2.2.2.2.1)
  some ((), ((x3.2.1.1, ()), ((x5, ()), (((0 : Int), ()), ())))))
def c_ref08_Split : List Nat := []
def L_ref08_Split (_ : Nat) : Pts po_ref08_Split.den := []
def E_ref08_Split : Env := ((E0.add 46 (typedSem pi_ref08_Check po_ref08_Check g_ref08_Check)).add 50 (typedSem pi_ref08_Moment po_ref08_Moment g_ref08_Moment))
theorem q_ref08_Split_m (k : Nat) (d : Unit × ((Int × (Int × (Int × (Int × (Int × (Int × (Int × (Int × Unit)))))))) × Unit)) : evCode E_ref08_Split (tab (L_ref08_Split k)) c_ref08_Split (bodyOf Tryz.f23) 0 (finK E_ref08_Split po_ref08_Split [.tmp 2, .tmp 3, .tmp 4]) (startSt pi_ref08_Split 24 d) = f_ref08_Split_m () d := by kernel_rfl
def g_ref08_Split (d : Unit × ((Int × (Int × (Int × (Int × (Int × (Int × (Int × (Int × Unit)))))))) × Unit)) : Option (Unit × ((Int × Unit) × ((Int × Unit) × ((Int × Unit) × Unit)))) := f_ref08_Split_m () d
theorem ok_ref08_Split : FnOk Tryz.prog ET0 23 pi_ref08_Split po_ref08_Split g_ref08_Split :=
  fn_of_body (E := E_ref08_Split) (envOk_add (envOk_add e0_ok (typed_ok ok_ref08_Check)) (typed_ok ok_ref08_Moment)) (fn := Tryz.f23) Tryz.func23 (by kernel_rfl) (by kernel_rfl) [.tmp 2, .tmp 3, .tmp 4] (by kernel_rfl) (by kernel_rfl) (by decide) rfl c_ref08_Split L_ref08_Split
    (by intro x hx; cases hx) (by intro k x hx; cases hx) (fun d out h => ⟨0, (q_ref08_Split_m 0 d).trans h⟩)

/- horologe/horologeref10.Leap -/
@[reducible] def pi_ref10_Leap : PSh := ⟨[], [.mk true [.v (.sl (.pair (.int .i64) (.int .i64))), .v (.int .i64), .v (.int .i64)], .mk false [.v (.int .i64)]]⟩
@[reducible] def po_ref10_Leap : PSh := ⟨[], [.mk false [.v (.int .i64)]]⟩
@[reducible] def TT_ref10_Leap : Type := ((((((List (Int × Int)) × (Int × (Int × Unit))) × Unit) × ((Int × Unit) × (Unit × ((Int × Unit) × Unit)))) → Option (Unit × ((Int × Unit) × Unit))) × Unit)
@[reducible] def sh_ref10_Leap_3 : PSh := ⟨[.var 56 [.v (.sl (.pair (.int .i64) (.int .i64))), .v (.int .i64), .v (.int .i64)]], [.any, .mk false [.v (.int .i64)], .mk false [.ref 0 0], .any, .any, .mk false [.v (.int .i64)], .any, .any, .any, .any, .any, .any, .any, .any, .any, .any, .any, .any, .any, .any, .any, .any, .any, .any, .any, .any, .any, .any, .any, .any, .any, .any, .any, .any, .any, .any]⟩
def f_ref10_Leap_p3 (T : TT_ref10_Leap) (d : (((List (Int × Int)) × (Int × (Int × Unit))) × Unit) × ((Int × Unit) × (Unit × ((Int × Unit) × Unit)))) : Option (Unit × ((Int × Unit) × Unit)) :=
  let x1 : Int := (d.1.1.1.length : Int)
  let x2 : Bool := (decide (d.2.2.2.1.1 < x1))
  bif x2 then (
  bif decide ((0 : Int) ≤ d.2.2.2.1.1) && decide (d.2.2.2.1.1 < (d.1.1.1.length : Int)) then (
  let x3 : Int := (isub .i64 (gd_i64_i64 d.1.1.1 d.2.2.2.1.1).1 (1 : Int))
  let x4 : Bool := (x3 == d.2.1.1)
  bif x4 then (
  bif decide ((0 : Int) ≤ d.2.2.2.1.1) && decide (d.2.2.2.1.1 < (d.1.1.1.length : Int)) then (
  let x5 : Int := (isub .i64 d.2.2.2.1.1 (1 : Int))
  bif decide ((0 : Int) ≤ x5) && decide (x5 < (d.1.1.1.length : Int)) then (
  let x6 : Int := (isub .i64 (gd_i64_i64 d.1.1.1 d.2.2.2.1.1).2 (gd_i64_i64 d.1.1.1 x5).2)
  some ((), ((x6, ()), ())))
  else none)
  else none)
  else (
  let x7 : Int := (iadd .i64 d.2.2.2.1.1 (1 : Int))
  (T.1 (((d.1.1.1, (d.1.1.2.1, (d.1.1.2.2.1, ()))), ()), ((d.2.1.1, ()), ((), ((x7, ()), ())))))))
  else none)
  else (
  some ((), (((0 : Int), ()), ())))
def f_ref10_Leap_t : Nat → TT_ref10_Leap
  | 0 => (fun _ => none, ())
  | k + 1 => (f_ref10_Leap_p3 (f_ref10_Leap_t k), ())
theorem t_ref10_Leap (k : Nat) : f_ref10_Leap_t (k + 1) = (f_ref10_Leap_p3 (f_ref10_Leap_t k), ()) := rfl
def f_ref10_Leap_m (T : TT_ref10_Leap) (d : Unit × (((List (Int × Int)) × (Int × (Int × Unit))) × ((Int × Unit) × Unit))) : Option (Unit × ((Int × Unit) × Unit)) :=
  (T.1 (((d.2.1.1, (d.2.1.2.1, (d.2.1.2.2.1, ()))), ()), ((d.2.2.1.1, ()), ((), (((1 : Int), ()), ())))))
def c_ref10_Leap : List Nat := []
def L_ref10_Leap (k : Nat) : Pts po_ref10_Leap.den := [(3, ⟨sh_ref10_Leap_3, (f_ref10_Leap_t k).1⟩)]
def E_ref10_Leap : Env := E0
theorem q_ref10_Leap_3 (k : Nat) (d : (((List (Int × Int)) × (Int × (Int × Unit))) × Unit) × ((Int × Unit) × (Unit × ((Int × Unit) × Unit)))) : evAt E_ref10_Leap (tab (L_ref10_Leap k)) c_ref10_Leap 3 (bodyOf Tryz.f51) 0 (finK E_ref10_Leap po_ref10_Leap [.tmp 4]) (ptSt sh_ref10_Leap_3 d) = f_ref10_Leap_p3 (f_ref10_Leap_t k) d := by kernel_rfl
theorem q_ref10_Leap_m (k : Nat) (d : Unit × (((List (Int × Int)) × (Int × (Int × Unit))) × ((Int × Unit) × Unit))) : evCode E_ref10_Leap (tab (L_ref10_Leap k)) c_ref10_Leap (bodyOf Tryz.f51) 0 (finK E_ref10_Leap po_ref10_Leap [.tmp 4]) (startSt pi_ref10_Leap 36 d) = f_ref10_Leap_m (f_ref10_Leap_t k) d := by kernel_rfl
theorem go_ref10_Leap (F : Unit × (((List (Int × Int)) × (Int × (Int × Unit))) × ((Int × Unit) × Unit)) → Option (Unit × ((Int × Unit) × Unit))) (hF : ∀ d out, F d = some out → ∃ k, f_ref10_Leap_m (f_ref10_Leap_t k) d = some out) : FnOk Tryz.prog ET0 51 pi_ref10_Leap po_ref10_Leap F :=
  fn_of_body (E := E_ref10_Leap) e0_ok (fn := Tryz.f51) Tryz.func51 (by kernel_rfl) (by kernel_rfl) [.tmp 4] (by kernel_rfl) (by kernel_rfl) (by decide) rfl c_ref10_Leap L_ref10_Leap
    (by intro x hx d; simp only [L_ref10_Leap, List.mem_cons, List.not_mem_nil, or_false] at hx; subst hx; rfl)
    (by intro k x hx d out h; simp only [L_ref10_Leap, List.mem_cons, List.not_mem_nil, or_false] at hx; subst hx; exact (q_ref10_Leap_3 k d).trans h)
    (by intro d out h; obtain ⟨k, hk⟩ := hF d out h; exact ⟨k, (q_ref10_Leap_m k d).trans hk⟩)
def g_ref10_Leap (d : Unit × (((List (Int × Int)) × (Int × (Int × Unit))) × ((Int × Unit) × Unit))) : Option (Unit × ((Int × Unit) × Unit)) := lim fun k => f_ref10_Leap_m (f_ref10_Leap_t k) d
theorem ok_ref10_Leap : FnOk Tryz.prog ET0 51 pi_ref10_Leap po_ref10_Leap g_ref10_Leap := go_ref10_Leap g_ref10_Leap fun d out h => lim_some h

/- horologe/horologeref12.Has -/
@[reducible] def pi_ref12_Has : PSh := ⟨[], [.mk true [.v (.sl (.pair (.int .i64) (.int .i64))), .v (.int .i64), .v (.int .i64)], .mk false [.v (.int .i64)], .mk false [.v (.int .i64)]]⟩
@[reducible] def po_ref12_Has : PSh := ⟨[], [.mk false [.v .bool]]⟩
def f_ref12_Has_m (T : Unit) (d : Unit × (((List (Int × Int)) × (Int × (Int × Unit))) × ((Int × Unit) × ((Int × Unit) × Unit)))) : Option (Unit × ((Bool × Unit) × Unit)) :=
  let x1 : Bool := (decide (d.2.2.2.1.1 ≥ (0 : Int)))
  bif x1 then (
  (g_ref10_Leap ((), ((d.2.1.1, (d.2.1.2.1, (d.2.1.2.2.1, ()))), ((d.2.2.1.1, ()), ())))).bind fun x2 =>
  let x3 : Int := (iadd .i64 (86400 : Int) x2.2.1.1)
  let x4 : Bool := (decide (d.2.2.2.1.1 < x3))
  some ((), ((x4, ()), ())))
  else (
  some ((), ((false, ()), ())))
def c_ref12_Has : List Nat := []
def L_ref12_Has (_ : Nat) : Pts po_ref12_Has.den := []
def E_ref12_Has : Env := (E0.add 51 (typedSem pi_ref10_Leap po_ref10_Leap g_ref10_Leap))
theorem q_ref12_Has_m (k : Nat) (d : Unit × (((List (Int × Int)) × (Int × (Int × Unit))) × ((Int × Unit) × ((Int × Unit) × Unit)))) : evCode E_ref12_Has (tab (L_ref12_Has k)) c_ref12_Has (bodyOf Tryz.f24) 0 (finK E_ref12_Has po_ref12_Has [.tmp 6]) (startSt pi_ref12_Has 17 d) = f_ref12_Has_m () d := by kernel_rfl
def g_ref12_Has (d : Unit × (((List (Int × Int)) × (Int × (Int × Unit))) × ((Int × Unit) × ((Int × Unit) × Unit)))) : Option (Unit × ((Bool × Unit) × Unit)) := f_ref12_Has_m () d
theorem ok_ref12_Has : FnOk Tryz.prog ET0 24 pi_ref12_Has po_ref12_Has g_ref12_Has :=
  fn_of_body (E := E_ref12_Has) (envOk_add e0_ok (typed_ok ok_ref10_Leap)) (fn := Tryz.f24) Tryz.func24 (by kernel_rfl) (by kernel_rfl) [.tmp 6] (by kernel_rfl) (by kernel_rfl) (by decide) rfl c_ref12_Has L_ref12_Has
    (by intro x hx; cases hx) (by intro k x hx; cases hx) (fun d out h => ⟨0, (q_ref12_Has_m 0 d).trans h⟩)

/- horologe/horologelaw24.IsoParses -/
@[reducible] def pi_law24_IsoParses : PSh := ⟨[], [.mk false [.v .str], .mk true [.v (.sl (.pair (.int .i64) (.int .i64))), .v (.int .i64), .v (.int .i64)]]⟩
@[reducible] def po_law24_IsoParses : PSh := ⟨[], [.mk false [.v .bool]]⟩
def f_law24_IsoParses_m (T : Unit) (d : Unit × ((ByteArray × Unit) × (((List (Int × Int)) × (Int × (Int × Unit))) × Unit))) : Option (Unit × ((Bool × Unit) × Unit)) :=
  (g_law24_alive ((), ())).bind fun x1 =>
  let x2 : Bool := (!x1.2.1.1)
  bif x2 then (
  some ((), ((false, ()), ())))
  else (
  let x3 : Int := (d.2.1.1.size : Int)
  let x4 : Bool := (decide (x3 > (200 : Int)))
  bif x4 then (
  some ((), ((true, ()), ())))
  else (
  (g_law10_Long ((), ((d.2.2.1.1, (d.2.2.1.2.1, (d.2.2.1.2.2.1, ()))), ()))).bind fun x5 =>
  bif x5.2.1.1 then (
  some ((), ((true, ()), ())))
  else (
  (g_iso_Parse ((), ((d.2.1.1, ()), ()))).bind fun x6 =>
  (g_ref24_Parse ((), ((d.2.1.1, ()), ()))).bind fun x7 =>
  (g_law08_Document ((), ((x6.2.1.1, (x6.2.1.2.1, (x6.2.1.2.2.1, (x6.2.1.2.2.2.1, (x6.2.1.2.2.2.2.1, (x6.2.1.2.2.2.2.2.1, (x6.2.1.2.2.2.2.2.2.1, (x6.2.1.2.2.2.2.2.2.2.1, ())))))))), ()))).bind fun x8 =>
  let x9 : Bool := (!((x8.2.1.1 == x7.2.1.1) && ((x8.2.1.2.1 == x7.2.1.2.1) && ((x8.2.1.2.2.1 == x7.2.1.2.2.1) && ((x8.2.1.2.2.2.1 == x7.2.1.2.2.2.1) && ((x8.2.1.2.2.2.2.1 == x7.2.1.2.2.2.2.1) && ((x8.2.1.2.2.2.2.2.1 == x7.2.1.2.2.2.2.2.1) && ((x8.2.1.2.2.2.2.2.2.1 == x7.2.1.2.2.2.2.2.2.1) && ((x8.2.1.2.2.2.2.2.2.2.1 == x7.2.1.2.2.2.2.2.2.2.1) && true)))))))))
  bif x9 then (
  some ((), ((false, ()), ())))
  else (
  (g_hnum_Num ((), ((x6.2.2.1.1, ()), ()))).bind fun x10 =>
  let x11 : Bool := (x10.2.1.1 != x7.2.2.1.1)
  bif x11 then (
  some ((), ((false, ()), ())))
  else (
  (g_iso_Valid ((), ((d.2.1.1, ()), ()))).bind fun x12 =>
  let x13 : Bool := (x7.2.2.1.1 == (0 : Int))
  let x14 : Bool := (!(x12.2.1.1 == x13))
  bif x14 then (
  some ((), ((false, ()), ())))
  else (
  (g_law10_Made ((), ((d.2.2.1.1, (d.2.2.1.2.1, (d.2.2.1.2.2.1, ()))), ()))).bind fun x15 =>
  let x16 : Bool := (!x15.2.2.2.1.1)
  bif x16 then (
  (g_ref10_Check ((), ((x15.1.1, (x15.2.2.1.1, (x15.2.2.1.2.1, ()))), ()))).bind fun x17 =>
  let x18 : Bool := (x17.2.1.1 != (0 : Int))
  some ((), ((x18, ()), ())))
  else (
  (g_iso_ParseBy ((), ((x15.2.1.1, ()), ((d.2.1.1, ()), ())))).bind fun x19 =>
  let x20 : Bool := (x7.2.2.1.1 == (0 : Int))
  bif x20 then (
  (g_ref08_Split ((), ((x7.2.1.1, (x7.2.1.2.1, (x7.2.1.2.2.1, (x7.2.1.2.2.2.1, (x7.2.1.2.2.2.2.1, (x7.2.1.2.2.2.2.2.1, (x7.2.1.2.2.2.2.2.2.1, (x7.2.1.2.2.2.2.2.2.2.1, ())))))))), ()))).bind fun x21 =>
  (g_ref12_Has ((), ((x15.1.1, (x15.2.2.1.1, (x15.2.2.1.2.1, ()))), ((x21.2.1.1, ()), ((x21.2.2.1.1, ()), ()))))).bind fun x22 =>
  let x23 : Bool := (!x22.2.1.1)
  bif x23 then (
  (g_law08_Document ((), ((x19.2.1.1, (x19.2.1.2.1, (x19.2.1.2.2.1, (x19.2.1.2.2.2.1, (x19.2.1.2.2.2.2.1, (x19.2.1.2.2.2.2.2.1, (x19.2.1.2.2.2.2.2.2.1, (x19.2.1.2.2.2.2.2.2.2.1, ())))))))), ()))).bind fun x24 =>
  let x25 : Bool := ((x24.2.1.1 == (0 : Int)) && ((x24.2.1.2.1 == (0 : Int)) && ((x24.2.1.2.2.1 == (0 : Int)) && ((x24.2.1.2.2.2.1 == (0 : Int)) && ((x24.2.1.2.2.2.2.1 == (0 : Int)) && ((x24.2.1.2.2.2.2.2.1 == (0 : Int)) && ((x24.2.1.2.2.2.2.2.2.1 == (0 : Int)) && ((x24.2.1.2.2.2.2.2.2.2.1 == (0 : Int)) && true))))))))
  bif x25 then (
  (g_hnum_Num ((), ((x19.2.2.1.1, ()), ()))).bind fun x26 =>
  let x27 : Bool := (x26.2.1.1 == (12 : Int))
  some ((), ((x27, ()), ())))
  else (
  some ((), ((false, ()), ()))))
  else (
  (g_law08_Document ((), ((x19.2.1.1, (x19.2.1.2.1, (x19.2.1.2.2.1, (x19.2.1.2.2.2.1, (x19.2.1.2.2.2.2.1, (x19.2.1.2.2.2.2.2.1, (x19.2.1.2.2.2.2.2.2.1, (x19.2.1.2.2.2.2.2.2.2.1, ())))))))), ()))).bind fun x28 =>
  let x29 : Bool := ((x28.2.1.1 == x7.2.1.1) && ((x28.2.1.2.1 == x7.2.1.2.1) && ((x28.2.1.2.2.1 == x7.2.1.2.2.1) && ((x28.2.1.2.2.2.1 == x7.2.1.2.2.2.1) && ((x28.2.1.2.2.2.2.1 == x7.2.1.2.2.2.2.1) && ((x28.2.1.2.2.2.2.2.1 == x7.2.1.2.2.2.2.2.1) && ((x28.2.1.2.2.2.2.2.2.1 == x7.2.1.2.2.2.2.2.2.1) && ((x28.2.1.2.2.2.2.2.2.2.1 == x7.2.1.2.2.2.2.2.2.2.1) && true))))))))
  bif x29 then (
  (g_hnum_Num ((), ((x19.2.2.1.1, ()), ()))).bind fun x30 =>
  let x31 : Bool := (x30.2.1.1 == x7.2.2.1.1)
  some ((), ((x31, ()), ())))
  else (
  some ((), ((false, ()), ())))))
  else (
  (g_law08_Document ((), ((x19.2.1.1, (x19.2.1.2.1, (x19.2.1.2.2.1, (x19.2.1.2.2.2.1, (x19.2.1.2.2.2.2.1, (x19.2.1.2.2.2.2.2.1, (x19.2.1.2.2.2.2.2.2.1, (x19.2.1.2.2.2.2.2.2.2.1, ())))))))), ()))).bind fun x32 =>
  let x33 : Bool := ((x32.2.1.1 == x7.2.1.1) && ((x32.2.1.2.1 == x7.2.1.2.1) && ((x32.2.1.2.2.1 == x7.2.1.2.2.1) && ((x32.2.1.2.2.2.1 == x7.2.1.2.2.2.1) && ((x32.2.1.2.2.2.2.1 == x7.2.1.2.2.2.2.1) && ((x32.2.1.2.2.2.2.2.1 == x7.2.1.2.2.2.2.2.1) && ((x32.2.1.2.2.2.2.2.2.1 == x7.2.1.2.2.2.2.2.2.1) && ((x32.2.1.2.2.2.2.2.2.2.1 == x7.2.1.2.2.2.2.2.2.2.1) && true))))))))
  bif x33 then (
  (g_hnum_Num ((), ((x19.2.2.1.1, ()), ()))).bind fun x34 =>
  let x35 : Bool := (x34.2.1.1 == x7.2.2.1.1)
  some ((), ((x35, ()), ())))
  else (
  some ((), ((false, ()), ())))))))))))
def c_law24_IsoParses : List Nat := []
def L_law24_IsoParses (_ : Nat) : Pts po_law24_IsoParses.den := []
def E_law24_IsoParses : Env := ((((((((((((E0.add 5 (typedSem pi_law24_alive po_law24_alive g_law24_alive)).add 9 (typedSem pi_hnum_Num po_hnum_Num g_hnum_Num)).add 15 (typedSem pi_law10_Long po_law10_Long g_law10_Long)).add 16 (typedSem pi_iso_Parse po_iso_Parse g_iso_Parse)).add 17 (typedSem pi_ref24_Parse po_ref24_Parse g_ref24_Parse)).add 18 (typedSem pi_law08_Document po_law08_Document g_law08_Document)).add 19 (typedSem pi_iso_Valid po_iso_Valid g_iso_Valid)).add 20 (typedSem pi_law10_Made po_law10_Made g_law10_Made)).add 21 (typedSem pi_ref10_Check po_ref10_Check g_ref10_Check)).add 22 (typedSem pi_iso_ParseBy po_iso_ParseBy g_iso_ParseBy)).add 23 (typedSem pi_ref08_Split po_ref08_Split g_ref08_Split)).add 24 (typedSem pi_ref12_Has po_ref12_Has g_ref12_Has))
theorem q_law24_IsoParses_m (k : Nat) (d : Unit × ((ByteArray × Unit) × (((List (Int × Int)) × (Int × (Int × Unit))) × Unit))) : evCode E_law24_IsoParses (tab (L_law24_IsoParses k)) c_law24_IsoParses (bodyOf Tryz.f4) 0 (finK E_law24_IsoParses po_law24_IsoParses [.tmp 4]) (startSt pi_law24_IsoParses 92 d) = f_law24_IsoParses_m () d := by kernel_rfl
def g_law24_IsoParses (d : Unit × ((ByteArray × Unit) × (((List (Int × Int)) × (Int × (Int × Unit))) × Unit))) : Option (Unit × ((Bool × Unit) × Unit)) := f_law24_IsoParses_m () d
theorem ok_law24_IsoParses : FnOk Tryz.prog ET0 4 pi_law24_IsoParses po_law24_IsoParses g_law24_IsoParses :=
  fn_of_body (E := E_law24_IsoParses) (envOk_add (envOk_add (envOk_add (envOk_add (envOk_add (envOk_add (envOk_add (envOk_add (envOk_add (envOk_add (envOk_add (envOk_add e0_ok (typed_ok ok_law24_alive)) (typed_ok ok_hnum_Num)) (typed_ok ok_law10_Long)) (typed_ok ok_iso_Parse)) (typed_ok ok_ref24_Parse)) (typed_ok ok_law08_Document)) (typed_ok ok_iso_Valid)) (typed_ok ok_law10_Made)) (typed_ok ok_ref10_Check)) (typed_ok ok_iso_ParseBy)) (typed_ok ok_ref08_Split)) (typed_ok ok_ref12_Has)) (fn := Tryz.f4) Tryz.func4 (by kernel_rfl) (by kernel_rfl) [.tmp 4] (by kernel_rfl) (by kernel_rfl) (by decide) rfl c_law24_IsoParses L_law24_IsoParses
    (by intro x hx; cases hx) (by intro k x hx; cases hx) (fun d out h => ⟨0, (q_law24_IsoParses_m 0 d).trans h⟩)
end
end Go.Proofs.YtignndakgibpaaaGreat.Ev
