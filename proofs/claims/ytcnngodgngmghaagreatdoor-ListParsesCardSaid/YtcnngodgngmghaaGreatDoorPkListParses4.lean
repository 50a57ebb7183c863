/- Own texts, put together: see the row's text for what is proved. -/
import Derived.Test.YtcnngodgngmghaaGreatDoorPkListParses3
set_option maxRecDepth 100000
set_option maxHeartbeats 2000000
set_option linter.unusedVariables false
namespace Go.Proofs.YtcnngodgngmghaaGreatDoor.Ev
open Go
noncomputable section
abbrev Zm : PSh := ⟨[], [kI, kI]⟩
abbrev X7 : PSh := ⟨[], [kI]⟩
def Aez (T : Unit) (d : Y4) : Option (Unit × ((Int × Unit) × Unit)) :=
 let x1 := ([(31 : Int), (28 : Int), (31 : Int), (30 : Int), (31 : Int), (30 : Int), (31 : Int), (31 : Int), (30 : Int), (31 : Int), (30 : Int), (31 : Int)] : List Int)
 let x2 := (d.2.2.1.1 == (2 : Int))
 bif x2 then (
 (N9 ((), (d.2.1, ()))).bind fun x3 =>
 bif x3.2.1.1 then (
 some ((), ((29, ()), ())))
 else (
 let x4 := (Eh .i64 d.2.2.1.1 1)
 bif decide ((0 : Int) <= x4) && decide (x4 < (x1.length : Int)) then (
 some ((), (((gd (.int .i64) x1 x4), ()), ())))
 else none))
 else (
 let x5 := (Eh .i64 d.2.2.1.1 1)
 bif decide ((0 : Int) <= x5) && decide (x5 < (x1.length : Int)) then (
 some ((), (((gd (.int .i64) x1 x5), ()), ())))
 else none)
def Jl := Aez ()
theorem Aip : Dv Tryz.prog ET0 78 Zm X7 Jl :=
 fn0 (E := (E0.add 102 Aqp)) (pi := Zm) (po := X7) (Ab A7 (Ae Amk)) (fn := Tryz.f78) Tryz.func78 (by kernel_rfl) (by kernel_rfl) [.tmp 4] (by kernel_rfl) rfl rfl rfl [] fun d => by kernel_rfl
def Al6 := Ak Zm X7 Jl
abbrev Akv : PSh := ⟨[], [kI, kI, kI]⟩
abbrev Ajl : PSh := ⟨[], [kI]⟩
abbrev Aqu : Type := Unit × ((Int × Unit) × ((Int × Unit) × ((Int × Unit) × ((Int × Unit) × Unit))))
abbrev Akq : Type := (((Aqu) -> Option (Unit × ((Int × Unit) × Unit))) × Unit)
abbrev A0u : PSh := ⟨[], [kI, kI, .any, .any, .any, .any, .any, kI, kI] ++ M3 16⟩
def Un (T : Akq) (d : Aqu) : Option (Unit × ((Int × Unit) × Unit)) :=
 let x4 := (decide (d.2.2.2.2.1.1 < d.2.2.1.1))
 bif x4 then (
 (Jl ((), (d.2.1, d.2.2.2.2))).bind fun x5 =>
 let x6 := (A4 .i64 d.2.2.2.1.1 x5.2.1.1)
 let x7 := (A4 .i64 d.2.2.2.2.1.1 1)
 (T.1 ((), (d.2.1, (d.2.2.1, ((x6, ()), ((x7, ()), ())))))))
 else (
 some ((), (d.2.2.2.1, ())))
def Lf : Nat -> Akq
 | 0 => (fun _ => none, ())
 | k + 1 => (Un (Lf k), ())
theorem Ayh (k : Nat) : Lf (k + 1) = (Un (Lf k), ()) := rfl
def Aeq (T : Akq) (d : Y6) : Option (Unit × ((Int × Unit) × Unit)) :=
 (Lu ((), (d.2.1, ()))).bind fun x1 =>
 let x2 := (A4 .i64 x1.2.1.1 d.2.2.2.1.1)
 let x3 := (Eh .i64 x2 1)
 (T.1 ((), (d.2.1, (d.2.2.1, ((x3, ()), ((1, ()), ()))))))
def Uv (d) := lim fun k => Aeq (Lf k) d
theorem Atj : Dv Tryz.prog ET0 46 Akv Ajl Uv :=
 fnL (E := ((E0.add 42 Aci).add 78 Al6)) (pi := Akv) (po := Ajl) (Ab (Ab A7 (Ae Zw)) (Ae Aip)) (fn := Tryz.f46) Tryz.func46 (by kernel_rfl) (by kernel_rfl) [.tmp 6] (by kernel_rfl) rfl rfl rfl [] (fun k => [(4, ⟨A0u, (Lf k).1⟩)]) (fun _ => [])
 (.intro (fun _ => rfl) trivial) (fun k => (.intro (fun d => by kernel_rfl) trivial)) trivial (fun k => trivial) (fun k d => Aeq (Lf k) d) (fun k d => by kernel_rfl)
def Ay2 := Ak Akv Ajl Uv
abbrev Yp : PSh := ⟨[], [kS]⟩
abbrev Zg : PSh := R3
abbrev Acl : Type := T8
abbrev Aej : Type := ((List ByteArray) × Unit) × ((ByteArray × Unit) × (Unit × ((ByteArray × Unit) × ((Int × Unit) × Unit))))
abbrev Yl : Type := (((Aej) -> Option (Acl)) × Unit)
abbrev Ars : PSh := ⟨[.row 9 .str], [kS, .any, .any, .mk false [.osl 0], kS, kI] ++ M3 38⟩
def Ho (T : Yl) (d : Aej) : Option (Acl) :=
 let x2 := (d.2.1.1.size : Int)
 let x3 := (decide (d.2.2.2.2.1.1 <= x2))
 bif x3 then (
 let x4 := (d.2.1.1.size : Int)
 let x5 := (decide (d.2.2.2.2.1.1 < x4))
 bif x5 then (
 bif decide ((0 : Int) <= d.2.2.2.2.1.1) && decide (d.2.2.2.2.1.1 < ((d.2.1.1.size : Int) : Int)) then (
 let x6 := (bt d.2.1.1 d.2.2.2.2.1.1)
 let x7 := (x6 != (32 : Int))
 bif x7 then (
 bif decide ((0 : Int) <= d.2.2.2.2.1.1) && decide (d.2.2.2.2.1.1 < ((d.2.1.1.size : Int) : Int)) then (
 let x8 := (bt d.2.1.1 d.2.2.2.2.1.1)
 let x9 := (x8 != (9 : Int))
 bif x9 then (
 let x10 := (A4 .i64 d.2.2.2.2.1.1 1)
 bif decide ((0 : Int) <= d.2.2.2.2.1.1) && decide (d.2.2.2.2.1.1 <= x10) && decide (x10 <= (d.2.1.1.size : Int)) then (
 let x11 := (d.2.1.1.extract (Int.toNat d.2.2.2.2.1.1) (Int.toNat x10))
 bif Agn d.2.2.2.1.1 x11 then (
 let x12 := (d.2.2.2.1.1 ++ x11)
 let x13 := (A4 .i64 d.2.2.2.2.1.1 1)
 (T.1 (d.1, (d.2.1, ((), ((x12, ()), ((x13, ()), ())))))))
 else none)
 else none)
 else (
 let x14 := (d.2.2.2.1.1.size : Int)
 let x15 := (decide (x14 > (0 : Int)))
 bif x15 then (
 let x16 := ([d.2.2.2.1.1] : List ByteArray)
 bif decide (((d.1.1.length + x16.length) * 16 : Nat) <= 140737488355328) && decide (d.1.1.length + x16.length <= 9223372036854775807) then (
 let x17 := (d.1.1 ++ x16)
 let x18 := (A4 .i64 d.2.2.2.2.1.1 1)
 (T.1 ((x17, ()), (d.2.1, ((), (((⟨#[]⟩ : ByteArray), ()), ((x18, ()), ())))))))
 else none)
 else (
 let x19 := (A4 .i64 d.2.2.2.2.1.1 1)
 (T.1 (d.1, (d.2.1, ((), (((⟨#[]⟩ : ByteArray), ()), ((x19, ()), ())))))))))
 else none)
 else (
 let x20 := (d.2.2.2.1.1.size : Int)
 let x21 := (decide (x20 > (0 : Int)))
 bif x21 then (
 let x22 := ([d.2.2.2.1.1] : List ByteArray)
 bif decide (((d.1.1.length + x22.length) * 16 : Nat) <= 140737488355328) && decide (d.1.1.length + x22.length <= 9223372036854775807) then (
 let x23 := (d.1.1 ++ x22)
 let x24 := (A4 .i64 d.2.2.2.2.1.1 1)
 (T.1 ((x23, ()), (d.2.1, ((), (((⟨#[]⟩ : ByteArray), ()), ((x24, ()), ())))))))
 else none)
 else (
 let x25 := (A4 .i64 d.2.2.2.2.1.1 1)
 (T.1 (d.1, (d.2.1, ((), (((⟨#[]⟩ : ByteArray), ()), ((x25, ()), ())))))))))
 else none)
 else (
 let x26 := (d.2.2.2.1.1.size : Int)
 let x27 := (decide (x26 > (0 : Int)))
 bif x27 then (
 let x28 := ([d.2.2.2.1.1] : List ByteArray)
 bif decide (((d.1.1.length + x28.length) * 16 : Nat) <= 140737488355328) && decide (d.1.1.length + x28.length <= 9223372036854775807) then (
 let x29 := (d.1.1 ++ x28)
 let x30 := (A4 .i64 d.2.2.2.2.1.1 1)
 (T.1 ((x29, ()), (d.2.1, ((), (((⟨#[]⟩ : ByteArray), ()), ((x30, ()), ())))))))
 else none)
 else (
 let x31 := (A4 .i64 d.2.2.2.2.1.1 1)
 (T.1 (d.1, (d.2.1, ((), (((⟨#[]⟩ : ByteArray), ()), ((x31, ()), ())))))))))
 else (
 some (d.1, ((), ())))
def Gm : Nat -> Yl
 | 0 => (fun _ => none, ())
 | k + 1 => (Ho (Gm k), ())
theorem Up (k : Nat) : Gm (k + 1) = (Ho (Gm k), ()) := rfl
def Wq (T : Yl) (d : Y16) : Option (Acl) :=
 let x1 := ([] : List ByteArray)
 (T.1 ((x1, ()), (d.2.1, ((), (((⟨#[]⟩ : ByteArray), ()), ((0, ()), ()))))))
def F6 (d) := lim fun k => Wq (Gm k) d
theorem Ym : Dv Tryz.prog ET0 63 Yp Zg F6 :=
 fnL (E := E0) (pi := Yp) (po := Zg) A7 (fn := Tryz.f63) Tryz.func63 (by kernel_rfl) (by kernel_rfl) [.tmp 2] (by kernel_rfl) rfl rfl rfl [] (fun k => [(5, ⟨Ars, (Gm k).1⟩)]) (fun _ => [])
 (.intro (fun _ => rfl) trivial) (fun k => (.intro (fun d => by kernel_rfl) trivial)) trivial (fun k => trivial) (fun k d => Wq (Gm k) d) (fun k d => by kernel_rfl)
def Ab2 := Ak Yp Zg F6
abbrev Aev : PSh := ⟨[], [kS]⟩
abbrev Afn : PSh := ⟨[], [kB]⟩
def Am1 (T : Unit) (d : Y16) : Option (Unit × ((Bool × Unit) × Unit)) :=
 let x1 := (d.2.1.1.size : Int)
 let x2 := (decide (x1 > (0 : Int)))
 bif x2 then (
 bif decide ((0 : Int) <= (0 : Int)) && decide ((0 : Int) < ((d.2.1.1.size : Int) : Int)) then (
 let x3 := (bt d.2.1.1 (0 : Int))
 let x4 := (x3 == (32 : Int))
 bif x4 then (
 some ((), ((true, ()), ())))
 else (
 bif decide ((0 : Int) <= (0 : Int)) && decide ((0 : Int) < ((d.2.1.1.size : Int) : Int)) then (
 let x5 := (bt d.2.1.1 (0 : Int))
 let x6 := (x5 == (9 : Int))
 some ((), ((x6, ()), ())))
 else none))
 else none)
 else (
 some ((), ((false, ()), ())))
def N4 := Am1 ()
theorem Ag2 : Dv Tryz.prog ET0 65 Aev Afn N4 :=
 fn0 (E := E0) (pi := Aev) (po := Afn) A7 (fn := Tryz.f65) Tryz.func65 (by kernel_rfl) (by kernel_rfl) [.tmp 2] (by kernel_rfl) rfl rfl rfl [] fun d => by kernel_rfl
def Aj6 := Ak Aev Afn N4
abbrev Akf : PSh := ⟨[], [k8]⟩
abbrev Ajn : PSh := ⟨[], [kB]⟩
abbrev Aqw : Type := Y4
abbrev Akg : Type := (((Aqw) -> Option (Unit × ((Bool × Unit) × Unit))) × Unit)
abbrev Azz : PSh := ⟨[], [k8, .any, .any, k8] ++ M3 7⟩
def O6 (T : Akg) (d : Aqw) : Option (Unit × ((Bool × Unit) × Unit)) :=
 let x1 := (decide (d.2.2.1.1 <= (57 : Int)))
 bif x1 then (
 let x2 := (d.2.1.1 == d.2.2.1.1)
 bif x2 then (
 some ((), ((true, ()), ())))
 else (
 let x3 := (A4 .u8 d.2.2.1.1 1)
 (T.1 ((), (d.2.1, ((x3, ()), ()))))))
 else (
 some ((), ((false, ()), ())))
def K5 : Nat -> Akg
 | 0 => (fun _ => none, ())
 | k + 1 => (O6 (K5 k), ())
theorem Aom (k : Nat) : K5 (k + 1) = (O6 (K5 k), ()) := rfl
def Ag9 (T : Akg) (d : Unit × ((Int × Unit) × Unit)) : Option (Unit × ((Bool × Unit) × Unit)) :=
 (T.1 ((), (d.2.1, ((48, ()), ()))))
def Ah8 (d) := lim fun k => Ag9 (K5 k) d
theorem A6x : Dv Tryz.prog ET0 171 Akf Ajn Ah8 :=
 fnL (E := E0) (pi := Akf) (po := Ajn) A7 (fn := Tryz.f171) Tryz.func171 (by kernel_rfl) (by kernel_rfl) [.tmp 2] (by kernel_rfl) rfl rfl rfl [] (fun k => [(3, ⟨Azz, (K5 k).1⟩)]) (fun _ => [])
 (.intro (fun _ => rfl) trivial) (fun k => (.intro (fun d => by kernel_rfl) trivial)) trivial (fun k => trivial) (fun k d => Ag9 (K5 k) d) (fun k d => by kernel_rfl)
def Bca := Ak Akf Ajn Ah8
abbrev Acs : PSh := ⟨[], [kS]⟩
abbrev Ab9 : PSh := ⟨[], [kI]⟩
abbrev Ai8 : Type := Y19
abbrev Abj : Type := (((Ai8) -> Option (Unit × ((Int × Unit) × Unit))) × Unit)
abbrev Aue : PSh := ⟨[], [kS, .any, .any, kI] ++ M3 14⟩
def K3 (T : Abj) (d : Ai8) : Option (Unit × ((Int × Unit) × Unit)) :=
 let x1 := (d.2.1.1.size : Int)
 let x2 := (decide (d.2.2.1.1 < x1))
 bif x2 then (
 bif decide ((0 : Int) <= d.2.2.1.1) && decide (d.2.2.1.1 < ((d.2.1.1.size : Int) : Int)) then (
 let x3 := (bt d.2.1.1 d.2.2.1.1)
 (Ah8 ((), ((x3, ()), ()))).bind fun x4 =>
 let x5 := (!x4.2.1.1)
 bif x5 then (
 some ((), d.2.2))
 else (
 let x6 := (A4 .i64 d.2.2.1.1 1)
 (T.1 ((), (d.2.1, ((x6, ()), ()))))))
 else none)
 else (
 let x7 := (d.2.1.1.size : Int)
 some ((), ((x7, ()), ())))
def Ii : Nat -> Abj
 | 0 => (fun _ => none, ())
 | k + 1 => (K3 (Ii k), ())
theorem Ag3 (k : Nat) : Ii (k + 1) = (K3 (Ii k), ()) := rfl
def Yv (T : Abj) (d : Y16) : Option (Unit × ((Int × Unit) × Unit)) :=
 (T.1 ((), (d.2.1, ((0, ()), ()))))
def W4 (d) := lim fun k => Yv (Ii k) d
theorem A1u : Dv Tryz.prog ET0 153 Acs Ab9 W4 :=
 fnL (E := (E0.add 171 Bca)) (pi := Acs) (po := Ab9) (Ab A7 (Ae A6x)) (fn := Tryz.f153) Tryz.func153 (by kernel_rfl) (by kernel_rfl) [.tmp 2] (by kernel_rfl) rfl rfl rfl [] (fun k => [(3, ⟨Aue, (Ii k).1⟩)]) (fun _ => [])
 (.intro (fun _ => rfl) trivial) (fun k => (.intro (fun d => by kernel_rfl) trivial)) trivial (fun k => trivial) (fun k d => Yv (Ii k) d) (fun k d => by kernel_rfl)
def A20 := Ak Acs Ab9 W4
abbrev Ale : PSh := ⟨[], [kI]⟩
abbrev Ak3 : PSh := ⟨[.row 104 (.int .u64)], [.mk true [vB, .osl 0]]⟩
abbrev Apv : Type := ((List Int) × Unit) × ((Bool × Unit) × Unit)
abbrev Ap8 : Type := ((Bool × Unit) × ((List Int) × ((List Int) × Unit))) × ((Int × Unit) × (Unit × (Unit × ((Bool × Unit) × Unit))))
abbrev Aj5 : Type := (((Ap8) -> Option (Apv)) × Unit)
abbrev A01 : PSh := ⟨[.var 204 [vB, .osl 1], .row 104 (.int .u64), .row 104 (.int .u64)], [kI, .any, .mk false [.ref 0 0], .mk false [.osl 2], kB] ++ M3 21⟩
def Px (T : Aj5) (d : Ap8) : Option (Apv) :=
 let x2 := (d.2.1.1 != (0 : Int))
 bif x2 then (
 let x3 := (Int.tmod d.2.1.1 (65536 : Int))
 let x4 := (decide (x3 < (0 : Int)))
 bif x4 then (
 let x5 := (Eh .i64 (0 : Int) x3)
 let x6 := (Da .u64 x5)
 let x7 := ([x6] : List Int)
 bif decide (((d.1.2.2.1.length + x7.length) * 8 : Nat) <= 140737488355328) && decide (d.1.2.2.1.length + x7.length <= 9223372036854775807) then (
 let x8 := (d.1.2.2.1 ++ x7)
 let x9 := (Kc .i64 d.2.1.1 (65536 : Int))
 (T.1 ((d.1.1, (d.1.2.1, (x8, ()))), ((x9, ()), ((), ((), d.2.2.2.2))))))
 else none)
 else (
 let x10 := (Da .u64 x3)
 let x11 := ([x10] : List Int)
 bif decide (((d.1.2.2.1.length + x11.length) * 8 : Nat) <= 140737488355328) && decide (d.1.2.2.1.length + x11.length <= 9223372036854775807) then (
 let x12 := (d.1.2.2.1 ++ x11)
 let x13 := (Kc .i64 d.2.1.1 (65536 : Int))
 (T.1 ((d.1.1, (d.1.2.1, (x12, ()))), ((x13, ()), ((), ((), d.2.2.2.2))))))
 else none))
 else (
 some (d.1.2.2, d.2.2.2.2))
def Li : Nat -> Aj5
 | 0 => (fun _ => none, ())
 | k + 1 => (Px (Li k), ())
theorem Apm (k : Nat) : Li (k + 1) = (Px (Li k), ()) := rfl
def Ago (T : Aj5) (d : Unit × ((Int × Unit) × Unit)) : Option (Apv) :=
 let x1 := (decide (d.2.1.1 < (0 : Int)))
 (T.1 (((false, ()), (([] : List Int), (([] : List Int), ()))), (d.2.1, ((), ((), ((x1, ()), ()))))))
def N7 (d) := lim fun k => Ago (Li k) d
theorem Auh : Dv Tryz.prog ET0 172 Ale Ak3 N7 :=
 fnL (E := E0) (pi := Ale) (po := Ak3) A7 (fn := Tryz.f172) Tryz.func172 (by kernel_rfl) (by kernel_rfl) [.cell 2 204] (by kernel_rfl) rfl rfl rfl [] (fun k => [(4, ⟨A01, (Li k).1⟩)]) (fun _ => [])
 (.intro (fun _ => rfl) trivial) (fun k => (.intro (fun d => by kernel_rfl) trivial)) trivial (fun k => trivial) (fun k d => Ago (Li k) d) (fun k d => by kernel_rfl)
def Axn := Ak Ale Ak3 N7
abbrev Yq : PSh := ⟨[], [.mk false [.v (.sl (.int .u64))], kI]⟩
abbrev R7 : PSh := ⟨[], [.mk false [.v (.int .u64)]]⟩
def Afi (T : Unit) (d : Y10) : Option (Unit × ((Int × Unit) × Unit)) :=
 let x1 := (d.2.1.1.length : Int)
 let x2 := (decide (d.2.2.1.1 < x1))
 bif x2 then (
 bif decide ((0 : Int) <= d.2.2.1.1) && decide (d.2.2.1.1 < (d.2.1.1.length : Int)) then (
 some ((), (((gd (.int .u64) d.2.1.1 d.2.2.1.1), ()), ())))
 else none)
 else (
 some ((), ((0, ()), ())))
def B6 := Afi ()
theorem Rz : Dv Tryz.prog ET0 197 Yq R7 B6 :=
 fn0 (E := E0) (pi := Yq) (po := R7) A7 (fn := Tryz.f197) Tryz.func197 (by kernel_rfl) (by kernel_rfl) [.tmp 4] (by kernel_rfl) rfl rfl rfl [] fun d => by kernel_rfl
def Uf := Ak Yq R7 B6
abbrev L3 : PSh := ⟨[], [.mk false [.v (.sl (.int .u64))], .mk false [.v (.sl (.int .u64))]]⟩
abbrev Aba : PSh := ⟨[], [kB]⟩
abbrev Aiw : Type := Unit × (((List Int) × Unit) × (((List Int) × Unit) × ((Int × Unit) × Unit)))
abbrev Adh : Type := (((Aiw) -> Option (Unit × ((Bool × Unit) × Unit))) × Unit)
abbrev At4 : PSh := ⟨[], [.mk false [.v (.sl (.int .u64))], .mk false [.v (.sl (.int .u64))], .any, .any, .any, kI] ++ M3 24⟩
def Lb (T : Adh) (d : Aiw) : Option (Unit × ((Bool × Unit) × Unit)) :=
 let x5 := (decide (d.2.2.2.1.1 >= (0 : Int)))
 bif x5 then (
 (B6 ((), (d.2.1, d.2.2.2))).bind fun x6 =>
 (B6 ((), d.2.2)).bind fun x7 =>
 let x8 := (x6.2.1.1 != x7.2.1.1)
 bif x8 then (
 (B6 ((), (d.2.1, d.2.2.2))).bind fun x9 =>
 (B6 ((), d.2.2)).bind fun x10 =>
 let x11 := (decide (x9.2.1.1 < x10.2.1.1))
 some ((), ((x11, ()), ())))
 else (
 let x12 := (Eh .i64 d.2.2.2.1.1 1)
 (T.1 ((), (d.2.1, (d.2.2.1, ((x12, ()), ())))))))
 else (
 some ((), ((false, ()), ())))
def Ib : Nat -> Adh
 | 0 => (fun _ => none, ())
 | k + 1 => (Lb (Ib k), ())
theorem Afb (k : Nat) : Ib (k + 1) = (Lb (Ib k), ()) := rfl
def Zp (T : Adh) (d : Y8) : Option (Unit × ((Bool × Unit) × Unit)) :=
 let x1 := (d.2.1.1.length : Int)
 let x2 := (d.2.2.1.1.length : Int)
 let x3 := (if x2 > x1 then x2 else x1)
 let x4 := (Eh .i64 x3 1)
 (T.1 ((), (d.2.1, (d.2.2.1, ((x4, ()), ())))))
def N6 (d) := lim fun k => Zp (Ib k) d
theorem Ans : Dv Tryz.prog ET0 188 L3 Aba N6 :=
 fnL (E := (E0.add 197 Uf)) (pi := L3) (po := Aba) (Ab A7 (Ae Rz)) (fn := Tryz.f188) Tryz.func188 (by kernel_rfl) (by kernel_rfl) [.tmp 4] (by kernel_rfl) rfl rfl rfl [] (fun k => [(3, ⟨At4, (Ib k).1⟩)]) (fun _ => [])
 (.intro (fun _ => rfl) trivial) (fun k => (.intro (fun d => by kernel_rfl) trivial)) trivial (fun k => trivial) (fun k d => Zp (Ib k) d) (fun k d => by kernel_rfl)
def Aqe := Ak L3 Aba N6
abbrev P3 : PSh := ⟨[], [.mk true [vB, .v (.sl (.int .u64))], .mk true [vB, .v (.sl (.int .u64))]]⟩
abbrev Acp : PSh := ⟨[], [kB]⟩
def Ai3 (T : Unit) (d : Y28) : Option (Unit × ((Bool × Unit) × Unit)) :=
 let x1 := (!(d.2.1.1 == d.2.2.1.1))
 bif x1 then (
 some ((), ((d.2.1.1, ()), ())))
 else (
 bif d.2.1.1 then (
 (N6 ((), (d.2.2.1.2, (d.2.1.2, ())))).bind fun x2 =>
 some ((), x2.2))
 else (
 (N6 ((), (d.2.1.2, (d.2.2.1.2, ())))).bind fun x3 =>
 some ((), x3.2)))
def Oh := Ai3 ()
theorem Az6 : Dv Tryz.prog ET0 173 P3 Acp Oh :=
 fn0 (E := (E0.add 188 Aqe)) (pi := P3) (po := Acp) (Ab A7 (Ae Ans)) (fn := Tryz.f173) Tryz.func173 (by kernel_rfl) (by kernel_rfl) [.tmp 4] (by kernel_rfl) rfl rfl rfl [] fun d => by kernel_rfl
def A5a := Ak P3 Acp Oh
abbrev Kf : PSh := ⟨[], [.mk true [vB, .v (.sl (.int .u64))]]⟩
abbrev Ye : PSh := ⟨[], [kI, kI]⟩
abbrev Abw : Type := Y4
abbrev Agf : Type := ((Bool × ((List Int) × Unit)) × Unit) × (Unit × ((Int × Unit) × ((Int × Unit) × Unit)))
abbrev Zh : Type := (((Agf) -> Option (Abw)) × Unit)
abbrev Aq6 : PSh := ⟨[.var 204 [vB, .v (.sl (.int .u64))]], [.any, .mk false [.ref 0 0], .any, .any, .any, .any, kI, kI] ++ M3 39⟩
def Kb (T : Zh) (d : Agf) : Option (Abw) :=
 let x7 := (decide (d.2.2.2.1.1 >= (0 : Int)))
 bif x7 then (
 let x8 := (Qi .i64 d.2.2.1.1 65536)
 bif d.1.1.1 then (
 bif decide ((0 : Int) <= d.2.2.2.1.1) && decide (d.2.2.2.1.1 < (d.1.1.2.1.length : Int)) then (
 let x9 := (Da .i64 (gd (.int .u64) d.1.1.2.1 d.2.2.2.1.1))
 let x10 := (Eh .i64 x8 x9)
 let x11 := (Eh .i64 d.2.2.2.1.1 1)
 (T.1 (d.1, ((), ((x10, ()), ((x11, ()), ()))))))
 else none)
 else (
 bif decide ((0 : Int) <= d.2.2.2.1.1) && decide (d.2.2.2.1.1 < (d.1.1.2.1.length : Int)) then (
 let x12 := (Da .i64 (gd (.int .u64) d.1.1.2.1 d.2.2.2.1.1))
 let x13 := (A4 .i64 x8 x12)
 let x14 := (Eh .i64 d.2.2.2.1.1 1)
 (T.1 (d.1, ((), ((x13, ()), ((x14, ()), ()))))))
 else none))
 else (
 some ((), (d.2.2.1, ((0, ()), ()))))
def Ge : Nat -> Zh
 | 0 => (fun _ => none, ())
 | k + 1 => (Kb (Ge k), ())
theorem Aa8 (k : Nat) : Ge (k + 1) = (Kb (Ge k), ()) := rfl
def Or (T : Zh) (d : Y29) : Option (Abw) :=
 (N7 ((), (((-9223372036854775808 : Int), ()), ()))).bind fun x1 =>
 (N7 ((), ((9223372036854775807, ()), ()))).bind fun x2 =>
 (Oh ((), (d.2.1, ((x1.2.1.1, x1.1), ())))).bind fun x3 =>
 bif x3.2.1.1 then (
 some ((), ((0, ()), ((5, ()), ()))))
 else (
 (Oh ((), ((x2.2.1.1, x2.1), d.2))).bind fun x4 =>
 bif x4.2.1.1 then (
 some ((), ((0, ()), ((5, ()), ()))))
 else (
 let x5 := (d.2.1.2.1.length : Int)
 let x6 := (Eh .i64 x5 1)
 (T.1 (d.2, ((), ((0, ()), ((x6, ()), ())))))))
def Lp (d) := lim fun k => Or (Ge k) d
theorem Awk : Dv Tryz.prog ET0 154 Kf Ye Lp :=
 fnL (E := ((E0.add 172 Axn).add 173 A5a)) (pi := Kf) (po := Ye) (Ab (Ab A7 (Ae Auh)) (Ae Az6)) (fn := Tryz.f154) Tryz.func154 (by kernel_rfl) (by kernel_rfl) [.tmp 2, .tmp 3] (by kernel_rfl) rfl rfl rfl [] (fun k => [(8, ⟨Aq6, (Ge k).1⟩)]) (fun _ => [])
 (.intro (fun _ => rfl) trivial) (fun k => (.intro (fun d => by kernel_rfl) trivial)) trivial (fun k => trivial) (fun k d => Or (Ge k) d) (fun k d => by kernel_rfl)
def A08 := Ak Kf Ye Lp
abbrev Ab4 : PSh := L3
abbrev Adl : PSh := ⟨[.row 104 (.int .u64)], [.mk false [.osl 0]]⟩
abbrev Ags : Type := Y3
abbrev Ze : Type := ((List Int) × Unit) × (((List Int) × Unit) × (((List Int) × Unit) × (Unit × ((Int × Unit) × ((Int × Unit) × Unit)))))
abbrev Ace : Type := (((Ze) -> Option (Ags)) × Unit)
abbrev Auw : PSh := ⟨[.row 104 (.int .u64)], [.mk false [.v (.sl (.int .u64))], .mk false [.v (.sl (.int .u64))], .any, .any, .any, .mk false [.osl 0], .mk false [.v (.int .u64)], kI] ++ M3 34⟩
def O4 (T : Ace) (d : Ze) : Option (Ags) :=
 let x1 := (d.2.1.1.length : Int)
 let x2 := (decide (d.2.2.2.2.2.1.1 < x1))
 bif x2 then (
 (B6 ((), (d.2.1, d.2.2.2.2.2))).bind fun x3 =>
 (B6 ((), (d.2.2.1, d.2.2.2.2.2))).bind fun x4 =>
 let x5 := (A4 .u64 x3.2.1.1 x4.2.1.1)
 let x6 := (A4 .u64 x5 d.2.2.2.2.1.1)
 let x7 := (Int.tmod x6 (65536 : Int))
 let x8 := ([x7] : List Int)
 bif decide (((d.1.1.length + x8.length) * 8 : Nat) <= 140737488355328) && decide (d.1.1.length + x8.length <= 9223372036854775807) then (
 let x9 := (d.1.1 ++ x8)
 let x10 := (Kc .u64 x6 (65536 : Int))
 let x11 := (A4 .i64 d.2.2.2.2.2.1.1 1)
 (T.1 ((x9, ()), (d.2.1, (d.2.2.1, ((), ((x10, ()), ((x11, ()), ()))))))))
 else none)
 else (
 let x12 := (d.2.2.1.1.length : Int)
 let x13 := (decide (d.2.2.2.2.2.1.1 < x12))
 bif x13 then (
 (B6 ((), (d.2.1, d.2.2.2.2.2))).bind fun x14 =>
 (B6 ((), (d.2.2.1, d.2.2.2.2.2))).bind fun x15 =>
 let x16 := (A4 .u64 x14.2.1.1 x15.2.1.1)
 let x17 := (A4 .u64 x16 d.2.2.2.2.1.1)
 let x18 := (Int.tmod x17 (65536 : Int))
 let x19 := ([x18] : List Int)
 bif decide (((d.1.1.length + x19.length) * 8 : Nat) <= 140737488355328) && decide (d.1.1.length + x19.length <= 9223372036854775807) then (
 let x20 := (d.1.1 ++ x19)
 let x21 := (Kc .u64 x17 (65536 : Int))
 let x22 := (A4 .i64 d.2.2.2.2.2.1.1 1)
 (T.1 ((x20, ()), (d.2.1, (d.2.2.1, ((), ((x21, ()), ((x22, ()), ()))))))))
 else none)
 else (
 let x23 := (decide (d.2.2.2.2.1.1 > (0 : Int)))
 bif x23 then (
 (B6 ((), (d.2.1, d.2.2.2.2.2))).bind fun x24 =>
 (B6 ((), (d.2.2.1, d.2.2.2.2.2))).bind fun x25 =>
 let x26 := (A4 .u64 x24.2.1.1 x25.2.1.1)
 let x27 := (A4 .u64 x26 d.2.2.2.2.1.1)
 let x28 := (Int.tmod x27 (65536 : Int))
 let x29 := ([x28] : List Int)
 bif decide (((d.1.1.length + x29.length) * 8 : Nat) <= 140737488355328) && decide (d.1.1.length + x29.length <= 9223372036854775807) then (
 let x30 := (d.1.1 ++ x29)
 let x31 := (Kc .u64 x27 (65536 : Int))
 let x32 := (A4 .i64 d.2.2.2.2.2.1.1 1)
 (T.1 ((x30, ()), (d.2.1, (d.2.2.1, ((), ((x31, ()), ((x32, ()), ()))))))))
 else none)
 else (
 some (d.1, ((), ())))))
def Eg : Nat -> Ace
 | 0 => (fun _ => none, ())
 | k + 1 => (O4 (Eg k), ())
theorem Aqs (k : Nat) : Eg (k + 1) = (O4 (Eg k), ()) := rfl
def Yr (T : Ace) (d : Y8) : Option (Ags) :=
 (T.1 ((([] : List Int), ()), (d.2.1, (d.2.2.1, ((), ((0, ()), ((0, ()), ())))))))
def Se (d) := lim fun k => Yr (Eg k) d
theorem Al8 : Dv Tryz.prog ET0 189 Ab4 Adl Se :=
 fnL (E := (E0.add 197 Uf)) (pi := Ab4) (po := Adl) (Ab A7 (Ae Rz)) (fn := Tryz.f189) Tryz.func189 (by kernel_rfl) (by kernel_rfl) [.tmp 4] (by kernel_rfl) rfl rfl rfl [] (fun k => [(5, ⟨Auw, (Eg k).1⟩)]) (fun _ => [])
 (.intro (fun _ => rfl) trivial) (fun k => (.intro (fun d => by kernel_rfl) trivial)) trivial (fun k => trivial) (fun k d => Yr (Eg k) d) (fun k d => by kernel_rfl)
def Apx := Ak Ab4 Adl Se
abbrev Oe : PSh := ⟨[], [.mk false [.v (.sl (.int .u64))]]⟩
abbrev Agv : PSh := Oe
abbrev Alf : Type := Y7
abbrev An1 : Type := Y7
abbrev Ahk : Type := (((An1) -> Option (Alf)) × Unit)
abbrev Axl : PSh := ⟨[], [.mk false [.v (.sl (.int .u64))]] ++ M3 20⟩
def M0 (T : Ahk) (d : An1) : Option (Alf) :=
 let x1 := (d.2.1.1.length : Int)
 let x2 := (decide (x1 > (0 : Int)))
 bif x2 then (
 let x3 := (d.2.1.1.length : Int)
 let x4 := (Eh .i64 x3 1)
 bif decide ((0 : Int) <= x4) && decide (x4 < (d.2.1.1.length : Int)) then (
 let x5 := ((gd (.int .u64) d.2.1.1 x4) == (0 : Int))
 bif x5 then (
 let x6 := (d.2.1.1.length : Int)
 let x7 := (Eh .i64 x6 1)
 bif decide ((0 : Int) <= (0 : Int)) && decide ((0 : Int) <= x7) && decide (x7 <= (d.2.1.1.length : Int)) then (
 let x8 := (List.drop (Int.toNat (0 : Int)) (List.take (Int.toNat x7) d.2.1.1))
 (T.1 ((), ((x8, ()), ()))))
 else none)
 else (
 some ((), d.2)))
 else none)
 else (
 some ((), d.2))
def Jh : Nat -> Ahk
 | 0 => (fun _ => none, ())
 | k + 1 => (M0 (Jh k), ())
theorem Ald (k : Nat) : Jh (k + 1) = (M0 (Jh k), ()) := rfl
def T4 (T : Ahk) (d : Y7) : Option (Alf) :=
 (T.1 ((), d.2))
def Q3 (d) := lim fun k => T4 (Jh k) d
theorem Apz : Dv Tryz.prog ET0 198 Oe Agv Q3 :=
 fnL (E := E0) (pi := Oe) (po := Agv) A7 (fn := Tryz.f198) Tryz.func198 (by kernel_rfl) (by kernel_rfl) [.tmp 2] (by kernel_rfl) rfl rfl rfl [] (fun k => [(2, ⟨Axl, (Jh k).1⟩)]) (fun _ => [])
 (.intro (fun _ => rfl) trivial) (fun k => (.intro (fun d => by kernel_rfl) trivial)) trivial (fun k => trivial) (fun k d => T4 (Jh k) d) (fun k d => by kernel_rfl)
def At0 := Ak Oe Agv Q3
abbrev Yb : PSh := L3
abbrev Yw : PSh := Oe
abbrev Abc : Type := Y7
abbrev Aen : Type := Ze
abbrev Yt : Type := (((Aen) -> Option (Abc)) × Unit)
abbrev Are : PSh := ⟨[.row 104 (.int .u64)], [.mk false [.v (.sl (.int .u64))], .mk false [.v (.sl (.int .u64))], .any, .any, .any, .mk false [.osl 0], .mk false [.v (.int .u64)], kI] ++ M3 27⟩
def Nd (T : Yt) (d : Aen) : Option (Abc) :=
 let x1 := (d.2.1.1.length : Int)
 let x2 := (decide (d.2.2.2.2.2.1.1 < x1))
 bif x2 then (
 (B6 ((), (d.2.1, d.2.2.2.2.2))).bind fun x3 =>
 let x4 := (A4 .u64 (65536 : Int) x3.2.1.1)
 (B6 ((), (d.2.2.1, d.2.2.2.2.2))).bind fun x5 =>
 let x6 := (Eh .u64 x4 x5.2.1.1)
 let x7 := (Eh .u64 x6 d.2.2.2.2.1.1)
 let x8 := (Int.tmod x7 (65536 : Int))
 let x9 := ([x8] : List Int)
 bif decide (((d.1.1.length + x9.length) * 8 : Nat) <= 140737488355328) && decide (d.1.1.length + x9.length <= 9223372036854775807) then (
 let x10 := (d.1.1 ++ x9)
 let x11 := (Kc .u64 x7 (65536 : Int))
 let x12 := (Eh .u64 (1 : Int) x11)
 let x13 := (A4 .i64 d.2.2.2.2.2.1.1 1)
 (T.1 ((x10, ()), (d.2.1, (d.2.2.1, ((), ((x12, ()), ((x13, ()), ()))))))))
 else none)
 else (
 (Q3 ((), (d.1, ()))).bind fun x14 =>
 some ((), x14.2))
def Gb : Nat -> Yt
 | 0 => (fun _ => none, ())
 | k + 1 => (Nd (Gb k), ())
theorem Am2 (k : Nat) : Gb (k + 1) = (Nd (Gb k), ()) := rfl
def U6 (T : Yt) (d : Y8) : Option (Abc) :=
 (T.1 ((([] : List Int), ()), (d.2.1, (d.2.2.1, ((), ((0, ()), ((0, ()), ())))))))
def Pc (d) := lim fun k => U6 (Gb k) d
theorem Aw1 : Dv Tryz.prog ET0 190 Yb Yw Pc :=
 fnL (E := (((E0.add 197 Uf).add 198 At0).fr [(34, [33])])) (pi := Yb) (po := Yw) (Wz (Ab (Ab A7 (Ae Rz)) (Ae Apz))) (fn := Tryz.f190) Tryz.func190 (by kernel_rfl) (by kernel_rfl) [.tmp 4] (by kernel_rfl) rfl rfl rfl [] (fun k => [(5, ⟨Are, (Gb k).1⟩)]) (fun _ => [])
 (.intro (fun _ => rfl) trivial) (fun k => (.intro (fun d => by kernel_rfl) trivial)) trivial (fun k => trivial) (fun k d => U6 (Gb k) d) (fun k d => by kernel_rfl)
def Azo := Ak Yb Yw Pc
abbrev Ac2 : PSh := P3
abbrev Acq : PSh := Kf
def Aiz (T : Unit) (d : Y28) : Option (Y29) :=
 let x1 := (d.2.1.1 == d.2.2.1.1)
 bif x1 then (
 (Se ((), (d.2.1.2, (d.2.2.1.2, ())))).bind fun x2 =>
 some ((), ((d.2.1.1, x2.1), ())))
 else (
 (N6 ((), (d.2.1.2, (d.2.2.1.2, ())))).bind fun x3 =>
 bif x3.2.1.1 then (
 (Pc ((), (d.2.2.1.2, (d.2.1.2, ())))).bind fun x4 =>
 some ((), ((d.2.2.1.1, x4.2.1), ())))
 else (
 (Pc ((), (d.2.1.2, (d.2.2.1.2, ())))).bind fun x5 =>
 bif d.2.1.1 then (
 let x6 := (x5.2.1.1.length : Int)
 let x7 := (decide (x6 > (0 : Int)))
 some ((), ((x7, x5.2.1), ())))
 else (
 some ((), ((false, x5.2.1), ())))))
def So := Aiz ()
theorem A1g : Dv Tryz.prog ET0 174 Ac2 Acq So :=
 fn0 (E := (((E0.add 188 Aqe).add 189 Apx).add 190 Azo)) (pi := Ac2) (po := Acq) (Ab (Ab (Ab A7 (Ae Ans)) (Ae Al8)) (Ae Aw1)) (fn := Tryz.f174) Tryz.func174 (by kernel_rfl) (by kernel_rfl) [.cell 4 204] (by kernel_rfl) rfl rfl rfl [] fun d => by kernel_rfl
def A31 := Ak Ac2 Acq So
abbrev X4 : PSh := L3
abbrev Zi : PSh := Oe
abbrev Qk : Type := Y7
abbrev Agl : Type := ((List Int) × Unit) × (((List Int) × Unit) × (((List Int) × Unit) × (Unit × ((Int × Unit) × Unit))))
abbrev Ad5 : Type := ((List Int) × ((List Int) × Unit)) × (((List Int) × Unit) × (((List Int) × Unit) × (Unit × ((Int × Unit) × (Unit × ((Int × Unit) × ((Int × Unit) × Unit)))))))
abbrev R0 : Type := (((Agl) -> Option (Qk)) × (((Ad5) -> Option (Qk)) × Unit))
abbrev Ar0 : PSh := ⟨[.row 104 (.int .u64)], [.mk false [.v (.sl (.int .u64))], .mk false [.v (.sl (.int .u64))], .any, .any, .any, .mk false [.osl 0], kI] ++ M3 44⟩
abbrev Aoi : PSh := ⟨[.row 104 (.int .u64), .row 104 (.int .u64)], [.mk false [.v (.sl (.int .u64))], .mk false [.v (.sl (.int .u64))], .any, .any, .any, .mk false [.osl 0], kI, .mk false [.osl 1], .mk false [.v (.int .u64)], kI] ++ M3 41⟩
def Ng (T : R0) (d : Agl) : Option (Qk) :=
 let x1 := (d.2.2.1.1.length : Int)
 let x2 := (decide (d.2.2.2.2.1.1 < x1))
 bif x2 then (
 bif decide ((0 : Int) <= d.2.2.2.2.1.1) && decide (d.2.2.2.2.1.1 <= d.2.2.2.2.1.1) && decide (d.2.2.2.2.1.1 * (8 : Int) <= 140737488355328) && decide (d.2.2.2.2.1.1 <= 9223372036854775807) then (
 let x3 := (List.replicate (Int.toNat d.2.2.2.2.1.1) (0 : Int))
 (T.2.1 ((d.1.1, (x3, ())), (d.2.1, (d.2.2.1, ((), (d.2.2.2.2.1, ((), ((0, ()), ((0, ()), ()))))))))))
 else none)
 else (
 (Q3 ((), (d.1, ()))).bind fun x4 =>
 some ((), x4.2))
def Ly (T : R0) (d : Ad5) : Option (Qk) :=
 let x5 := (d.2.1.1.length : Int)
 let x6 := (decide (d.2.2.2.2.2.2.2.1.1 < x5))
 bif x6 then (
 (B6 ((), (d.2.1, d.2.2.2.2.2.2.2))).bind fun x7 =>
 bif decide ((0 : Int) <= d.2.2.2.2.1.1) && decide (d.2.2.2.2.1.1 < (d.2.2.1.1.length : Int)) then (
 let x8 := (Qi .u64 x7.2.1.1 (gd (.int .u64) d.2.2.1.1 d.2.2.2.2.1.1))
 let x9 := (A4 .u64 x8 d.2.2.2.2.2.2.1.1)
 let x10 := (Int.tmod x9 (65536 : Int))
 let x11 := ([x10] : List Int)
 bif decide (((d.1.2.1.length + x11.length) * 8 : Nat) <= 140737488355328) && decide (d.1.2.1.length + x11.length <= 9223372036854775807) then (
 let x12 := (d.1.2.1 ++ x11)
 let x13 := (Kc .u64 x9 (65536 : Int))
 let x14 := (A4 .i64 d.2.2.2.2.2.2.2.1.1 1)
 (T.2.1 ((d.1.1, (x12, ())), (d.2.1, (d.2.2.1, ((), (d.2.2.2.2.1, ((), ((x13, ()), ((x14, ()), ()))))))))))
 else none)
 else none)
 else (
 let x15 := (decide (d.2.2.2.2.2.2.1.1 > (0 : Int)))
 bif x15 then (
 (B6 ((), (d.2.1, d.2.2.2.2.2.2.2))).bind fun x16 =>
 bif decide ((0 : Int) <= d.2.2.2.2.1.1) && decide (d.2.2.2.2.1.1 < (d.2.2.1.1.length : Int)) then (
 let x17 := (Qi .u64 x16.2.1.1 (gd (.int .u64) d.2.2.1.1 d.2.2.2.2.1.1))
 let x18 := (A4 .u64 x17 d.2.2.2.2.2.2.1.1)
 let x19 := (Int.tmod x18 (65536 : Int))
 let x20 := ([x19] : List Int)
 bif decide (((d.1.2.1.length + x20.length) * 8 : Nat) <= 140737488355328) && decide (d.1.2.1.length + x20.length <= 9223372036854775807) then (
 let x21 := (d.1.2.1 ++ x20)
 let x22 := (Kc .u64 x18 (65536 : Int))
 let x23 := (A4 .i64 d.2.2.2.2.2.2.2.1.1 1)
 (T.2.1 ((d.1.1, (x21, ())), (d.2.1, (d.2.2.1, ((), (d.2.2.2.2.1, ((), ((x22, ()), ((x23, ()), ()))))))))))
 else none)
 else none)
 else (
 (Se ((), ((d.1.1, ()), (d.1.2, ())))).bind fun x24 =>
 let x25 := (A4 .i64 d.2.2.2.2.1.1 1)
 (T.1 (x24.1, (d.2.1, (d.2.2.1, ((), ((x25, ()), ()))))))))
def B1 : Nat -> R0
 | 0 => (fun _ => none, (fun _ => none, ()))
 | k + 1 => (Ng (B1 k), (Ly (B1 k), ()))
theorem T7 (k : Nat) : B1 (k + 1) = (Ng (B1 k), (Ly (B1 k), ())) := rfl
def Wc (T : R0) (d : Y8) : Option (Qk) :=
 (T.1 ((([] : List Int), ()), (d.2.1, (d.2.2.1, ((), ((0, ()), ()))))))
def Uk (d) := lim fun k => Wc (B1 k) d
theorem Awi : Dv Tryz.prog ET0 191 X4 Zi Uk :=
 fnL (E := ((((E0.add 189 Apx).add 197 Uf).add 198 At0).fr [(50, [49])])) (pi := X4) (po := Zi) (Wz (Ab (Ab (Ab A7 (Ae Al8)) (Ae Rz)) (Ae Apz))) (fn := Tryz.f191) Tryz.func191 (by kernel_rfl) (by kernel_rfl) [.tmp 4] (by kernel_rfl) rfl rfl rfl [] (fun k => [(4, ⟨Ar0, (B1 k).1⟩), (12, ⟨Aoi, (B1 k).2.1⟩)]) (fun _ => [])
 (.intro (fun _ => rfl) (.intro (fun _ => rfl) trivial)) (fun k => (.intro (fun d => by kernel_rfl) (.intro (fun d => by kernel_rfl) trivial))) trivial (fun k => trivial) (fun k d => Wc (B1 k) d) (fun k d => by kernel_rfl)
def A2a := Ak X4 Zi Uk
abbrev Zk : PSh := P3
abbrev Z5 : PSh := Kf
def Ae1 (T : Unit) (d : Y28) : Option (Y29) :=
 (Uk ((), (d.2.1.2, (d.2.2.1.2, ())))).bind fun x1 =>
 let x2 := (!(d.2.1.1 == d.2.2.1.1))
 bif x2 then (
 let x3 := (x1.2.1.1.length : Int)
 let x4 := (decide (x3 > (0 : Int)))
 some ((), ((x4, x1.2.1), ())))
 else (
 some ((), ((false, x1.2.1), ())))
def Pb := Ae1 ()
theorem Awh : Dv Tryz.prog ET0 175 Zk Z5 Pb :=
 fn0 (E := (E0.add 191 A2a)) (pi := Zk) (po := Z5) (Ab A7 (Ae Awi)) (fn := Tryz.f175) Tryz.func175 (by kernel_rfl) (by kernel_rfl) [.cell 4 204] (by kernel_rfl) rfl rfl rfl [] fun d => by kernel_rfl
def A1a := Ak Zk Z5 Pb
abbrev Afp : PSh := ⟨[], [kS]⟩
abbrev Afz : PSh := Kf
abbrev Ajv : Type := Y29
abbrev Anm : Type := ((Bool × Unit) × ((List Int) × ((Bool × ((List Int) × Unit)) × Unit))) × ((ByteArray × Unit) × (Unit × (Unit × ((Int × Unit) × Unit))))
abbrev Afy : Type := (((Anm) -> Option (Ajv)) × Unit)
abbrev Aws : PSh := ⟨[.var 204 [vB, .osl 1], .row 104 (.int .u64), .var 204 [vB, .v (.sl (.int .u64))]], [kS, .any, .mk false [.ref 0 0], .mk false [.ref 2 0], kI] ++ M3 18⟩
def Rx (T : Afy) (d : Anm) : Option (Ajv) :=
 let x2 := (d.2.1.1.size : Int)
 let x3 := (decide (d.2.2.2.2.1.1 < x2))
 bif x3 then (
 (N7 ((), ((10, ()), ()))).bind fun x4 =>
 (Pb ((), (d.1.2.2.1, ((x4.2.1.1, x4.1), ())))).bind fun x5 =>
 bif decide ((0 : Int) <= d.2.2.2.2.1.1) && decide (d.2.2.2.2.1.1 < ((d.2.1.1.size : Int) : Int)) then (
 let x6 := (bt d.2.1.1 d.2.2.2.2.1.1)
 let x7 := (Eh .u8 x6 48)
 let x8 := (Da .i64 x7)
 (N7 ((), ((x8, ()), ()))).bind fun x9 =>
 (So ((), (x5.2.1, ((x9.2.1.1, x9.1), ())))).bind fun x10 =>
 let x11 := (A4 .i64 d.2.2.2.2.1.1 1)
 (T.1 ((d.1.1, (d.1.2.1, x10.2)), (d.2.1, ((), ((), ((x11, ()), ())))))))
 else none)
 else (
 some ((), d.1.2.2))
def Jp : Nat -> Afy
 | 0 => (fun _ => none, ())
 | k + 1 => (Rx (Jp k), ())
theorem Aug (k : Nat) : Jp (k + 1) = (Rx (Jp k), ()) := rfl
def Acm (T : Afy) (d : Y16) : Option (Ajv) :=
 (N7 ((), ((0, ()), ()))).bind fun x1 =>
 (T.1 (((false, ()), (([] : List Int), ((x1.2.1.1, x1.1), ()))), (d.2.1, ((), ((), ((0, ()), ()))))))
def Q9 (d) := lim fun k => Acm (Jp k) d
theorem A2k : Dv Tryz.prog ET0 155 Afp Afz Q9 :=
 fnL (E := ((((E0.add 172 Axn).add 174 A31).add 175 A1a).fr [(1000005, [1000003])])) (pi := Afp) (po := Afz) (Wz (Ab (Ab (Ab A7 (Ae Auh)) (Ae A1g)) (Ae Awh))) (fn := Tryz.f155) Tryz.func155 (by kernel_rfl) (by kernel_rfl) [.cell 2 204] (by kernel_rfl) rfl rfl rfl [] (fun k => [(4, ⟨Aws, (Jp k).1⟩)]) (fun _ => [])
 (.intro (fun _ => rfl) trivial) (fun k => (.intro (fun d => by kernel_rfl) trivial)) trivial (fun k => trivial) (fun k d => Acm (Jp k) d) (fun k d => by kernel_rfl)
def A6d := Ak Afp Afz Q9
abbrev Adj : PSh := ⟨[], [kS, kI, kI]⟩
abbrev Acx : PSh := ⟨[], [kI, kI, kI]⟩
def Ajf (T : Unit) (d : Y21) : Option (Y6) :=
 let x1 := (decide (d.2.2.1.1 < (1 : Int)))
 bif x1 then (
 some ((), ((0, ()), ((0, ()), ((1, ()), ())))))
 else (
 let x2 := (decide (d.2.2.1.1 > d.2.2.2.1.1))
 bif x2 then (
 some ((), ((0, ()), ((0, ()), ((1, ()), ())))))
 else (
 let x3 := (decide (d.2.2.2.1.1 > (20 : Int)))
 bif x3 then (
 some ((), ((0, ()), ((0, ()), ((1, ()), ())))))
 else (
 (W4 ((), (d.2.1, ()))).bind fun x4 =>
 let x5 := (decide (x4.2.1.1 > d.2.2.2.1.1))
 bif x5 then (
 let x6 := (decide (d.2.2.2.1.1 < d.2.2.1.1))
 bif x6 then (
 some ((), ((0, ()), ((0, ()), ((2, ()), ())))))
 else (
 bif decide ((0 : Int) <= (0 : Int)) && decide ((0 : Int) <= d.2.2.2.1.1) && decide (d.2.2.2.1.1 <= (d.2.1.1.size : Int)) then (
 let x7 := (d.2.1.1.extract (Int.toNat (0 : Int)) (Int.toNat d.2.2.2.1.1))
 (Q9 ((), ((x7, ()), ()))).bind fun x8 =>
 (Lp ((), x8.2)).bind fun x9 =>
 let x10 := (x9.2.2.1.1 != (0 : Int))
 bif x10 then (
 some ((), ((0, ()), ((0, ()), x9.2.2))))
 else (
 some ((), (x9.2.1, (d.2.2.2.1, ((0, ()), ()))))))
 else none))
 else (
 let x11 := (decide (x4.2.1.1 < d.2.2.1.1))
 bif x11 then (
 some ((), ((0, ()), ((0, ()), ((2, ()), ())))))
 else (
 bif decide ((0 : Int) <= (0 : Int)) && decide ((0 : Int) <= x4.2.1.1) && decide (x4.2.1.1 <= (d.2.1.1.size : Int)) then (
 let x12 := (d.2.1.1.extract (Int.toNat (0 : Int)) (Int.toNat x4.2.1.1))
 (Q9 ((), ((x12, ()), ()))).bind fun x13 =>
 (Lp ((), x13.2)).bind fun x14 =>
 let x15 := (x14.2.2.1.1 != (0 : Int))
 bif x15 then (
 some ((), ((0, ()), ((0, ()), x14.2.2))))
 else (
 some ((), (x14.2.1, (x4.2.1, ((0, ()), ()))))))
 else none)))))
def Sk := Ajf ()
theorem Azw : Dv Tryz.prog ET0 133 Adj Acx Sk :=
 fn0 (E := (((E0.add 153 A20).add 154 A08).add 155 A6d)) (pi := Adj) (po := Acx) (Ab (Ab (Ab A7 (Ae A1u)) (Ae Awk)) (Ae A2k)) (fn := Tryz.f133) Tryz.func133 (by kernel_rfl) (by kernel_rfl) [.tmp 6, .tmp 7, .tmp 8] (by kernel_rfl) rfl rfl rfl [] fun d => by kernel_rfl
def A47 := Ak Adj Acx Sk
abbrev Zq : PSh := ⟨[], [kS, kI, kI]⟩
abbrev Zc : PSh := ⟨[], [kI, kI]⟩
def Aff (T : Unit) (d : Y21) : Option (Y4) :=
 (Sk ((), d.2)).bind fun x1 =>
 let x2 := (x1.2.2.2.1.1 == (0 : Int))
 bif x2 then (
 let x3 := (d.2.1.1.size : Int)
 let x4 := (decide (x1.2.2.1.1 < x3))
 bif x4 then (
 some ((), ((0, ()), ((2, ()), ()))))
 else (
 some ((), (x1.2.1, x1.2.2.2))))
 else (
 some ((), (x1.2.1, x1.2.2.2)))
def D1 := Aff ()
theorem Aiv : Dv Tryz.prog ET0 93 Zq Zc D1 :=
 fn0 (E := (E0.add 133 A47)) (pi := Zq) (po := Zc) (Ab A7 (Ae Azw)) (fn := Tryz.f93) Tryz.func93 (by kernel_rfl) (by kernel_rfl) [.tmp 6, .tmp 7] (by kernel_rfl) rfl rfl rfl [] fun d => by kernel_rfl
def Ant := Ak Zq Zc D1
abbrev Ac0 : PSh := ⟨[], [kS]⟩
abbrev Abs : PSh := ⟨[], [kI, kI]⟩
def Ajk (T : Unit) (d : Y16) : Option (Y4) :=
 (F6 ((), d.2)).bind fun x1 =>
 (N4 ((), d.2)).bind fun x2 =>
 let x3 := (!x2.2.1.1)
 bif x3 then (
 some ((), ((0, ()), ((2, ()), ()))))
 else (
 let x4 := (x1.1.1.length : Int)
 let x5 := (x4 != (1 : Int))
 bif x5 then (
 some ((), ((0, ()), ((2, ()), ()))))
 else (
 bif decide ((0 : Int) <= (0 : Int)) && decide ((0 : Int) < (x1.1.1.length : Int)) then (
 (D1 ((), (((gd .str x1.1.1 (0 : Int)), ()), ((1, ()), ((13, ()), ()))))).bind fun x6 =>
 some ((), x6.2))
 else none))
def Of := Ajk ()
theorem A06 : Dv Tryz.prog ET0 64 Ac0 Abs Of :=
 fn0 (E := (((E0.add 63 Ab2).add 65 Aj6).add 93 Ant)) (pi := Ac0) (po := Abs) (Ab (Ab (Ab A7 (Ae Ym)) (Ae Ag2)) (Ae Aiv)) (fn := Tryz.f64) Tryz.func64 (by kernel_rfl) (by kernel_rfl) [.tmp 2, .tmp 3] (by kernel_rfl) rfl rfl rfl [] fun d => by kernel_rfl
def A4i := Ak Ac0 Abs Of
abbrev Agp : PSh := ⟨[], [kS]⟩
abbrev Af3 : PSh := ⟨[], [.mk false [.v (.int .u32)], kB]⟩
abbrev Aj1 : Type := Unit × ((Int × Unit) × ((Bool × Unit) × Unit))
abbrev Amf : Type := Y21
abbrev Aeo : Type := (((Amf) -> Option (Aj1)) × Unit)
abbrev Awp : PSh := ⟨[], [kS, .any, .any, .any, .mk false [.v (.int .u32)], kI] ++ M3 53⟩
def Mv (T : Aeo) (d : Amf) : Option (Aj1) :=
 let x1 := (d.2.1.1.size : Int)
 let x2 := (decide (d.2.2.2.1.1 < x1))
 bif x2 then (
 bif decide ((0 : Int) <= d.2.2.2.1.1) && decide (d.2.2.2.1.1 < ((d.2.1.1.size : Int) : Int)) then (
 let x3 := (bt d.2.1.1 d.2.2.2.1.1)
 let x4 := (decide (x3 >= (48 : Int)))
 bif x4 then (
 let x5 := (decide (x3 <= (57 : Int)))
 bif x5 then (
 let x6 := (Eh .u8 x3 48)
 let x7 := (Da .u32 x6)
 let x8 := (Qi .u32 d.2.2.1.1 16)
 let x9 := (A4 .u32 x8 x7)
 let x10 := (A4 .i64 d.2.2.2.1.1 1)
 (T.1 ((), (d.2.1, ((x9, ()), ((x10, ()), ()))))))
 else (
 let x11 := (decide (x3 >= (97 : Int)))
 bif x11 then (
 let x12 := (decide (x3 <= (102 : Int)))
 bif x12 then (
 let x13 := (Eh .u8 x3 97)
 let x14 := (Da .u32 x13)
 let x15 := (A4 .u32 x14 10)
 let x16 := (Qi .u32 d.2.2.1.1 16)
 let x17 := (A4 .u32 x16 x15)
 let x18 := (A4 .i64 d.2.2.2.1.1 1)
 (T.1 ((), (d.2.1, ((x17, ()), ((x18, ()), ()))))))
 else (
 let x19 := (decide (x3 >= (65 : Int)))
 bif x19 then (
 let x20 := (decide (x3 <= (70 : Int)))
 bif x20 then (
 let x21 := (Eh .u8 x3 65)
 let x22 := (Da .u32 x21)
 let x23 := (A4 .u32 x22 10)
 let x24 := (Qi .u32 d.2.2.1.1 16)
 let x25 := (A4 .u32 x24 x23)
 let x26 := (A4 .i64 d.2.2.2.1.1 1)
 (T.1 ((), (d.2.1, ((x25, ()), ((x26, ()), ()))))))
 else (
 some ((), ((0, ()), ((false, ()), ())))))
 else (
 some ((), ((0, ()), ((false, ()), ()))))))
 else (
 let x27 := (decide (x3 >= (65 : Int)))
 bif x27 then (
 let x28 := (decide (x3 <= (70 : Int)))
 bif x28 then (
 let x29 := (Eh .u8 x3 65)
 let x30 := (Da .u32 x29)
 let x31 := (A4 .u32 x30 10)
 let x32 := (Qi .u32 d.2.2.1.1 16)
 let x33 := (A4 .u32 x32 x31)
 let x34 := (A4 .i64 d.2.2.2.1.1 1)
 (T.1 ((), (d.2.1, ((x33, ()), ((x34, ()), ()))))))
 else (
 some ((), ((0, ()), ((false, ()), ())))))
 else (
 some ((), ((0, ()), ((false, ()), ())))))))
 else (
 let x35 := (decide (x3 >= (97 : Int)))
 bif x35 then (
 let x36 := (decide (x3 <= (102 : Int)))
 bif x36 then (
 let x37 := (Eh .u8 x3 97)
 let x38 := (Da .u32 x37)
 let x39 := (A4 .u32 x38 10)
 let x40 := (Qi .u32 d.2.2.1.1 16)
 let x41 := (A4 .u32 x40 x39)
 let x42 := (A4 .i64 d.2.2.2.1.1 1)
 (T.1 ((), (d.2.1, ((x41, ()), ((x42, ()), ()))))))
 else (
 let x43 := (decide (x3 >= (65 : Int)))
 bif x43 then (
 let x44 := (decide (x3 <= (70 : Int)))
 bif x44 then (
 let x45 := (Eh .u8 x3 65)
 let x46 := (Da .u32 x45)
 let x47 := (A4 .u32 x46 10)
 let x48 := (Qi .u32 d.2.2.1.1 16)
 let x49 := (A4 .u32 x48 x47)
 let x50 := (A4 .i64 d.2.2.2.1.1 1)
 (T.1 ((), (d.2.1, ((x49, ()), ((x50, ()), ()))))))
 else (
 some ((), ((0, ()), ((false, ()), ())))))
 else (
 some ((), ((0, ()), ((false, ()), ()))))))
 else (
 let x51 := (decide (x3 >= (65 : Int)))
 bif x51 then (
 let x52 := (decide (x3 <= (70 : Int)))
 bif x52 then (
 let x53 := (Eh .u8 x3 65)
 let x54 := (Da .u32 x53)
 let x55 := (A4 .u32 x54 10)
 let x56 := (Qi .u32 d.2.2.1.1 16)
 let x57 := (A4 .u32 x56 x55)
 let x58 := (A4 .i64 d.2.2.2.1.1 1)
 (T.1 ((), (d.2.1, ((x57, ()), ((x58, ()), ()))))))
 else (
 some ((), ((0, ()), ((false, ()), ())))))
 else (
 some ((), ((0, ()), ((false, ()), ())))))))
 else none)
 else (
 let x59 := (d.2.1.1.size : Int)
 let x60 := (decide (x59 > (0 : Int)))
 bif x60 then (
 let x61 := (d.2.1.1.size : Int)
 let x62 := (decide (x61 <= (8 : Int)))
 some ((), (d.2.2.1, ((x62, ()), ()))))
 else (
 some ((), (d.2.2.1, ((false, ()), ())))))
def Jt : Nat -> Aeo
 | 0 => (fun _ => none, ())
 | k + 1 => (Mv (Jt k), ())
theorem Ajy (k : Nat) : Jt (k + 1) = (Mv (Jt k), ()) := rfl
def Aca (T : Aeo) (d : Y16) : Option (Aj1) :=
 (T.1 ((), (d.2.1, ((0, ()), ((0, ()), ())))))
def Ab3 (d) := lim fun k => Aca (Jt k) d
theorem A2x : Dv Tryz.prog ET0 66 Agp Af3 Ab3 :=
 fnL (E := E0) (pi := Agp) (po := Af3) A7 (fn := Tryz.f66) Tryz.func66 (by kernel_rfl) (by kernel_rfl) [.tmp 2, .tmp 3] (by kernel_rfl) rfl rfl rfl [] (fun k => [(4, ⟨Awp, (Jt k).1⟩)]) (fun _ => [])
 (.intro (fun _ => rfl) trivial) (fun k => (.intro (fun d => by kernel_rfl) trivial)) trivial (fun k => trivial) (fun k d => Aca (Jt k) d) (fun k d => by kernel_rfl)
def A57 := Ak Agp Af3 Ab3
abbrev Ae3 : PSh := ⟨[], [kS]⟩
abbrev Ahj : PSh := ⟨[], [kI, kI, kI]⟩
abbrev Aju : Type := Y6
abbrev Alz : Type := Y21
abbrev Agt : Type := (((Alz) -> Option (Aju)) × Unit)
abbrev Aw4 : PSh := ⟨[], [kS, .any, .any, .any, .any, kI, kI] ++ M3 64⟩
def Kh (T : Agt) (d : Alz) : Option (Aju) :=
 let x2 := (d.2.1.1.size : Int)
 let x3 := (decide (d.2.2.2.1.1 < x2))
 bif x3 then (
 let x4 := (d.2.1.1.size : Int)
 let x5 := (d.2.2.1.1 == x4)
 bif x5 then (
 bif decide ((0 : Int) <= d.2.2.2.1.1) && decide (d.2.2.2.1.1 < ((d.2.1.1.size : Int) : Int)) then (
 let x6 := (bt d.2.1.1 d.2.2.2.1.1)
 let x7 := (x6 == (35 : Int))
 bif x7 then (
 let x8 := (Eh .i64 d.2.2.2.1.1 1)
 bif decide ((0 : Int) <= x8) && decide (x8 <= d.2.2.2.1.1) && decide (d.2.2.2.1.1 <= (d.2.1.1.size : Int)) then (
 let x9 := (d.2.1.1.extract (Int.toNat x8) (Int.toNat d.2.2.2.1.1))
 (N4 ((), ((x9, ()), ()))).bind fun x10 =>
 bif x10.2.1.1 then (
 let x11 := (A4 .i64 d.2.2.2.1.1 1)
 (T.1 ((), (d.2.1, (d.2.2.2.1, ((x11, ()), ()))))))
 else (
 let x12 := (A4 .i64 d.2.2.2.1.1 1)
 (T.1 ((), (d.2.1, (d.2.2.1, ((x12, ()), ())))))))
 else none)
 else (
 let x13 := (A4 .i64 d.2.2.2.1.1 1)
 (T.1 ((), (d.2.1, (d.2.2.1, ((x13, ()), ())))))))
 else none)
 else (
 bif decide ((0 : Int) <= (0 : Int)) && decide ((0 : Int) <= d.2.2.1.1) && decide (d.2.2.1.1 <= (d.2.1.1.size : Int)) then (
 let x14 := (d.2.1.1.extract (Int.toNat (0 : Int)) (Int.toNat d.2.2.1.1))
 (F6 ((), ((x14, ()), ()))).bind fun x15 =>
 let x16 := (x15.1.1.length : Int)
 let x17 := (x16 != (2 : Int))
 bif x17 then (
 some ((), ((0, ()), ((0, ()), ((2, ()), ())))))
 else (
 bif decide ((0 : Int) <= (0 : Int)) && decide ((0 : Int) < (x15.1.1.length : Int)) then (
 (D1 ((), (((gd .str x15.1.1 (0 : Int)), ()), ((1, ()), ((13, ()), ()))))).bind fun x18 =>
 bif decide ((0 : Int) <= (1 : Int)) && decide ((1 : Int) < (x15.1.1.length : Int)) then (
 (D1 ((), (((gd .str x15.1.1 (1 : Int)), ()), ((1, ()), ((4, ()), ()))))).bind fun x19 =>
 let x20 := (x18.2.2.1.1 != (0 : Int))
 bif x20 then (
 some ((), ((0, ()), ((0, ()), ((2, ()), ())))))
 else (
 let x21 := (x19.2.2.1.1 != (0 : Int))
 bif x21 then (
 some ((), ((0, ()), ((0, ()), ((2, ()), ())))))
 else (
 let x22 := (Int.tmod x18.2.1.1 (86400 : Int))
 let x23 := (x22 != (0 : Int))
 bif x23 then (
 some ((), ((0, ()), ((0, ()), ((1, ()), ())))))
 else (
 some ((), (x18.2.1, (x19.2.1, ((0, ()), ()))))))))
 else none)
 else none))
 else none))
 else (
 bif decide ((0 : Int) <= (0 : Int)) && decide ((0 : Int) <= d.2.2.1.1) && decide (d.2.2.1.1 <= (d.2.1.1.size : Int)) then (
 let x24 := (d.2.1.1.extract (Int.toNat (0 : Int)) (Int.toNat d.2.2.1.1))
 (F6 ((), ((x24, ()), ()))).bind fun x25 =>
 let x26 := (x25.1.1.length : Int)
 let x27 := (x26 != (2 : Int))
 bif x27 then (
 some ((), ((0, ()), ((0, ()), ((2, ()), ())))))
 else (
 bif decide ((0 : Int) <= (0 : Int)) && decide ((0 : Int) < (x25.1.1.length : Int)) then (
 (D1 ((), (((gd .str x25.1.1 (0 : Int)), ()), ((1, ()), ((13, ()), ()))))).bind fun x28 =>
 bif decide ((0 : Int) <= (1 : Int)) && decide ((1 : Int) < (x25.1.1.length : Int)) then (
 (D1 ((), (((gd .str x25.1.1 (1 : Int)), ()), ((1, ()), ((4, ()), ()))))).bind fun x29 =>
 let x30 := (x28.2.2.1.1 != (0 : Int))
 bif x30 then (
 some ((), ((0, ()), ((0, ()), ((2, ()), ())))))
 else (
 let x31 := (x29.2.2.1.1 != (0 : Int))
 bif x31 then (
 some ((), ((0, ()), ((0, ()), ((2, ()), ())))))
 else (
 let x32 := (Int.tmod x28.2.1.1 (86400 : Int))
 let x33 := (x32 != (0 : Int))
 bif x33 then (
 some ((), ((0, ()), ((0, ()), ((1, ()), ())))))
 else (
 some ((), (x28.2.1, (x29.2.1, ((0, ()), ()))))))))
 else none)
 else none))
 else none)
def F8 : Nat -> Agt
 | 0 => (fun _ => none, ())
 | k + 1 => (Kh (F8 k), ())
theorem Aln (k : Nat) : F8 (k + 1) = (Kh (F8 k), ()) := rfl
def Aa9 (T : Agt) (d : Y16) : Option (Aju) :=
 let x1 := (d.2.1.1.size : Int)
 (T.1 ((), (d.2.1, ((x1, ()), ((1, ()), ())))))
def Ada (d) := lim fun k => Aa9 (F8 k) d
theorem A41 : Dv Tryz.prog ET0 67 Ae3 Ahj Ada :=
 fnL (E := (((E0.add 63 Ab2).add 65 Aj6).add 93 Ant)) (pi := Ae3) (po := Ahj) (Ab (Ab (Ab A7 (Ae Ym)) (Ae Ag2)) (Ae Aiv)) (fn := Tryz.f67) Tryz.func67 (by kernel_rfl) (by kernel_rfl) [.tmp 2, .tmp 3, .tmp 4] (by kernel_rfl) rfl rfl rfl [] (fun k => [(4, ⟨Aw4, (F8 k).1⟩)]) (fun _ => [])
 (.intro (fun _ => rfl) trivial) (fun k => (.intro (fun d => by kernel_rfl) trivial)) trivial (fun k => trivial) (fun k d => Aa9 (F8 k) d) (fun k d => by kernel_rfl)
def A8a := Ak Ae3 Ahj Ada
abbrev Aet : PSh := ⟨[], [.mk true [.v (.sl (.pair (.int .i64) (.int .i64))), vI, vI, vI, vI, vI, .v (.int .u32), .v (.int .u32), .v (.int .u32), .v (.int .u32), .v (.int .u32), vI, vI], kS]⟩
abbrev Afj : PSh := ⟨[], [.mk true [.v (.sl (.pair (.int .i64) (.int .i64))), vI, vI, vI, vI, vI, .v (.int .u32), .v (.int .u32), .v (.int .u32), .v (.int .u32), .v (.int .u32), vI, vI], kI]⟩
abbrev N3 : Type := Unit × (((List (Int × Int)) × (Int × (Int × (Int × (Int × (Int × (Int × (Int × (Int × (Int × (Int × (Int × (Int × Unit))))))))))))) × ((Int × Unit) × Unit))
abbrev Am5 : Type := (((List (Int × Int)) × (Int × (Int × (Int × (Int × (Int × (Int × (Int × (Int × (Int × (Int × (Int × (Int × Unit))))))))))))) × ((Int × (Int × (Int × (Int × (Int × (Int × (Int × (Int × (Int × (Int × (Int × (Int × Unit)))))))))))) × ((List (Int × Int)) × Unit))) × ((ByteArray × Unit) × (Unit × (Unit × ((ByteArray × Unit) × Unit))))
abbrev Yd : Type := (((List (Int × Int)) × (Int × (Int × (Int × (Int × (Int × (Int × (Int × (Int × (Int × (Int × (Int × (Int × Unit))))))))))))) × ((Int × (Int × (Int × (Int × (Int × (Int × (Int × (Int × (Int × (Int × (Int × (Int × Unit)))))))))))) × ((List (Int × Int)) × ((List ByteArray) × Unit)))) × (Unit × (Unit × (Unit × ((Int × Unit) × Unit))))
abbrev Ajc : Type := Yd
abbrev Oa : Type := (((Am5) -> Option (N3)) × (((Yd) -> Option (N3)) × (((Ajc) -> Option (N3)) × Unit)))
abbrev Axg : PSh := ⟨[.var 38 [.v (.sl (.pair (.int .i64) (.int .i64))), vI, vI, vI, vI, vI, .v (.int .u32), .v (.int .u32), .v (.int .u32), .v (.int .u32), .v (.int .u32), vI, vI], .var 38 [.osl 2, vI, vI, vI, vI, vI, .v (.int .u32), .v (.int .u32), .v (.int .u32), .v (.int .u32), .v (.int .u32), vI, vI], .row 96 (.pair (.int .i64) (.int .i64))], [.any, kS, .mk false [.ref 0 0], .any, .mk false [.ref 1 0], .any, .any, .any, .any, .any, .any, .any, .any, .any, .any, .any, .any, .any, .any, .any, .any, .any, .any, .any, .any, .any, .any, .any, .any, .any, kS] ++ M3 121⟩
abbrev Agb : PSh := ⟨[.var 38 [.v (.sl (.pair (.int .i64) (.int .i64))), vI, vI, vI, vI, vI, .v (.int .u32), .v (.int .u32), .v (.int .u32), .v (.int .u32), .v (.int .u32), vI, vI], .var 38 [.osl 2, vI, vI, vI, vI, vI, .v (.int .u32), .v (.int .u32), .v (.int .u32), .v (.int .u32), .v (.int .u32), vI, vI], .row 96 (.pair (.int .i64) (.int .i64)), .row 9 .str], [.any, .any, .mk false [.ref 0 0], .any, .mk false [.ref 1 0], .any, .any, .any, .any, .any, .any, .any, .mk false [.osl 3], kI] ++ M3 138⟩
abbrev Au2 : PSh := Agb
def Bt (T : Oa) (d : Am5) : Option (N3) :=
 let x7 := (d.2.2.2.2.1.1.toList == (⟨#[35, 36]⟩ : ByteArray).toList)
 bif x7 then (
 bif decide ((2 : Int) <= (d.2.1.1.size : Int)) && decide ((d.2.1.1.size : Int) <= (d.2.1.1.size : Int)) then (
 let x8 := (d.2.1.1.extract (Int.toNat (2 : Int)) (Int.toNat (d.2.1.1.size : Int)))
 (Of ((), ((x8, ()), ()))).bind fun x9 =>
 let x10 := (A4 .i64 d.1.1.2.2.2.1 1)
 let x11 := (x9.2.2.1.1 == (0 : Int))
 bif x11 then (
 let x12 := (decide (x10 > (1 : Int)))
 bif x12 then (
 some ((), ((d.1.1.1, (x9.2.1.1, (d.1.1.2.2.1, (x10, d.1.1.2.2.2.2)))), ((2, ()), ()))))
 else (
 some ((), ((d.1.1.1, (x9.2.1.1, (d.1.1.2.2.1, (x10, d.1.1.2.2.2.2)))), x9.2.2))))
 else (
 some ((), ((d.1.1.1, (x9.2.1.1, (d.1.1.2.2.1, (x10, d.1.1.2.2.2.2)))), x9.2.2))))
 else none)
 else (
 let x13 := (d.2.2.2.2.1.1.toList == (⟨#[35, 64]⟩ : ByteArray).toList)
 bif x13 then (
 bif decide ((2 : Int) <= (d.2.1.1.size : Int)) && decide ((d.2.1.1.size : Int) <= (d.2.1.1.size : Int)) then (
 let x14 := (d.2.1.1.extract (Int.toNat (2 : Int)) (Int.toNat (d.2.1.1.size : Int)))
 (Of ((), ((x14, ()), ()))).bind fun x15 =>
 let x16 := (A4 .i64 d.1.1.2.2.2.2.1 1)
 let x17 := (x15.2.2.1.1 == (0 : Int))
 bif x17 then (
 let x18 := (decide (x16 > (1 : Int)))
 bif x18 then (
 some ((), ((d.1.1.1, (d.1.1.2.1, (x15.2.1.1, (d.1.1.2.2.2.1, (x16, d.1.1.2.2.2.2.2))))), ((2, ()), ()))))
 else (
 some ((), ((d.1.1.1, (d.1.1.2.1, (x15.2.1.1, (d.1.1.2.2.2.1, (x16, d.1.1.2.2.2.2.2))))), x15.2.2))))
 else (
 some ((), ((d.1.1.1, (d.1.1.2.1, (x15.2.1.1, (d.1.1.2.2.2.1, (x16, d.1.1.2.2.2.2.2))))), x15.2.2))))
 else none)
 else (
 let x19 := (d.2.2.2.2.1.1.toList == (⟨#[35, 104]⟩ : ByteArray).toList)
 bif x19 then (
 bif decide ((2 : Int) <= (d.2.1.1.size : Int)) && decide ((d.2.1.1.size : Int) <= (d.2.1.1.size : Int)) then (
 let x20 := (d.2.1.1.extract (Int.toNat (2 : Int)) (Int.toNat (d.2.1.1.size : Int)))
 (F6 ((), ((x20, ()), ()))).bind fun x21 =>
 bif decide ((2 : Int) <= (d.2.1.1.size : Int)) && decide ((d.2.1.1.size : Int) <= (d.2.1.1.size : Int)) then (
 let x22 := (d.2.1.1.extract (Int.toNat (2 : Int)) (Int.toNat (d.2.1.1.size : Int)))
 (N4 ((), ((x22, ()), ()))).bind fun x23 =>
 let x24 := (!x23.2.1.1)
 bif x24 then (
 some ((), (d.1.1, ((2, ()), ()))))
 else (
 let x25 := (x21.1.1.length : Int)
 let x26 := (x25 != (5 : Int))
 bif x26 then (
 some ((), (d.1.1, ((2, ()), ()))))
 else (
 let x27 := (decide (d.1.1.2.2.2.2.2.1 > (0 : Int)))
 bif x27 then (
 some ((), (d.1.1, ((2, ()), ()))))
 else (
 let x28 := (A4 .i64 d.1.1.2.2.2.2.2.1 1)
 (T.2.1 (((d.1.1.1, (d.1.1.2.1, (d.1.1.2.2.1, (d.1.1.2.2.2.1, (d.1.1.2.2.2.2.1, (x28, d.1.1.2.2.2.2.2.2)))))), (d.1.2.1, (d.1.2.2.1, x21.1))), ((), ((), ((), ((0, ()), ()))))))))))
 else none)
 else none)
 else (
 bif decide ((0 : Int) <= (0 : Int)) && decide ((0 : Int) < ((d.2.1.1.size : Int) : Int)) then (
 let x29 := (bt d.2.1.1 (0 : Int))
 let x30 := (x29 == (35 : Int))
 bif x30 then (
 some ((), (d.1.1, ((0, ()), ()))))
 else (
 (Ada ((), (d.2.1, ()))).bind fun x31 =>
 let x32 := (x31.2.2.2.1.1 == (0 : Int))
 bif x32 then (
 let x33 := ([] : List (Int × Int))
 bif decide (((x33.length + d.1.1.1.length) * 16 : Nat) <= 140737488355328) && decide (x33.length + d.1.1.1.length <= 9223372036854775807) then (
 let x34 := (x33 ++ d.1.1.1)
 let x35 := (Kc .i64 x31.2.1.1 (86400 : Int))
 (Uv ((), ((1900, ()), ((1, ()), ((1, ()), ()))))).bind fun x36 =>
 let x37 := (A4 .i64 x35 x36.2.1.1)
 let x38 := ([(x37, x31.2.2.1.1)] : List (Int × Int))
 bif decide (((x34.length + x38.length) * 16 : Nat) <= 140737488355328) && decide (x34.length + x38.length <= 9223372036854775807) then (
 let x39 := (x34 ++ x38)
 some ((), ((x39, d.1.1.2), x31.2.2.2)))
 else none)
 else none)
 else (
 some ((), (d.1.1, x31.2.2.2)))))
 else none)))
def Lc (T : Oa) (d : Yd) : Option (N3) :=
 let x40 := (decide (d.2.2.2.2.1.1 < (5 : Int)))
 bif x40 then (
 bif decide ((0 : Int) <= d.2.2.2.2.1.1) && decide (d.2.2.2.2.1.1 < (d.1.2.2.2.1.length : Int)) then (
 (Ab3 ((), (((gd .str d.1.2.2.2.1 d.2.2.2.2.1.1), ()), ()))).bind fun x41 =>
 let x42 := (!x41.2.2.1.1)
 bif x42 then (
 some ((), (d.1.1, ((2, ()), ()))))
 else (
 bif decide ((0 : Int) <= d.2.2.2.2.1.1) && decide (d.2.2.2.2.1.1 < (5 : Int)) then (
 bif decide (d.2.2.2.2.1.1 = (0 : Int)) then (
 (T.2.2.1 (((d.1.1.1, (d.1.1.2.1, (d.1.1.2.2.1, (d.1.1.2.2.2.1, (d.1.1.2.2.2.2.1, (d.1.1.2.2.2.2.2.1, (x41.2.1.1, d.1.1.2.2.2.2.2.2.2))))))), d.1.2), ((), ((), ((), d.2.2.2.2))))))
 else (
 bif decide (d.2.2.2.2.1.1 = (1 : Int)) then (
 (T.2.2.1 (((d.1.1.1, (d.1.1.2.1, (d.1.1.2.2.1, (d.1.1.2.2.2.1, (d.1.1.2.2.2.2.1, (d.1.1.2.2.2.2.2.1, (d.1.1.2.2.2.2.2.2.1, (x41.2.1.1, d.1.1.2.2.2.2.2.2.2.2)))))))), d.1.2), ((), ((), ((), d.2.2.2.2))))))
 else (
 bif decide (d.2.2.2.2.1.1 = (2 : Int)) then (
 (T.2.2.1 (((d.1.1.1, (d.1.1.2.1, (d.1.1.2.2.1, (d.1.1.2.2.2.1, (d.1.1.2.2.2.2.1, (d.1.1.2.2.2.2.2.1, (d.1.1.2.2.2.2.2.2.1, (d.1.1.2.2.2.2.2.2.2.1, (x41.2.1.1, d.1.1.2.2.2.2.2.2.2.2.2))))))))), d.1.2), ((), ((), ((), d.2.2.2.2))))))
 else (
 bif decide (d.2.2.2.2.1.1 = (3 : Int)) then (
 (T.2.2.1 (((d.1.1.1, (d.1.1.2.1, (d.1.1.2.2.1, (d.1.1.2.2.2.1, (d.1.1.2.2.2.2.1, (d.1.1.2.2.2.2.2.1, (d.1.1.2.2.2.2.2.2.1, (d.1.1.2.2.2.2.2.2.2.1, (d.1.1.2.2.2.2.2.2.2.2.1, (x41.2.1.1, d.1.1.2.2.2.2.2.2.2.2.2.2)))))))))), d.1.2), ((), ((), ((), d.2.2.2.2))))))
 else (
 bif decide (d.2.2.2.2.1.1 = (4 : Int)) then (
 (T.2.2.1 (((d.1.1.1, (d.1.1.2.1, (d.1.1.2.2.1, (d.1.1.2.2.2.1, (d.1.1.2.2.2.2.1, (d.1.1.2.2.2.2.2.1, (d.1.1.2.2.2.2.2.2.1, (d.1.1.2.2.2.2.2.2.2.1, (d.1.1.2.2.2.2.2.2.2.2.1, (d.1.1.2.2.2.2.2.2.2.2.2.1, (x41.2.1.1, d.1.1.2.2.2.2.2.2.2.2.2.2.2))))))))))), d.1.2), ((), ((), ((), d.2.2.2.2))))))
 else (
 none))))))
 else none))
 else none)
 else (
 some ((), (d.1.1, ((0, ()), ()))))
def Wm (T : Oa) (d : Ajc) : Option (N3) :=
 let x43 := (A4 .i64 d.2.2.2.2.1.1 1)
 (T.2.1 (d.1, ((), ((), ((), ((x43, ()), ()))))))
def B5 : Nat -> Oa
 | 0 => (fun _ => none, (fun _ => none, (fun _ => none, ())))
 | k + 1 => (Bt (B5 k), (Lc (B5 k), (Wm (B5 k), ())))
theorem Cx (k : Nat) : B5 (k + 1) = (Bt (B5 k), (Lc (B5 k), (Wm (B5 k), ()))) := rfl
def Ou (T : Oa) (d : Unit × (((List (Int × Int)) × (Int × (Int × (Int × (Int × (Int × (Int × (Int × (Int × (Int × (Int × (Int × (Int × Unit))))))))))))) × ((ByteArray × Unit) × Unit))) : Option (N3) :=
 (F6 ((), d.2.2)).bind fun x1 =>
 let x2 := (x1.1.1.length : Int)
 let x3 := (x2 == (0 : Int))
 bif x3 then (
 some ((), (d.2.1, ((0, ()), ()))))
 else (
 let x4 := (d.2.2.1.1.size : Int)
 let x5 := (decide (x4 > (1 : Int)))
 bif x5 then (
 bif decide ((0 : Int) <= (0 : Int)) && decide ((2 : Int) <= (d.2.2.1.1.size : Int)) then (
 let x6 := (d.2.2.1.1.extract (Int.toNat (0 : Int)) (Int.toNat (2 : Int)))
 (T.1 ((d.2.1, (((0 : Int), ((0 : Int), ((0 : Int), ((0 : Int), ((0 : Int), ((0 : Int), ((0 : Int), ((0 : Int), ((0 : Int), ((0 : Int), ((0 : Int), (0, ())))))))))))), (([] : List (Int × Int)), ()))), (d.2.2.1, ((), ((), ((x6, ()), ())))))))
 else none)
 else (
 (T.1 ((d.2.1, (((0 : Int), ((0 : Int), ((0 : Int), ((0 : Int), ((0 : Int), ((0 : Int), ((0 : Int), ((0 : Int), ((0 : Int), ((0 : Int), ((0 : Int), (0, ())))))))))))), (([] : List (Int × Int)), ()))), (d.2.2.1, ((), ((), (((⟨#[]⟩ : ByteArray), ()), ()))))))))
def Ab0 (d) := lim fun k => Ou (B5 k) d
theorem A4w : Dv Tryz.prog ET0 31 Aet Afj Ab0 :=
 fnL (E := ((((((E0.add 46 Ay2).add 63 Ab2).add 64 A4i).add 65 Aj6).add 66 A57).add 67 A8a)) (pi := Aet) (po := Afj) (Ab (Ab (Ab (Ab (Ab (Ab A7 (Ae Atj)) (Ae Ym)) (Ae A06)) (Ae Ag2)) (Ae A2x)) (Ae A41)) (fn := Tryz.f31) Tryz.func31 (by kernel_rfl) (by kernel_rfl) [.cell 4 38, .tmp 5] (by kernel_rfl) rfl rfl rfl [9, 35] (fun k => [(9, ⟨Axg, (B5 k).1⟩), (32, ⟨Agb, (B5 k).2.1⟩), (35, ⟨Au2, (B5 k).2.2.1⟩)]) (fun _ => [])
 (.intro (fun _ => rfl) (.intro (fun _ => rfl) (.intro (fun _ => rfl) trivial))) (fun k => (.intro (fun d => by kernel_rfl) (.intro (fun d => by kernel_rfl) (.intro (fun d => by kernel_rfl) trivial)))) trivial (fun k => trivial) (fun k d => Ou (B5 k) d) (fun k d => by kernel_rfl)
def A6t := Ak Aet Afj Ab0
abbrev Ae5 : PSh := ⟨[], [kS]⟩
abbrev Af4 : PSh := ⟨[], [.mk true [.v (.sl (.pair (.int .i64) (.int .i64))), vI, vI, vI, vI, vI, .v (.int .u32), .v (.int .u32), .v (.int .u32), .v (.int .u32), .v (.int .u32), vI, vI]]⟩
abbrev Akd : Type := Unit × (((List (Int × Int)) × (Int × (Int × (Int × (Int × (Int × (Int × (Int × (Int × (Int × (Int × (Int × (Int × Unit))))))))))))) × Unit)
abbrev Amx : Type := ((Int × (Int × (Int × (Int × (Int × (Int × (Int × (Int × (Int × (Int × (Int × (Int × Unit)))))))))))) × ((List (Int × Int)) × (((List (Int × Int)) × (Int × (Int × (Int × (Int × (Int × (Int × (Int × (Int × (Int × (Int × (Int × (Int × Unit))))))))))))) × ((List ByteArray) × Unit)))) × (Unit × (Unit × (Unit × ((Int × Unit) × Unit))))
abbrev Afr : Type := (((Amx) -> Option (Akd)) × Unit)
abbrev Axe : PSh := ⟨[.var 38 [.osl 1, vI, vI, vI, vI, vI, .v (.int .u32), .v (.int .u32), .v (.int .u32), .v (.int .u32), .v (.int .u32), vI, vI], .row 96 (.pair (.int .i64) (.int .i64)), .var 38 [.v (.sl (.pair (.int .i64) (.int .i64))), vI, vI, vI, vI, vI, .v (.int .u32), .v (.int .u32), .v (.int .u32), .v (.int .u32), .v (.int .u32), vI, vI], .row 9 .str], [.any, .any, .mk false [.ref 0 0], .mk false [.ref 2 0], .mk false [.osl 3], kI] ++ M3 35⟩
def Ms (T : Afr) (d : Amx) : Option (Akd) :=
 let x4 := (d.1.2.2.2.1.length : Int)
 let x5 := (decide (d.2.2.2.2.1.1 < x4))
 bif x5 then (
 bif decide ((0 : Int) <= d.2.2.2.2.1.1) && decide (d.2.2.2.2.1.1 < (d.1.2.2.2.1.length : Int)) then (
 (Ab0 ((), (d.1.2.2.1, (((gd .str d.1.2.2.2.1 d.2.2.2.2.1.1), ()), ())))).bind fun x6 =>
 let x7 := (x6.2.2.1.1 != (0 : Int))
 bif x7 then (
 let x8 := (A4 .i64 d.2.2.2.2.1.1 1)
 some ((), ((d.1.2.2.1.1, (d.1.2.2.1.2.1, (d.1.2.2.1.2.2.1, (d.1.2.2.1.2.2.2.1, (d.1.2.2.1.2.2.2.2.1, (d.1.2.2.1.2.2.2.2.2.1, (d.1.2.2.1.2.2.2.2.2.2.1, (d.1.2.2.1.2.2.2.2.2.2.2.1, (d.1.2.2.1.2.2.2.2.2.2.2.2.1, (d.1.2.2.1.2.2.2.2.2.2.2.2.2.1, (d.1.2.2.1.2.2.2.2.2.2.2.2.2.2.1, (x8, x6.2.2.1)))))))))))), ())))
 else (
 let x9 := (A4 .i64 d.2.2.2.2.1.1 1)
 (T.1 ((d.1.1, (d.1.2.1, (x6.2.1, d.1.2.2.2))), ((), ((), ((), ((x9, ()), ()))))))))
 else none)
 else (
 some ((), (d.1.2.2.1, ())))
def Jk : Nat -> Afr
 | 0 => (fun _ => none, ())
 | k + 1 => (Ms (Jk k), ())
theorem Akw (k : Nat) : Jk (k + 1) = (Ms (Jk k), ()) := rfl
def Um (T : Afr) (d : Y16) : Option (Akd) :=
 let x1 := (d.2.1.1.size : Int)
 let x2 := (decide (x1 > (65535 : Int)))
 bif x2 then (
 some ((), ((([] : List (Int × Int)), ((0 : Int), ((0 : Int), ((0 : Int), ((0 : Int), ((0 : Int), ((0 : Int), ((0 : Int), ((0 : Int), ((0 : Int), ((0 : Int), ((0 : Int), (3, ()))))))))))))), ())))
 else (
 (Us ((), d.2)).bind fun x3 =>
 (T.1 ((((0 : Int), ((0 : Int), ((0 : Int), ((0 : Int), ((0 : Int), ((0 : Int), ((0 : Int), ((0 : Int), ((0 : Int), ((0 : Int), ((0 : Int), (0, ())))))))))))), (([] : List (Int × Int)), ((([] : List (Int × Int)), ((0 : Int), ((0 : Int), ((0 : Int), ((0 : Int), ((0 : Int), ((0 : Int), ((0 : Int), ((0 : Int), ((0 : Int), ((0 : Int), ((0 : Int), (0, ()))))))))))))), x3.1))), ((), ((), ((), ((0, ()), ())))))))
def Ns (d) := lim fun k => Um (Jk k) d
theorem Aqd : Dv Tryz.prog ET0 12 Ae5 Af4 Ns :=
 fnL (E := (((E0.add 14 A03).add 31 A6t).fr [(1000009, [1000003])])) (pi := Ae5) (po := Af4) (Wz (Ab (Ab A7 (Ae Aw5)) (Ae A4w))) (fn := Tryz.f12) Tryz.func12 (by kernel_rfl) (by kernel_rfl) [.cell 2 38] (by kernel_rfl) rfl rfl rfl [] (fun k => [(9, ⟨Axe, (Jk k).1⟩)]) (fun _ => [])
 (.intro (fun _ => rfl) trivial) (fun k => (.intro (fun d => by kernel_rfl) trivial)) trivial (fun k => trivial) (fun k d => Um (Jk k) d) (fun k d => by kernel_rfl)
def Aum := Ak Ae5 Af4 Ns
abbrev Ack : PSh := ⟨[], []⟩
abbrev Ade : PSh := ⟨[], [kI]⟩
def Aji (T : Unit) (d : Unit × Unit) : Option (Unit × ((Int × Unit) × Unit)) :=
 (Lu ((), ((10000, ()), ()))).bind fun x1 =>
 let x2 := (Eh .i64 x1.2.1.1 1)
 some ((), ((x2, ()), ()))
def Sp := Aji ()
theorem A1s : Dv Tryz.prog ET0 43 Ack Ade Sp :=
 fn0 (E := (E0.add 42 Aci)) (pi := Ack) (po := Ade) (Ab A7 (Ae Zw)) (fn := Tryz.f43) Tryz.func43 (by kernel_rfl) (by kernel_rfl) [.tmp 0] (by kernel_rfl) rfl rfl rfl [] fun d => by kernel_rfl
def A4e := Ak Ack Ade Sp
abbrev Acy : PSh := ⟨[], [kI]⟩
abbrev Abo : PSh := ⟨[], [kI, kI, kI]⟩
abbrev H0 : Type := Y6
abbrev Air : Type := Y4
abbrev Aix : Type := Y4
abbrev Afl : Type := Y4
abbrev Agj : Type := Y6
abbrev Lo : Type := (((Air) -> Option (H0)) × (((Aix) -> Option (H0)) × (((Afl) -> Option (H0)) × (((Agj) -> Option (H0)) × Unit))))
abbrev Va : PSh := ⟨[], [kI, .any, .any, .any, .any, kI] ++ M3 39⟩
abbrev Aun : PSh := Va
abbrev Arr : PSh := Va
abbrev Ar1 : PSh := ⟨[], [kI, .any, .any, .any, .any, kI, kI] ++ M3 38⟩
def Pt (T : Lo) (d : Air) : Option (H0) :=
 let x1 := (decide (d.2.1.1 < (0 : Int)))
 bif x1 then (
 let x2 := (A4 .i64 d.2.1.1 146097)
 let x3 := (Eh .i64 d.2.2.1.1 400)
 (T.1 ((), ((x2, ()), ((x3, ()), ())))))
 else (
 (T.2.1 ((), d.2)))
def Ot (T : Lo) (d : Aix) : Option (H0) :=
 let x4 := (decide (d.2.1.1 >= (146097 : Int)))
 bif x4 then (
 let x5 := (Eh .i64 d.2.1.1 146097)
 let x6 := (A4 .i64 d.2.2.1.1 400)
 (T.2.1 ((), ((x5, ()), ((x6, ()), ())))))
 else (
 (T.2.2.1 ((), d.2)))
def Nh (T : Lo) (d : Afl) : Option (H0) :=
 (Lh ((), d.2.2)).bind fun x7 =>
 let x8 := (decide (d.2.1.1 >= x7.2.1.1))
 bif x8 then (
 (Lh ((), d.2.2)).bind fun x9 =>
 let x10 := (Eh .i64 d.2.1.1 x9.2.1.1)
 let x11 := (A4 .i64 d.2.2.1.1 1)
 (T.2.2.1 ((), ((x10, ()), ((x11, ()), ())))))
 else (
 (T.2.2.2.1 ((), (d.2.1, (d.2.2.1, ((1, ()), ()))))))
def M9 (T : Lo) (d : Agj) : Option (H0) :=
 (Jl ((), d.2.2)).bind fun x12 =>
 let x13 := (decide (d.2.1.1 >= x12.2.1.1))
 bif x13 then (
 (Jl ((), d.2.2)).bind fun x14 =>
 let x15 := (Eh .i64 d.2.1.1 x14.2.1.1)
 let x16 := (A4 .i64 d.2.2.2.1.1 1)
 (T.2.2.2.1 ((), ((x15, ()), (d.2.2.1, ((x16, ()), ()))))))
 else (
 let x17 := (A4 .i64 d.2.1.1 1)
 some ((), (d.2.2.1, (d.2.2.2.1, ((x17, ()), ())))))
def Bc : Nat -> Lo
 | 0 => (fun _ => none, (fun _ => none, (fun _ => none, (fun _ => none, ()))))
 | k + 1 => (Pt (Bc k), (Ot (Bc k), (Nh (Bc k), (M9 (Bc k), ()))))
theorem Jg (k : Nat) : Bc (k + 1) = (Pt (Bc k), (Ot (Bc k), (Nh (Bc k), (M9 (Bc k), ())))) := rfl
def Aiu (T : Lo) (d : Unit × ((Int × Unit) × Unit)) : Option (H0) :=
 (T.1 ((), (d.2.1, ((1970, ()), ()))))
def Xo (d) := lim fun k => Aiu (Bc k) d
theorem Az8 : Dv Tryz.prog ET0 44 Acy Abo Xo :=
 fnL (E := ((E0.add 77 Ap6).add 78 Al6)) (pi := Acy) (po := Abo) (Ab (Ab A7 (Ae Amo)) (Ae Aip)) (fn := Tryz.f44) Tryz.func44 (by kernel_rfl) (by kernel_rfl) [.tmp 2, .tmp 3, .tmp 4] (by kernel_rfl) rfl rfl rfl [] (fun k => [(3, ⟨Va, (Bc k).1⟩), (8, ⟨Aun, (Bc k).2.1⟩), (13, ⟨Arr, (Bc k).2.2.1⟩), (19, ⟨Ar1, (Bc k).2.2.2.1⟩)]) (fun _ => [])
 (.intro (fun _ => rfl) (.intro (fun _ => rfl) (.intro (fun _ => rfl) (.intro (fun _ => rfl) trivial)))) (fun k => (.intro (fun d => by kernel_rfl) (.intro (fun d => by kernel_rfl) (.intro (fun d => by kernel_rfl) (.intro (fun d => by kernel_rfl) trivial))))) trivial (fun k => trivial) (fun k d => Aiu (Bc k) d) (fun k d => by kernel_rfl)
def A36 := Ak Acy Abo Xo
abbrev Mr : PSh := ⟨[], [.mk true [.v (.sl (.pair (.int .i64) (.int .i64))), vI, vI]]⟩
abbrev X2 : PSh := ⟨[], [kI]⟩
abbrev Qa : Type := (((List (Int × Int)) × (Int × (Int × Unit))) × Unit) × (Unit × ((Int × Unit) × Unit))
abbrev Adz : Type := Qa
abbrev Ad1 : Type := Qa
abbrev Mo : Type := (((Qa) -> Option (Unit × ((Int × Unit) × Unit))) × (((Adz) -> Option (Unit × ((Int × Unit) × Unit))) × (((Ad1) -> Option (Unit × ((Int × Unit) × Unit))) × Unit)))
abbrev Aq9 : PSh := ⟨[.var 30 [.v (.sl (.pair (.int .i64) (.int .i64))), vI, vI]], [.any, .mk false [.ref 0 0], .any, kI] ++ M3 132⟩
abbrev Aph : PSh := ⟨[.var 30 [.v (.sl (.pair (.int .i64) (.int .i64))), vI, vI]], [.any, .mk false [.ref 0 0], .any, .any, .any, kI] ++ M3 130⟩
abbrev Aow : PSh := ⟨[.var 30 [.v (.sl (.pair (.int .i64) (.int .i64))), vI, vI]], [.any, .mk false [.ref 0 0], .any, .any, .any, .any, .any, .any, .any, kI] ++ M3 126⟩
def Hn (T : Mo) (d : Qa) : Option (Unit × ((Int × Unit) × Unit)) :=
 let x5 := (d.1.1.1.length : Int)
 let x6 := (decide (d.2.2.1.1 < x5))
 bif x6 then (
 bif decide ((0 : Int) <= d.2.2.1.1) && decide (d.2.2.1.1 < (d.1.1.1.length : Int)) then (
 (Lu ((), ((1900, ()), ()))).bind fun x7 =>
 let x8 := (decide ((Ad d.1.1.1 d.2.2.1.1).1 < x7.2.1.1))
 bif x8 then (
 some ((), ((13, ()), ())))
 else (
 (Sp ((), ())).bind fun x9 =>
 let x10 := (decide ((Ad d.1.1.1 d.2.2.1.1).1 > x9.2.1.1))
 bif x10 then (
 some ((), ((13, ()), ())))
 else (
 let x11 := (A4 .i64 d.2.2.1.1 1)
 (T.1 (d.1, ((), ((x11, ()), ())))))))
 else none)
 else (
 let x12 := (decide (d.1.1.2.1 < (0 : Int)))
 bif x12 then (
 some ((), ((1, ()), ())))
 else (
 let x13 := (decide (d.1.1.2.1 > (1099511627776 : Int)))
 bif x13 then (
 some ((), ((1, ()), ())))
 else (
 let x14 := (decide (d.1.1.2.2.1 < (0 : Int)))
 bif x14 then (
 some ((), ((1, ()), ())))
 else (
 let x15 := (decide (d.1.1.2.2.1 > (1099511627776 : Int)))
 bif x15 then (
 some ((), ((1, ()), ())))
 else (
 (T.2.1 (d.1, ((), ((0, ()), ())))))))))
def I2 (T : Mo) (d : Adz) : Option (Unit × ((Int × Unit) × Unit)) :=
 let x16 := (d.1.1.1.length : Int)
 let x17 := (decide (d.2.2.1.1 < x16))
 bif x17 then (
 bif decide ((0 : Int) <= d.2.2.1.1) && decide (d.2.2.1.1 < (d.1.1.1.length : Int)) then (
 (Xo ((), (((Ad d.1.1.1 d.2.2.1.1).1, ()), ()))).bind fun x18 =>
 let x19 := (x18.2.2.2.1.1 != (1 : Int))
 bif x19 then (
 some ((), ((1, ()), ())))
 else (
 bif decide ((0 : Int) <= d.2.2.1.1) && decide (d.2.2.1.1 < (d.1.1.1.length : Int)) then (
 let x20 := (decide ((Ad d.1.1.1 d.2.2.1.1).2 < (0 : Int)))
 bif x20 then (
 some ((), ((1, ()), ())))
 else (
 bif decide ((0 : Int) <= d.2.2.1.1) && decide (d.2.2.1.1 < (d.1.1.1.length : Int)) then (
 let x21 := (decide ((Ad d.1.1.1 d.2.2.1.1).2 > (1000 : Int)))
 bif x21 then (
 some ((), ((1, ()), ())))
 else (
 let x22 := (A4 .i64 d.2.2.1.1 1)
 (T.2.1 (d.1, ((), ((x22, ()), ()))))))
 else none))
 else none))
 else none)
 else (
 (T.2.2.1 (d.1, ((), ((1, ()), ())))))
def I3 (T : Mo) (d : Ad1) : Option (Unit × ((Int × Unit) × Unit)) :=
 let x23 := (d.1.1.1.length : Int)
 let x24 := (decide (d.2.2.1.1 < x23))
 bif x24 then (
 let x25 := (Eh .i64 d.2.2.1.1 1)
 bif decide ((0 : Int) <= x25) && decide (x25 < (d.1.1.1.length : Int)) then (
 bif decide ((0 : Int) <= d.2.2.1.1) && decide (d.2.2.1.1 < (d.1.1.1.length : Int)) then (
 let x26 := (decide ((Ad d.1.1.1 d.2.2.1.1).1 <= (Ad d.1.1.1 x25).1))
 bif x26 then (
 some ((), ((6, ()), ())))
 else (
 let x27 := (A4 .i64 (Ad d.1.1.1 x25).2 (1 : Int))
 let x28 := ((Ad d.1.1.1 d.2.2.1.1).2 != x27)
 bif x28 then (
 let x29 := (Eh .i64 (Ad d.1.1.1 x25).2 (1 : Int))
 let x30 := ((Ad d.1.1.1 d.2.2.1.1).2 != x29)
 bif x30 then (
 some ((), ((6, ()), ())))
 else (
 let x31 := (A4 .i64 d.2.2.1.1 1)
 (T.2.2.1 (d.1, ((), ((x31, ()), ()))))))
 else (
 let x32 := (A4 .i64 d.2.2.1.1 1)
 (T.2.2.1 (d.1, ((), ((x32, ()), ())))))))
 else none)
 else none)
 else (
 some ((), ((0, ()), ())))
def By : Nat -> Mo
 | 0 => (fun _ => none, (fun _ => none, (fun _ => none, ())))
 | k + 1 => (Hn (By k), (I2 (By k), (I3 (By k), ())))
theorem E9 (k : Nat) : By (k + 1) = (Hn (By k), (I2 (By k), (I3 (By k), ()))) := rfl
def Lj (T : Mo) (d : Y30) : Option (Unit × ((Int × Unit) × Unit)) :=
 let x1 := (d.2.1.1.length : Int)
 let x2 := (x1 == (0 : Int))
 bif x2 then (
 some ((), ((8, ()), ())))
 else (
 let x3 := (d.2.1.1.length : Int)
 let x4 := (decide (x3 > (256 : Int)))
 bif x4 then (
 some ((), ((3, ()), ())))
 else (
 (T.1 (d.2, ((), ((0, ()), ()))))))
def P2 (d) := lim fun k => Lj (By k) d
theorem Awb : Dv Tryz.prog ET0 21 Mr X2 P2 :=
 fnL (E := (((E0.add 42 Aci).add 43 A4e).add 44 A36)) (pi := Mr) (po := X2) (Ab (Ab (Ab A7 (Ae Zw)) (Ae A1s)) (Ae Az8)) (fn := Tryz.f21) Tryz.func21 (by kernel_rfl) (by kernel_rfl) [.tmp 2] (by kernel_rfl) rfl rfl rfl [] (fun k => [(9, ⟨Aq9, (By k).1⟩), (21, ⟨Aph, (By k).2.1⟩), (30, ⟨Aow, (By k).2.2.1⟩)]) (fun _ => [])
 (.intro (fun _ => rfl) (.intro (fun _ => rfl) (.intro (fun _ => rfl) trivial))) (fun k => (.intro (fun d => by kernel_rfl) (.intro (fun d => by kernel_rfl) (.intro (fun d => by kernel_rfl) trivial)))) trivial (fun k => trivial) (fun k d => Lj (By k) d) (fun k d => by kernel_rfl)
def A0f := Ak Mr X2 P2
abbrev Aeg : PSh := ⟨[], [kI, kI]⟩
abbrev Aem : PSh := ⟨[], [kS]⟩
abbrev U2 : Type := Y16
abbrev Anz : Type := Unit × ((Int × Unit) × ((Int × Unit) × ((ByteArray × Unit) × Unit)))
abbrev Am4 : Type := Unit × ((Int × Unit) × ((ByteArray × Unit) × Unit))
abbrev Xp : Type := (((Anz) -> Option (U2)) × (((Am4) -> Option (U2)) × Unit))
abbrev Awu : PSh := ⟨[], [kI, kI, .any, .any, .any, kS] ++ M3 24⟩
abbrev Aw3 : PSh := ⟨[], [.any, kI, .any, .any, .any, kS] ++ M3 24⟩
def R4 (T : Xp) (d : Anz) : Option (U2) :=
 let x1 := (decide (d.2.1.1 > (0 : Int)))
 bif x1 then (
 let x2 := (Int.tmod d.2.1.1 (10 : Int))
 let x3 := (A4 .i64 (48 : Int) x2)
 let x4 := (Da .u8 x3)
 let x5 := ([x4] : List Int)
 let x6 := (Am x5)
 bif Agn x6 d.2.2.2.1.1 then (
 let x7 := (x6 ++ d.2.2.2.1.1)
 let x8 := (Kc .i64 d.2.1.1 (10 : Int))
 (T.1 ((), ((x8, ()), (d.2.2.1, ((x7, ()), ()))))))
 else none)
 else (
 (T.2.1 ((), d.2.2)))
def Ml (T : Xp) (d : Am4) : Option (U2) :=
 let x9 := (d.2.2.1.1.size : Int)
 let x10 := (decide (x9 < d.2.1.1))
 bif x10 then (
 bif Agn (⟨#[48]⟩ : ByteArray) d.2.2.1.1 then (
 let x11 := ((⟨#[48]⟩ : ByteArray) ++ d.2.2.1.1)
 (T.2.1 ((), (d.2.1, ((x11, ()), ())))))
 else none)
 else (
 let x12 := (d.2.2.1.1.size : Int)
 let x13 := (x12 == (0 : Int))
 bif x13 then (
 bif Agn (⟨#[48]⟩ : ByteArray) d.2.2.1.1 then (
 let x14 := ((⟨#[48]⟩ : ByteArray) ++ d.2.2.1.1)
 (T.2.1 ((), (d.2.1, ((x14, ()), ())))))
 else none)
 else (
 some ((), d.2.2)))
def D4 : Nat -> Xp
 | 0 => (fun _ => none, (fun _ => none, ()))
 | k + 1 => (R4 (D4 k), (Ml (D4 k), ()))
theorem U7 (k : Nat) : D4 (k + 1) = (R4 (D4 k), (Ml (D4 k), ())) := rfl
def Ac1 (T : Xp) (d : Y4) : Option (U2) :=
 (T.1 ((), (d.2.1, (d.2.2.1, (((⟨#[]⟩ : ByteArray), ()), ())))))
def Kv (d) := lim fun k => Ac1 (D4 k) d
theorem A2y : Dv Tryz.prog ET0 45 Aeg Aem Kv :=
 fnL (E := E0) (pi := Aeg) (po := Aem) A7 (fn := Tryz.f45) Tryz.func45 (by kernel_rfl) (by kernel_rfl) [.tmp 4] (by kernel_rfl) rfl rfl rfl [] (fun k => [(3, ⟨Awu, (D4 k).1⟩), (8, ⟨Aw3, (D4 k).2.1⟩)]) (fun _ => [])
 (.intro (fun _ => rfl) (.intro (fun _ => rfl) trivial)) (fun k => (.intro (fun d => by kernel_rfl) (.intro (fun d => by kernel_rfl) trivial))) trivial (fun k => trivial) (fun k d => Ac1 (D4 k) d) (fun k d => by kernel_rfl)
def A7p := Ak Aeg Aem Kv
abbrev V2 : PSh := R6
abbrev U8 : PSh := A6
abbrev Yn : Type := Y3
abbrev Ads : Type := ((List Int) × Unit) × ((Int × Unit) × (Unit × ((Int × Unit) × Unit)))
abbrev Vn : Type := (((Ads) -> Option (Yn)) × Unit)
abbrev Api : PSh := ⟨[.row 5 (.int .u8)], [.mk false [.v (.int .u64)], .any, .any, .any, .any, .mk false [.osl 0], kI] ++ M3 17⟩
def Lt (T : Vn) (d : Ads) : Option (Yn) :=
 let x3 := (decide (d.2.2.2.1.1 >= (0 : Int)))
 bif x3 then (
 let x4 := (Int.tmod d.2.1.1 (256 : Int))
 let x5 := (Da .u8 x4)
 bif decide ((0 : Int) <= d.2.2.2.1.1) && decide (d.2.2.2.1.1 < (d.1.1.length : Int)) then (
 let x6 := (List.set d.1.1 (Int.toNat d.2.2.2.1.1) x5)
 let x7 := (Kc .u64 d.2.1.1 (256 : Int))
 let x8 := (Eh .i64 d.2.2.2.1.1 1)
 (T.1 ((x6, ()), ((x7, ()), ((), ((x8, ()), ()))))))
 else none)
 else (
 some (d.1, ((), ())))
def Fq : Nat -> Vn
 | 0 => (fun _ => none, ())
 | k + 1 => (Lt (Fq k), ())
theorem Ai0 (k : Nat) : Fq (k + 1) = (Lt (Fq k), ()) := rfl
def S1 (T : Vn) (d : Y4) : Option (Yn) :=
 bif decide ((0 : Int) <= d.2.2.1.1) && decide (d.2.2.1.1 <= d.2.2.1.1) && decide (d.2.2.1.1 * (1 : Int) <= 140737488355328) && decide (d.2.2.1.1 <= 9223372036854775807) then (
 let x1 := (List.replicate (Int.toNat d.2.2.1.1) (0 : Int))
 let x2 := (Eh .i64 d.2.2.1.1 1)
 (T.1 ((x1, ()), (d.2.1, ((), ((x2, ()), ()))))))
 else none
def R1 (d) := lim fun k => S1 (Fq k) d
theorem Au8 : Dv Tryz.prog ET0 48 V2 U8 R1 :=
 fnL (E := E0) (pi := V2) (po := U8) A7 (fn := Tryz.f48) Tryz.func48 (by kernel_rfl) (by kernel_rfl) [.tmp 4] (by kernel_rfl) rfl rfl rfl [] (fun k => [(4, ⟨Api, (Fq k).1⟩)]) (fun _ => [])
 (.intro (fun _ => rfl) trivial) (fun k => (.intro (fun d => by kernel_rfl) trivial)) trivial (fun k => trivial) (fun k d => S1 (Fq k) d) (fun k d => by kernel_rfl)
def Awr := Ak V2 U8 R1
abbrev Afo : PSh := Cm
abbrev Ae8 : PSh := A6
abbrev Ake : Type := Y3
abbrev Ani : Type := ((List Int) × Unit) × (((List Int) × Unit) × (Unit × Unit))
abbrev Af8 : Type := (((Ani) -> Option (Ake)) × Unit)
abbrev Awg : PSh := ⟨[.row 5 (.int .u8)], [.mk false [.v (.sl (.int .u8))], .any, .any, .mk false [.osl 0]] ++ M3 20⟩
def Rw (T : Af8) (d : Ani) : Option (Ake) :=
 let x5 := (d.1.1.length : Int)
 let x6 := (Int.tmod x5 (64 : Int))
 let x7 := (x6 != (56 : Int))
 bif x7 then (
 let x8 := ([(0 : Int)] : List Int)
 bif decide (((d.1.1.length + x8.length) * 1 : Nat) <= 140737488355328) && decide (d.1.1.length + x8.length <= 9223372036854775807) then (
 let x9 := (d.1.1 ++ x8)
 (T.1 ((x9, ()), (d.2.1, ((), ())))))
 else none)
 else (
 let x10 := (d.2.1.1.length : Int)
 let x11 := (Da .u64 x10)
 let x12 := (Qi .u64 x11 8)
 (R1 ((), ((x12, ()), ((8, ()), ())))).bind fun x13 =>
 bif decide (((d.1.1.length + x13.1.1.length) * 1 : Nat) <= 140737488355328) && decide (d.1.1.length + x13.1.1.length <= 9223372036854775807) then (
 let x14 := (d.1.1 ++ x13.1.1)
 some ((x14, ()), ((), ())))
 else none)
def Jj : Nat -> Af8
 | 0 => (fun _ => none, ())
 | k + 1 => (Rw (Jj k), ())
theorem Avj (k : Nat) : Jj (k + 1) = (Rw (Jj k), ()) := rfl
def Acv (T : Af8) (d : Y7) : Option (Ake) :=
 let x1 := ([] : List Int)
 bif decide (((x1.length + d.2.1.1.length) * 1 : Nat) <= 140737488355328) && decide (x1.length + d.2.1.1.length <= 9223372036854775807) then (
 let x2 := (x1 ++ d.2.1.1)
 let x3 := ([(128 : Int)] : List Int)
 bif decide (((x2.length + x3.length) * 1 : Nat) <= 140737488355328) && decide (x2.length + x3.length <= 9223372036854775807) then (
 let x4 := (x2 ++ x3)
 (T.1 ((x4, ()), (d.2.1, ((), ())))))
 else none)
 else none
def Ac3 (d) := lim fun k => Acv (Jj k) d
theorem A4h : Dv Tryz.prog ET0 79 Afo Ae8 Ac3 :=
 fnL (E := (E0.add 48 Awr)) (pi := Afo) (po := Ae8) (Ab A7 (Ae Au8)) (fn := Tryz.f79) Tryz.func79 (by kernel_rfl) (by kernel_rfl) [.tmp 2] (by kernel_rfl) rfl rfl rfl [] (fun k => [(4, ⟨Awg, (Jj k).1⟩)]) (fun _ => [])
 (.intro (fun _ => rfl) trivial) (fun k => (.intro (fun d => by kernel_rfl) trivial)) trivial (fun k => trivial) (fun k d => Acv (Jj k) d) (fun k d => by kernel_rfl)
def A7g := Ak Afo Ae8 Ac3
abbrev X6 : PSh := Cm
abbrev Yi : PSh := R7
abbrev Agu : Type := Unit × (((List Int) × Unit) × ((Int × Unit) × ((Int × Unit) × Unit)))
abbrev Yz : Type := (((Agu) -> Option (Unit × ((Int × Unit) × Unit))) × Unit)
abbrev Arj : PSh := ⟨[], [.mk false [.v (.sl (.int .u8))], .any, .any, .mk false [.v (.int .u64)], kI] ++ M3 15⟩
def Nj (T : Yz) (d : Agu) : Option (Unit × ((Int × Unit) × Unit)) :=
 let x1 := (d.2.1.1.length : Int)
 let x2 := (decide (d.2.2.2.1.1 < x1))
 bif x2 then (
 let x3 := (Qi .u64 d.2.2.1.1 256)
 bif decide ((0 : Int) <= d.2.2.2.1.1) && decide (d.2.2.2.1.1 < (d.2.1.1.length : Int)) then (
 let x4 := (Da .u64 (gd (.int .u8) d.2.1.1 d.2.2.2.1.1))
 let x5 := (A4 .u64 x3 x4)
 let x6 := (A4 .i64 d.2.2.2.1.1 1)
 (T.1 ((), (d.2.1, ((x5, ()), ((x6, ()), ()))))))
 else none)
 else (
 some ((), (d.2.2.1, ())))
def Gf : Nat -> Yz
 | 0 => (fun _ => none, ())
 | k + 1 => (Nj (Gf k), ())
theorem Amv (k : Nat) : Gf (k + 1) = (Nj (Gf k), ()) := rfl
def Afc (T : Yz) (d : Y7) : Option (Unit × ((Int × Unit) × Unit)) :=
 (T.1 ((), (d.2.1, ((0, ()), ((0, ()), ())))))
def Ue (d) := lim fun k => Afc (Gf k) d
theorem Axb : Dv Tryz.prog ET0 103 X6 Yi Ue :=
 fnL (E := E0) (pi := X6) (po := Yi) A7 (fn := Tryz.f103) Tryz.func103 (by kernel_rfl) (by kernel_rfl) [.tmp 2] (by kernel_rfl) rfl rfl rfl [] (fun k => [(4, ⟨Arj, (Gf k).1⟩)]) (fun _ => [])
 (.intro (fun _ => rfl) trivial) (fun k => (.intro (fun d => by kernel_rfl) trivial)) trivial (fun k => trivial) (fun k d => Afc (Gf k) d) (fun k d => by kernel_rfl)
def A0c := Ak X6 Yi Ue
abbrev Ab5 : PSh := E8
abbrev Aa6 : PSh := E4
def Ai2 (T : Unit) (d : Y4) : Option (Unit × ((Int × Unit) × Unit)) :=
 let x1 := (Da .u64 d.2.2.1.1)
 bif decide (x1 < 0) then (
 none)
 else (
 let x2 := (A2b .u32 d.2.1.1 x1)
 let x3 := (Eh .i64 (32 : Int) d.2.2.1.1)
 let x4 := (Da .u64 x3)
 bif decide (x4 < 0) then (
 none)
 else (
 let x5 := (Bic .u32 d.2.1.1 x4)
 let x6 := (ior .u32 x2 x5)
 some ((), ((x6, ()), ()))))
def Le := Ai2 ()
theorem A18 : Dv Tryz.prog ET0 104 Ab5 Aa6 Le :=
 fn0 (E := E0) (pi := Ab5) (po := Aa6) A7 (fn := Tryz.f104) Tryz.func104 (by kernel_rfl) (by kernel_rfl) [.tmp 4] (by kernel_rfl) rfl rfl rfl [] fun d => by kernel_rfl
def A3b := Ak Ab5 Aa6 Le
abbrev Add : PSh := ⟨[], [.mk true [.v (.int .u32), .v (.int .u32), .v (.int .u32), .v (.int .u32), .v (.int .u32)], .mk false [.v (.sl (.int .u8))]]⟩
abbrev Abp : PSh := Je
abbrev Hx : Type := Y9
abbrev Ai7 : Type := ((Int × (Int × (Int × (Int × (Int × Unit))))) × ((Int × (Int × (Int × (Int × (Int × Unit))))) × ((List Int) × Unit))) × (((List Int) × Unit) × (Unit × (Unit × (Unit × ((Int × Unit) × Unit)))))
abbrev Af7 : Type := ((Int × (Int × (Int × (Int × (Int × Unit))))) × ((Int × (Int × (Int × (Int × (Int × Unit))))) × ((List Int) × Unit))) × (Unit × (Unit × (Unit × ((Int × Unit) × Unit))))
abbrev Af6 : Type := ((Int × (Int × (Int × (Int × (Int × Unit))))) × ((Int × (Int × (Int × (Int × (Int × Unit))))) × ((List Int) × Unit))) × (Unit × (Unit × (Unit × ((Int × Unit) × ((Int × Unit) × ((Int × Unit) × ((Int × Unit) × ((Int × Unit) × ((Int × Unit) × Unit)))))))))
abbrev Afw : Type := ((Int × (Int × (Int × (Int × (Int × Unit))))) × ((Int × (Int × (Int × (Int × (Int × Unit))))) × ((List Int) × Unit))) × (Unit × (Unit × (Unit × ((Int × Unit) × ((Int × Unit) × ((Int × Unit) × ((Int × Unit) × ((Int × Unit) × ((Int × Unit) × ((Int × Unit) × ((Int × Unit) × Unit)))))))))))
abbrev Ll : Type := (((Ai7) -> Option (Hx)) × (((Af7) -> Option (Hx)) × (((Af6) -> Option (Hx)) × (((Afw) -> Option (Hx)) × Unit))))
abbrev Aus : PSh := ⟨[.var 36 [.v (.int .u32), .v (.int .u32), .v (.int .u32), .v (.int .u32), .v (.int .u32)], .var 36 [.v (.int .u32), .v (.int .u32), .v (.int .u32), .v (.int .u32), .v (.int .u32)], .row 35 (.int .u32)], [.any, .mk false [.v (.sl (.int .u8))], .mk false [.ref 0 0], .any, .mk false [.ref 1 0], .mk false [.osl 2], kI] ++ M3 146⟩
abbrev Ary : PSh := ⟨[.var 36 [.v (.int .u32), .v (.int .u32), .v (.int .u32), .v (.int .u32), .v (.int .u32)], .var 36 [.v (.int .u32), .v (.int .u32), .v (.int .u32), .v (.int .u32), .v (.int .u32)], .row 35 (.int .u32)], [.any, .any, .mk false [.ref 0 0], .any, .mk false [.ref 1 0], .mk false [.osl 2], .any, kI] ++ M3 145⟩
abbrev Ari : PSh := ⟨[.var 36 [.v (.int .u32), .v (.int .u32), .v (.int .u32), .v (.int .u32), .v (.int .u32)], .var 36 [.v (.int .u32), .v (.int .u32), .v (.int .u32), .v (.int .u32), .v (.int .u32)], .row 35 (.int .u32)], [.any, .any, .mk false [.ref 0 0], .any, .mk false [.ref 1 0], .mk false [.osl 2], .any, .any, .mk false [.v (.int .u32)], .mk false [.v (.int .u32)], .mk false [.v (.int .u32)], .mk false [.v (.int .u32)], .mk false [.v (.int .u32)], kI] ++ M3 139⟩
abbrev Arz : PSh := ⟨[.var 36 [.v (.int .u32), .v (.int .u32), .v (.int .u32), .v (.int .u32), .v (.int .u32)], .var 36 [.v (.int .u32), .v (.int .u32), .v (.int .u32), .v (.int .u32), .v (.int .u32)], .row 35 (.int .u32)], [.any, .any, .mk false [.ref 0 0], .any, .mk false [.ref 1 0], .mk false [.osl 2], .any, .any, .mk false [.v (.int .u32)], .mk false [.v (.int .u32)], .mk false [.v (.int .u32)], .mk false [.v (.int .u32)], .mk false [.v (.int .u32)], kI, .mk false [.v (.int .u32)], .mk false [.v (.int .u32)]] ++ M3 137⟩
def P7 (T : Ll) (d : Ai7) : Option (Hx) :=
 let x1 := (decide (d.2.2.2.2.2.1.1 < (16 : Int)))
 bif x1 then (
 let x2 := (Qi .i64 (4 : Int) d.2.2.2.2.2.1.1)
 let x3 := (Qi .i64 (4 : Int) d.2.2.2.2.2.1.1)
 let x4 := (A4 .i64 x3 4)
 bif decide ((0 : Int) <= x2) && decide (x2 <= x4) && decide (x4 <= (d.2.1.1.length : Int)) then (
 let x5 := (List.drop (Int.toNat x2) (List.take (Int.toNat x4) d.2.1.1))
 (Ue ((), ((x5, ()), ()))).bind fun x6 =>
 let x7 := (Da .u32 x6.2.1.1)
 let x8 := ([x7] : List Int)
 bif decide (((d.1.2.2.1.length + x8.length) * 4 : Nat) <= 140737488355328) && decide (d.1.2.2.1.length + x8.length <= 9223372036854775807) then (
 let x9 := (d.1.2.2.1 ++ x8)
 let x10 := (A4 .i64 d.2.2.2.2.2.1.1 1)
 (T.1 ((d.1.1, (d.1.2.1, (x9, ()))), (d.2.1, ((), ((), ((), ((x10, ()), ()))))))))
 else none)
 else none)
 else (
 (T.2.1 (d.1, ((), ((), ((), ((16, ()), ())))))))
def Nk (T : Ll) (d : Af7) : Option (Hx) :=
 let x11 := (decide (d.2.2.2.2.1.1 < (80 : Int)))
 bif x11 then (
 let x12 := (Eh .i64 d.2.2.2.2.1.1 3)
 bif decide ((0 : Int) <= x12) && decide (x12 < (d.1.2.2.1.length : Int)) then (
 let x13 := (Eh .i64 d.2.2.2.2.1.1 8)
 bif decide ((0 : Int) <= x13) && decide (x13 < (d.1.2.2.1.length : Int)) then (
 let x14 := (Ahz .u32 (gd (.int .u32) d.1.2.2.1 x12) (gd (.int .u32) d.1.2.2.1 x13))
 let x15 := (Eh .i64 d.2.2.2.2.1.1 14)
 bif decide ((0 : Int) <= x15) && decide (x15 < (d.1.2.2.1.length : Int)) then (
 let x16 := (Ahz .u32 x14 (gd (.int .u32) d.1.2.2.1 x15))
 let x17 := (Eh .i64 d.2.2.2.2.1.1 16)
 bif decide ((0 : Int) <= x17) && decide (x17 < (d.1.2.2.1.length : Int)) then (
 let x18 := (Ahz .u32 x16 (gd (.int .u32) d.1.2.2.1 x17))
 (Le ((), ((x18, ()), ((1, ()), ())))).bind fun x19 =>
 let x20 := ([x19.2.1.1] : List Int)
 bif decide (((d.1.2.2.1.length + x20.length) * 4 : Nat) <= 140737488355328) && decide (d.1.2.2.1.length + x20.length <= 9223372036854775807) then (
 let x21 := (d.1.2.2.1 ++ x20)
 let x22 := (A4 .i64 d.2.2.2.2.1.1 1)
 (T.2.1 ((d.1.1, (d.1.2.1, (x21, ()))), ((), ((), ((), ((x22, ()), ())))))))
 else none)
 else none)
 else none)
 else none)
 else none)
 else (
 (T.2.2.1 (d.1, ((), ((), ((), ((d.1.1.1, ()), ((d.1.1.2.1, ()), ((d.1.1.2.2.1, ()), ((d.1.1.2.2.2.1, ()), (d.1.1.2.2.2.2, ((0, ()), ()))))))))))))
def M7 (T : Ll) (d : Af6) : Option (Hx) :=
 let x23 := (decide (d.2.2.2.2.2.2.2.2.2.1.1 < (80 : Int)))
 bif x23 then (
 let x24 := (decide (d.2.2.2.2.2.2.2.2.2.1.1 <= (19 : Int)))
 bif x24 then (
 let x25 := (Aw7 .u32 d.2.2.2.2.2.1.1 d.2.2.2.2.2.2.1.1)
 let x26 := (Bos .u32 d.2.2.2.2.2.1.1)
 let x27 := (Aw7 .u32 x26 d.2.2.2.2.2.2.2.1.1)
 let x28 := (ior .u32 x25 x27)
 (T.2.2.2.1 (d.1, ((), ((), ((), (d.2.2.2.2.1, (d.2.2.2.2.2.1, (d.2.2.2.2.2.2.1, (d.2.2.2.2.2.2.2.1, (d.2.2.2.2.2.2.2.2.1, (d.2.2.2.2.2.2.2.2.2.1, ((x28, ()), ((1518500249, ()), ()))))))))))))))
 else (
 let x29 := (decide (d.2.2.2.2.2.2.2.2.2.1.1 <= (39 : Int)))
 bif x29 then (
 let x30 := (Ahz .u32 d.2.2.2.2.2.1.1 d.2.2.2.2.2.2.1.1)
 let x31 := (Ahz .u32 x30 d.2.2.2.2.2.2.2.1.1)
 (T.2.2.2.1 (d.1, ((), ((), ((), (d.2.2.2.2.1, (d.2.2.2.2.2.1, (d.2.2.2.2.2.2.1, (d.2.2.2.2.2.2.2.1, (d.2.2.2.2.2.2.2.2.1, (d.2.2.2.2.2.2.2.2.2.1, ((x31, ()), ((1859775393, ()), ()))))))))))))))
 else (
 let x32 := (decide (d.2.2.2.2.2.2.2.2.2.1.1 <= (59 : Int)))
 bif x32 then (
 let x33 := (Aw7 .u32 d.2.2.2.2.2.1.1 d.2.2.2.2.2.2.1.1)
 let x34 := (Aw7 .u32 d.2.2.2.2.2.1.1 d.2.2.2.2.2.2.2.1.1)
 let x35 := (ior .u32 x33 x34)
 let x36 := (Aw7 .u32 d.2.2.2.2.2.2.1.1 d.2.2.2.2.2.2.2.1.1)
 let x37 := (ior .u32 x35 x36)
 (T.2.2.2.1 (d.1, ((), ((), ((), (d.2.2.2.2.1, (d.2.2.2.2.2.1, (d.2.2.2.2.2.2.1, (d.2.2.2.2.2.2.2.1, (d.2.2.2.2.2.2.2.2.1, (d.2.2.2.2.2.2.2.2.2.1, ((x37, ()), ((2400959708, ()), ()))))))))))))))
 else (
 let x38 := (Ahz .u32 d.2.2.2.2.2.1.1 d.2.2.2.2.2.2.1.1)
 let x39 := (Ahz .u32 x38 d.2.2.2.2.2.2.2.1.1)
 (T.2.2.2.1 (d.1, ((), ((), ((), (d.2.2.2.2.1, (d.2.2.2.2.2.1, (d.2.2.2.2.2.2.1, (d.2.2.2.2.2.2.2.1, (d.2.2.2.2.2.2.2.2.1, (d.2.2.2.2.2.2.2.2.2.1, ((x39, ()), ((3395469782, ()), ())))))))))))))))))
 else (
 let x40 := (A4 .u32 d.1.1.1 d.2.2.2.2.1.1)
 let x41 := (A4 .u32 d.1.1.2.1 d.2.2.2.2.2.1.1)
 let x42 := (A4 .u32 d.1.1.2.2.1 d.2.2.2.2.2.2.1.1)
 let x43 := (A4 .u32 d.1.1.2.2.2.1 d.2.2.2.2.2.2.2.1.1)
 let x44 := (A4 .u32 d.1.1.2.2.2.2.1 d.2.2.2.2.2.2.2.2.1.1)
 some ((), ((x40, (x41, (x42, (x43, (x44, ()))))), ())))
def Tk (T : Ll) (d : Afw) : Option (Hx) :=
 (Le ((), (d.2.2.2.2.1, ((5, ()), ())))).bind fun x45 =>
 let x46 := (A4 .u32 x45.2.1.1 d.2.2.2.2.2.2.2.2.2.2.1.1)
 let x47 := (A4 .u32 x46 d.2.2.2.2.2.2.2.2.1.1)
 let x48 := (A4 .u32 x47 d.2.2.2.2.2.2.2.2.2.2.2.1.1)
 bif decide ((0 : Int) <= d.2.2.2.2.2.2.2.2.2.1.1) && decide (d.2.2.2.2.2.2.2.2.2.1.1 < (d.1.2.2.1.length : Int)) then (
 let x49 := (A4 .u32 x48 (gd (.int .u32) d.1.2.2.1 d.2.2.2.2.2.2.2.2.2.1.1))
 (Le ((), (d.2.2.2.2.2.1, ((30, ()), ())))).bind fun x50 =>
 let x51 := (A4 .i64 d.2.2.2.2.2.2.2.2.2.1.1 1)
 (T.2.2.1 (d.1, ((), ((), ((), ((x49, ()), (d.2.2.2.2.1, (x50.2.1, (d.2.2.2.2.2.2.1, (d.2.2.2.2.2.2.2.1, ((x51, ()), ()))))))))))))
 else none
def Bd : Nat -> Ll
 | 0 => (fun _ => none, (fun _ => none, (fun _ => none, (fun _ => none, ()))))
 | k + 1 => (P7 (Bd k), (Nk (Bd k), (M7 (Bd k), (Tk (Bd k), ()))))
theorem Ld (k : Nat) : Bd (k + 1) = (P7 (Bd k), (Nk (Bd k), (M7 (Bd k), (Tk (Bd k), ())))) := rfl
def Zy (T : Ll) (d : Unit × ((Int × (Int × (Int × (Int × (Int × Unit))))) × (((List Int) × Unit) × Unit))) : Option (Hx) :=
 (T.1 ((d.2.1, (((0 : Int), ((0 : Int), ((0 : Int), ((0 : Int), (0, ()))))), (([] : List Int), ()))), (d.2.2.1, ((), ((), ((), ((0, ()), ())))))))
def Xh (d) := lim fun k => Zy (Bd k) d
theorem A12 : Dv Tryz.prog ET0 80 Add Abp Xh :=
 fnL (E := ((E0.add 103 A0c).add 104 A3b)) (pi := Add) (po := Abp) (Ab (Ab A7 (Ae Axb)) (Ae A18)) (fn := Tryz.f80) Tryz.func80 (by kernel_rfl) (by kernel_rfl) [.cell 4 36] (by kernel_rfl) rfl rfl rfl [22] (fun k => [(4, ⟨Aus, (Bd k).1⟩), (10, ⟨Ary, (Bd k).2.1⟩), (17, ⟨Ari, (Bd k).2.2.1⟩), (22, ⟨Arz, (Bd k).2.2.2.1⟩)]) (fun _ => [])
 (.intro (fun _ => rfl) (.intro (fun _ => rfl) (.intro (fun _ => rfl) (.intro (fun _ => rfl) trivial)))) (fun k => (.intro (fun d => by kernel_rfl) (.intro (fun d => by kernel_rfl) (.intro (fun d => by kernel_rfl) (.intro (fun d => by kernel_rfl) trivial))))) trivial (fun k => trivial) (fun k d => Zy (Bd k) d) (fun k d => by kernel_rfl)
def A42 := Ak Add Abp Xh
abbrev Zu : PSh := Cm
abbrev Zx : PSh := Je
abbrev Ado : Type := Y9
abbrev Afd : Type := ((Int × (Int × (Int × (Int × (Int × Unit))))) × ((Int × (Int × (Int × (Int × (Int × Unit))))) × Unit)) × (Unit × (((List Int) × Unit) × (Unit × ((Int × Unit) × Unit))))
abbrev Z3 : Type := (((Afd) -> Option (Ado)) × Unit)
abbrev Art : PSh := ⟨[.var 36 [.v (.int .u32), .v (.int .u32), .v (.int .u32), .v (.int .u32), .v (.int .u32)], .var 36 [.v (.int .u32), .v (.int .u32), .v (.int .u32), .v (.int .u32), .v (.int .u32)]], [.any, .any, .mk false [.ref 0 0], .mk false [.v (.sl (.int .u8))], .mk false [.ref 1 0], kI] ++ M3 17⟩
def Ni (T : Z3) (d : Afd) : Option (Ado) :=
 let x2 := (d.2.2.1.1.length : Int)
 let x3 := (decide (d.2.2.2.2.1.1 < x2))
 bif x3 then (
 let x4 := (A4 .i64 d.2.2.2.2.1.1 64)
 bif decide ((0 : Int) <= d.2.2.2.2.1.1) && decide (d.2.2.2.2.1.1 <= x4) && decide (x4 <= (d.2.2.1.1.length : Int)) then (
 let x5 := (List.drop (Int.toNat d.2.2.2.2.1.1) (List.take (Int.toNat x4) d.2.2.1.1))
 (Xh ((), (d.1.2.1, ((x5, ()), ())))).bind fun x6 =>
 let x7 := (A4 .i64 d.2.2.2.2.1.1 64)
 (T.1 ((d.1.1, x6.2), ((), (d.2.2.1, ((), ((x7, ()), ())))))))
 else none)
 else (
 some ((), d.1.2))
def Gj : Nat -> Z3
 | 0 => (fun _ => none, ())
 | k + 1 => (Ni (Gj k), ())
theorem Am0 (k : Nat) : Gj (k + 1) = (Ni (Gj k), ()) := rfl
def V8 (T : Z3) (d : Y7) : Option (Ado) :=
 (Ac3 ((), d.2)).bind fun x1 =>
 (T.1 ((((0 : Int), ((0 : Int), ((0 : Int), ((0 : Int), (0, ()))))), (((1732584193 : Int), ((4023233417 : Int), ((2562383102 : Int), ((271733878 : Int), (3285377520, ()))))), ())), ((), (x1.1, ((), ((0, ()), ()))))))
def Uq (d) := lim fun k => V8 (Gj k) d
theorem Aw2 : Dv Tryz.prog ET0 49 Zu Zx Uq :=
 fnL (E := (((E0.add 79 A7g).add 80 A42).fr [(1000006, [1000003, 1000010])])) (pi := Zu) (po := Zx) (Wz (Ab (Ab A7 (Ae A4h)) (Ae A12))) (fn := Tryz.f49) Tryz.func49 (by kernel_rfl) (by kernel_rfl) [.cell 2 36] (by kernel_rfl) rfl rfl rfl [] (fun k => [(5, ⟨Art, (Gj k).1⟩)]) (fun _ => [])
 (.intro (fun _ => rfl) trivial) (fun k => (.intro (fun d => by kernel_rfl) trivial)) trivial (fun k => trivial) (fun k d => V8 (Gj k) d) (fun k d => by kernel_rfl)
def Azr := Ak Zu Zx Uq
abbrev Vo : PSh := Mr
abbrev Vr : PSh := Je
abbrev Yg : Type := Y9
abbrev Adw : Type := (((List (Int × Int)) × (Int × (Int × Unit))) × ((Int × (Int × (Int × (Int × (Int × Unit))))) × Unit)) × (Unit × (Unit × ((ByteArray × Unit) × ((Int × Unit) × Unit))))
abbrev Vk : Type := (((Adw) -> Option (Yg)) × Unit)
abbrev An4 : PSh := ⟨[.var 30 [.v (.sl (.pair (.int .i64) (.int .i64))), vI, vI], .var 36 [.v (.int .u32), .v (.int .u32), .v (.int .u32), .v (.int .u32), .v (.int .u32)]], [.any, .mk false [.ref 0 0], .mk false [.ref 1 0], kS, kI] ++ M3 37⟩
def Ls (T : Vk) (d : Adw) : Option (Yg) :=
 let x4 := (d.1.1.1.length : Int)
 let x5 := (decide (d.2.2.2.2.1.1 < x4))
 bif x5 then (
 bif decide ((0 : Int) <= d.2.2.2.2.1.1) && decide (d.2.2.2.2.1.1 < (d.1.1.1.length : Int)) then (
 (Uv ((), ((1900, ()), ((1, ()), ((1, ()), ()))))).bind fun x6 =>
 let x7 := (Eh .i64 (Ad d.1.1.1 d.2.2.2.2.1.1).1 x6.2.1.1)
 let x8 := (Qi .i64 x7 86400)
 (Kv ((), ((x8, ()), ((0, ()), ())))).bind fun x9 =>
 bif decide ((0 : Int) <= d.2.2.2.2.1.1) && decide (d.2.2.2.2.1.1 < (d.1.1.1.length : Int)) then (
 (Kv ((), (((Ad d.1.1.1 d.2.2.2.2.1.1).2, ()), ((0, ()), ())))).bind fun x10 =>
 bif Agn x9.2.1.1 x10.2.1.1 then (
 let x11 := (x9.2.1.1 ++ x10.2.1.1)
 bif Agn d.2.2.2.1.1 x11 then (
 let x12 := (d.2.2.2.1.1 ++ x11)
 let x13 := (A4 .i64 d.2.2.2.2.1.1 1)
 (T.1 (d.1, ((), ((), ((x12, ()), ((x13, ()), ())))))))
 else none)
 else none)
 else none)
 else none)
 else (
 bif decide ((d.2.2.2.1.1.size : Int) <= 9223372036854775807) then (
 let x14 := (bytesOf d.2.2.2.1.1)
 (Uq ((), ((x14, ()), ()))).bind fun x15 =>
 some ((), x15.2))
 else none)
def Fo : Nat -> Vk
 | 0 => (fun _ => none, ())
 | k + 1 => (Ls (Fo k), ())
theorem Aiq (k : Nat) : Fo (k + 1) = (Ls (Fo k), ()) := rfl
def S9 (T : Vk) (d : Y30) : Option (Yg) :=
 (Kv ((), ((d.2.1.2.1, ()), ((0, ()), ())))).bind fun x1 =>
 (Kv ((), (d.2.1.2.2, ((0, ()), ())))).bind fun x2 =>
 bif Agn x1.2.1.1 x2.2.1.1 then (
 let x3 := (x1.2.1.1 ++ x2.2.1.1)
 (T.1 ((d.2.1, (((0 : Int), ((0 : Int), ((0 : Int), ((0 : Int), (0, ()))))), ())), ((), ((), ((x3, ()), ((0, ()), ())))))))
 else none
def My (d) := lim fun k => S9 (Fo k) d
theorem Au6 : Dv Tryz.prog ET0 25 Vo Vr My :=
 fnL (E := (((E0.add 45 A7p).add 46 Ay2).add 49 Azr)) (pi := Vo) (po := Vr) (Ab (Ab (Ab A7 (Ae A2y)) (Ae Atj)) (Ae Aw2)) (fn := Tryz.f25) Tryz.func25 (by kernel_rfl) (by kernel_rfl) [.cell 2 36] (by kernel_rfl) rfl rfl rfl [] (fun k => [(4, ⟨An4, (Fo k).1⟩)]) (fun _ => [])
 (.intro (fun _ => rfl) trivial) (fun k => (.intro (fun d => by kernel_rfl) trivial)) trivial (fun k => trivial) (fun k d => S9 (Fo k) d) (fun k d => by kernel_rfl)
def Awy := Ak Vo Vr My
abbrev X0 : PSh := ⟨[], [kS]⟩
abbrev Z0 : PSh := ⟨[], [.mk true [.v (.sl (.pair (.int .i64) (.int .i64))), vI, vI], kI]⟩
def Auy (T : Unit) (d : Y16) : Option (Unit × (((List (Int × Int)) × (Int × (Int × Unit))) × ((Int × Unit) × Unit))) :=
 (Ns ((), d.2)).bind fun x1 =>
 let x2 := (x1.2.1.2.2.2.2.2.2.2.2.2.2.2.2.1 != (0 : Int))
 bif x2 then (
 some ((), ((([] : List (Int × Int)), ((0 : Int), (0, ()))), (x1.2.1.2.2.2.2.2.2.2.2.2.2.2.2, ()))))
 else (
 let x3 := (x1.2.1.2.2.2.1 == (0 : Int))
 bif x3 then (
 some ((), ((([] : List (Int × Int)), ((0 : Int), (0, ()))), ((2, ()), ()))))
 else (
 let x4 := (x1.2.1.2.2.2.2.1 == (0 : Int))
 bif x4 then (
 some ((), ((([] : List (Int × Int)), ((0 : Int), (0, ()))), ((2, ()), ()))))
 else (
 (P2 ((), ((x1.2.1.1, (x1.2.1.2.1, (x1.2.1.2.2.1, ()))), ()))).bind fun x5 =>
 let x6 := (x5.2.1.1 != (0 : Int))
 bif x6 then (
 some ((), ((([] : List (Int × Int)), ((0 : Int), (0, ()))), x5.2)))
 else (
 let x7 := (decide (x1.2.1.2.2.2.2.2.1 > (0 : Int)))
 bif x7 then (
 (My ((), ((x1.2.1.1, (x1.2.1.2.1, (x1.2.1.2.2.1, ()))), ()))).bind fun x8 =>
 let x9 := (!((x8.2.1.1 == x1.2.1.2.2.2.2.2.2.1) && ((x8.2.1.2.1 == x1.2.1.2.2.2.2.2.2.2.1) && ((x8.2.1.2.2.1 == x1.2.1.2.2.2.2.2.2.2.2.1) && ((x8.2.1.2.2.2.1 == x1.2.1.2.2.2.2.2.2.2.2.2.1) && ((x8.2.1.2.2.2.2.1 == x1.2.1.2.2.2.2.2.2.2.2.2.2.1) && true))))))
 bif x9 then (
 some ((), ((([] : List (Int × Int)), ((0 : Int), (0, ()))), ((7, ()), ()))))
 else (
 some ((), ((x1.2.1.1, (x1.2.1.2.1, (x1.2.1.2.2.1, ()))), ((0, ()), ())))))
 else (
 some ((), ((x1.2.1.1, (x1.2.1.2.1, (x1.2.1.2.2.1, ()))), ((0, ()), ()))))))))
def Lq := Auy ()
theorem Awf : Dv Tryz.prog ET0 9 X0 Z0 Lq :=
 fn0 (E := (((E0.add 12 Aum).add 21 A0f).add 25 Awy)) (pi := X0) (po := Z0) (Ab (Ab (Ab A7 (Ae Aqd)) (Ae Awb)) (Ae Au6)) (fn := Tryz.f9) Tryz.func9 (by kernel_rfl) (by kernel_rfl) [.cell 2 30, .tmp 3] (by kernel_rfl) rfl rfl rfl [] fun d => by kernel_rfl
def A0b := Ak X0 Z0 Lq
abbrev Alg : PSh := ⟨[], [kE]⟩
abbrev Ajp : PSh := ⟨[], [kI]⟩
def Aqh (T : Unit) (d : Y22) : Option (Unit × ((Int × Unit) × Unit)) :=
 bif d.2.1.1.isNone then (
 some ((), ((0, ()), ())))
 else (
 bif d.2.1.1.isSome then (
 let x1 := ((d.2.1.1.getD 0) != (0 : Int))
 bif x1 then (
 some ((), (((d.2.1.1.getD 0), ()), ())))
 else (
 some ((), (((-1 : Int), ()), ()))))
 else (
 some ((), (((-1 : Int), ()), ()))))
def Ra := Aqh ()
theorem A7a : Dv Tryz.prog ET0 10 Alg Ajp Ra :=
 fn0 (E := E0) (pi := Alg) (po := Ajp) A7 (fn := Tryz.f10) Tryz.func10 (by kernel_rfl) (by kernel_rfl) [.tmp 2] (by kernel_rfl) rfl rfl rfl [] fun d => by kernel_rfl
def Bbp := Ak Alg Ajp Ra
abbrev Rc : PSh := ⟨[], [kS]⟩
abbrev Ru : PSh := ⟨[], [kI]⟩
def Xt (T : Unit) (d : Y16) : Option (Unit × ((Int × Unit) × Unit)) :=
 (Cw ((((none : Option Int), ((none : Option Int), ((none : Option (Int × (Int × (Int × (Int × Int))))), ()))), (([] : List (Int × Int)), ())), ((), d.2))).bind fun x1 =>
 some ((), (x1.2.1, ()))
def Hl := Xt ()
theorem Aor : Dv Tryz.prog ET0 11 Rc Ru Hl :=
 fn0 (E := (E0.add 29 Mt)) (pi := Rc) (po := Ru) (Ab A7 (Pi Me)) (fn := Tryz.f11) Tryz.func11 (by kernel_rfl) (by kernel_rfl) [.tmp 2] (by kernel_rfl) rfl rfl rfl [] fun d => by kernel_rfl
def Ard := Ak Rc Ru Hl
abbrev Ab7 : PSh := ⟨[], [.mk true [.v (.sl (.pair (.int .i64) (.int .i64))), vI, vI], .mk true [.v (.sl (.pair (.int .i64) (.int .i64))), vI, vI]]⟩
abbrev Aa4 : PSh := ⟨[], [kB]⟩
abbrev Ajd : Type := (((List (Int × Int)) × (Int × (Int × Unit))) × (((List (Int × Int)) × (Int × (Int × Unit))) × Unit)) × (Unit × (Unit × ((Int × Unit) × Unit)))
abbrev Abq : Type := (((Ajd) -> Option (Unit × ((Bool × Unit) × Unit))) × Unit)
abbrev Au0 : PSh := ⟨[.var 30 [.v (.sl (.pair (.int .i64) (.int .i64))), vI, vI], .var 30 [.v (.sl (.pair (.int .i64) (.int .i64))), vI, vI]], [.any, .any, .mk false [.ref 0 0], .mk false [.ref 1 0], .any, kI] ++ M3 39⟩
def Kx (T : Abq) (d : Ajd) : Option (Unit × ((Bool × Unit) × Unit)) :=
 let x6 := (d.1.1.1.length : Int)
 let x7 := (decide (d.2.2.2.1.1 < x6))
 bif x7 then (
 bif decide ((0 : Int) <= d.2.2.2.1.1) && decide (d.2.2.2.1.1 < (d.1.1.1.length : Int)) then (
 bif decide ((0 : Int) <= d.2.2.2.1.1) && decide (d.2.2.2.1.1 < (d.1.2.1.1.length : Int)) then (
 let x8 := (!(((Ad d.1.1.1 d.2.2.2.1.1).1 == (Ad d.1.2.1.1 d.2.2.2.1.1).1) && (((Ad d.1.1.1 d.2.2.2.1.1).2 == (Ad d.1.2.1.1 d.2.2.2.1.1).2) && true)))
 bif x8 then (
 some ((), ((false, ()), ())))
 else (
 let x9 := (A4 .i64 d.2.2.2.1.1 1)
 (T.1 (d.1, ((), ((), ((x9, ()), ())))))))
 else none)
 else none)
 else (
 some ((), ((true, ()), ())))
def Ia : Nat -> Abq
 | 0 => (fun _ => none, ())
 | k + 1 => (Kx (Ia k), ())
theorem Agz (k : Nat) : Ia (k + 1) = (Kx (Ia k), ()) := rfl
def Kd (T : Abq) (d : Unit × (((List (Int × Int)) × (Int × (Int × Unit))) × (((List (Int × Int)) × (Int × (Int × Unit))) × Unit))) : Option (Unit × ((Bool × Unit) × Unit)) :=
 let x1 := (d.2.1.1.length : Int)
 let x2 := (d.2.2.1.1.length : Int)
 let x3 := (x1 != x2)
 bif x3 then (
 some ((), ((false, ()), ())))
 else (
 let x4 := (d.2.1.2.1 != d.2.2.1.2.1)
 bif x4 then (
 some ((), ((false, ()), ())))
 else (
 let x5 := (d.2.1.2.2.1 != d.2.2.1.2.2.1)
 bif x5 then (
 some ((), ((false, ()), ())))
 else (
 (T.1 (d.2, ((), ((), ((0, ()), ()))))))))
def W8 (d) := lim fun k => Kd (Ia k) d
theorem A1w : Dv Tryz.prog ET0 32 Ab7 Aa4 W8 :=
 fnL (E := E0) (pi := Ab7) (po := Aa4) A7 (fn := Tryz.f32) Tryz.func32 (by kernel_rfl) (by kernel_rfl) [.tmp 4] (by kernel_rfl) rfl rfl rfl [] (fun k => [(6, ⟨Au0, (Ia k).1⟩)]) (fun _ => [])
 (.intro (fun _ => rfl) trivial) (fun k => (.intro (fun d => by kernel_rfl) trivial)) trivial (fun k => trivial) (fun k d => Kd (Ia k) d) (fun k d => by kernel_rfl)
def A35 := Ak Ab7 Aa4 W8
abbrev Qw : PSh := Mr
abbrev Ro : PSh := ⟨[.row 96 (.pair (.int .i64) (.int .i64))], [.mk true [.osl 0, vI, vI]]⟩
abbrev Tc : Type := ((List (Int × Int)) × Unit) × ((Int × (Int × Unit)) × Unit)
abbrev W7 : Type := ((Int × (Int × Unit)) × ((List (Int × Int)) × ((Int × (Int × Unit)) × ((List (Int × Int)) × Unit)))) × (Unit × (Unit × (((List (Int × Int)) × Unit) × ((Int × Unit) × ((Int × Unit) × Unit)))))
abbrev Rt : Type := (((W7) -> Option (Tc)) × Unit)
abbrev Akx : PSh := ⟨[.var 30 [.osl 1, vI, vI], .row 96 (.pair (.int .i64) (.int .i64)), .var 30 [.osl 3, vI, vI], .row 96 (.pair (.int .i64) (.int .i64))], [.any, .any, .mk false [.ref 0 0], .mk false [.ref 2 0], .any, .any, .any, .any, .any, .any, .any, .any, .mk false [.v (.sl (.pair (.int .i64) (.int .i64)))], kI, kI] ++ M3 15⟩
def Ji (T : Rt) (d : W7) : Option (Tc) :=
 let x2 := (decide (d.2.2.2.2.2.1.1 < d.2.2.2.2.1.1))
 bif x2 then (
 bif decide ((0 : Int) <= d.2.2.2.2.2.1.1) && decide (d.2.2.2.2.2.1.1 < (d.2.2.2.1.1.length : Int)) then (
 let x3 := ([((Ad d.2.2.2.1.1 d.2.2.2.2.2.1.1).1, (Ad d.2.2.2.1.1 d.2.2.2.2.2.1.1).2)] : List (Int × Int))
 bif decide (((d.1.2.2.2.1.length + x3.length) * 16 : Nat) <= 140737488355328) && decide (d.1.2.2.2.1.length + x3.length <= 9223372036854775807) then (
 let x4 := (d.1.2.2.2.1 ++ x3)
 let x5 := (A4 .i64 d.2.2.2.2.2.1.1 1)
 (T.1 ((d.1.1, (d.1.2.1, (d.1.2.2.1, (x4, ())))), ((), ((), (d.2.2.2.1, (d.2.2.2.2.1, ((x5, ()), ()))))))))
 else none)
 else none)
 else (
 some (d.1.2.2.2, (d.1.2.2.1, ())))
def Ej : Nat -> Rt
 | 0 => (fun _ => none, ())
 | k + 1 => (Ji (Ej k), ())
theorem Adp (k : Nat) : Ej (k + 1) = (Ji (Ej k), ()) := rfl
def Po (T : Rt) (d : Y30) : Option (Tc) :=
 let x1 := (d.2.1.1.length : Int)
 (T.1 ((((0 : Int), (0, ())), (([] : List (Int × Int)), (d.2.1.2, (([] : List (Int × Int)), ())))), ((), ((), ((d.2.1.1, ()), ((x1, ()), ((0, ()), ())))))))
def Nb (d) := lim fun k => Po (Ej k) d
theorem Apt : Dv Tryz.prog ET0 33 Qw Ro Nb :=
 fnL (E := E0) (pi := Qw) (po := Ro) A7 (fn := Tryz.f33) Tryz.func33 (by kernel_rfl) (by kernel_rfl) [.cell 2 30] (by kernel_rfl) rfl rfl rfl [] (fun k => [(4, ⟨Akx, (Ej k).1⟩)]) (fun _ => [])
 (.intro (fun _ => rfl) trivial) (fun k => (.intro (fun d => by kernel_rfl) trivial)) trivial (fun k => trivial) (fun k d => Po (Ej k) d) (fun k d => by kernel_rfl)
def Arn := Ak Qw Ro Nb
abbrev Aj7 : PSh := ⟨[], [.mk false [.v (.nptr (.pair (.sl (.pair (.int .i64) (.int .i64))) (.pair (.int .i64) (.int .i64))))], .mk true [.v (.sl (.pair (.int .i64) (.int .i64))), vI, vI]]⟩
abbrev Ali : PSh := ⟨[], [kB]⟩
def Aqa (T : Unit) (d : Unit × (((Option ((List (Int × Int)) × (Int × Int))) × Unit) × (((List (Int × Int)) × (Int × (Int × Unit))) × Unit))) : Option (Unit × ((Bool × Unit) × Unit)) :=
 let x1 := (!d.2.1.1.isNone)
 bif x1 then (
 (Ey ((), (d.2.1, ()))).bind fun x2 =>
 (Dn ((), (d.2.1, ()))).bind fun x3 =>
 (Do ((), (d.2.1, ()))).bind fun x4 =>
 (Nb ((), ((x2.1.1, (x3.2.1.1, x4.2.1)), ()))).bind fun x5 =>
 (W8 ((), ((x5.1.1, x5.2.1), d.2.2))).bind fun x6 =>
 some ((), x6.2))
 else (
 some ((), ((false, ()), ())))
def Q2 := Aqa ()
theorem A5p : Dv Tryz.prog ET0 13 Aj7 Ali Q2 :=
 fn0 (E := (((((E0.add 32 A35).add 33 Arn).add 34 Aak).add 35 Tx).add 36 Ts)) (pi := Aj7) (po := Ali) (Ab (Ab (Ab (Ab (Ab A7 (Ae A1w)) (Ae Apt)) (Ae W6)) (Ae Sc)) (Ae Sy)) (fn := Tryz.f13) Tryz.func13 (by kernel_rfl) (by kernel_rfl) [.tmp 4] (by kernel_rfl) rfl rfl rfl [] fun d => by kernel_rfl
def Bcg := Ak Aj7 Ali Q2
abbrev V9 : PSh := ⟨[], [kS]⟩
abbrev Vs : PSh := ⟨[], [kB]⟩
def T3 (T : Unit) (d : Y16) : Option (Unit × ((Bool × Unit) × Unit)) :=
 (Pg ((), ())).bind fun x1 =>
 let x2 := (!x1.2.1.1)
 bif x2 then (
 some ((), ((false, ()), ())))
 else (
 let x3 := (d.2.1.1.size : Int)
 let x4 := (decide (x3 > (3000 : Int)))
 bif x4 then (
 let x5 := (d.2.1.1.size : Int)
 let x6 := (decide (x5 <= (65535 : Int)))
 bif x6 then (
 some ((), ((true, ()), ())))
 else (
 let x7 := (d.2.1.1.size : Int)
 let x8 := (decide (x7 > (66000 : Int)))
 bif x8 then (
 some ((), ((true, ()), ())))
 else (
 (Hp ((), d.2)).bind fun x9 =>
 (Lq ((), d.2)).bind fun x10 =>
 (Ra ((), x9.2.2)).bind fun x11 =>
 let x12 := (x11.2.1.1 != x10.2.2.1.1)
 bif x12 then (
 some ((), ((false, ()), ())))
 else (
 (Hl ((), d.2)).bind fun x13 =>
 (Ns ((), d.2)).bind fun x14 =>
 let x15 := (x13.2.1.1 != x14.2.1.2.2.2.2.2.2.2.2.2.2.2.1)
 bif x15 then (
 some ((), ((false, ()), ())))
 else (
 let x16 := (x10.2.2.1.1 != (0 : Int))
 bif x16 then (
 some ((), ((x9.2.1.1.isNone, ()), ())))
 else (
 (Q2 ((), (x9.2.1, (x10.2.1, ())))).bind fun x17 =>
 some ((), x17.2)))))))
 else (
 let x18 := (d.2.1.1.size : Int)
 let x19 := (decide (x18 > (66000 : Int)))
 bif x19 then (
 some ((), ((true, ()), ())))
 else (
 (Hp ((), d.2)).bind fun x20 =>
 (Lq ((), d.2)).bind fun x21 =>
 (Ra ((), x20.2.2)).bind fun x22 =>
 let x23 := (x22.2.1.1 != x21.2.2.1.1)
 bif x23 then (
 some ((), ((false, ()), ())))
 else (
 (Hl ((), d.2)).bind fun x24 =>
 (Ns ((), d.2)).bind fun x25 =>
 let x26 := (x24.2.1.1 != x25.2.1.2.2.2.2.2.2.2.2.2.2.2.1)
 bif x26 then (
 some ((), ((false, ()), ())))
 else (
 let x27 := (x21.2.2.1.1 != (0 : Int))
 bif x27 then (
 some ((), ((x20.2.1.1.isNone, ()), ())))
 else (
 (Q2 ((), (x20.2.1, (x21.2.1, ())))).bind fun x28 =>
 some ((), x28.2)))))))
def Ql := T3 ()
theorem ok_law11_ListParses : Dv Tryz.prog ET0 3 V9 Vs Ql :=
 fn0 (E := (((((((E0.add 7 A1b).add 8 Ad2).add 9 A0b).add 10 Bbp).add 11 Ard).add 12 Aum).add 13 Bcg)) (pi := V9) (po := Vs) (Ab (Ab (Ab (Ab (Ab (Ab (Ab A7 (Ae Aw8)) (Ae Aal)) (Ae Awf)) (Ae A7a)) (Ae Aor)) (Ae Aqd)) (Ae A5p)) (fn := Tryz.f3) Tryz.func3 (by kernel_rfl) (by kernel_rfl) [.tmp 2] (by kernel_rfl) rfl rfl rfl [] fun d => by kernel_rfl
end
set_option linter.unusedVariables false
set_option linter.unusedSimpArgs false
def vl : List Int -> Int
 | [] => 0
 | x :: l => x + 65536 * vl l
def okD (l : List Int) : Prop := ∀ x ∈ l, 0 <= x /\ x < 65536
def nrm : List Int -> Prop
 | [] => True
 | x :: l => (0 <= x /\ x < 65536) /\ nrm l /\ (l = [] -> x ≠ 0)
theorem Sj : ∀ {l : List Int}, nrm l -> okD l
 | [], _, x, h => by cases h
 | y :: l, ⟨h1, h2, _⟩, x, h => by
  rcases List.mem_cons.1 h with rfl | h
  ·exact h1
  ·exact Sj h2 x h
theorem Xf {x : Int} {l : List Int} (h : okD (x :: l)) : (0 <= x /\ x < 65536) /\ okD l :=
 ⟨h x (List.mem_cons_self ..), fun y hy => h y (List.mem_cons_of_mem _ hy)⟩
theorem Ab8 : ∀ {l : List Int}, okD l -> 0 <= vl l /\ vl l < 65536 ^ l.length
 | [], _ => by simp [vl]
 | x :: l, h => by
  obtain ⟨h1, h2⟩ := Xf h
  obtain ⟨i1, i2⟩ := Ab8 h2
  have e : (65536 : Int) ^ (x :: l).length = 65536 ^ l.length * 65536 := by rw [List.length_cons, Int.pow_succ]
  rw [e]; unfold vl; omega
theorem A8f : ∀ {l m : List Int}, nrm l -> nrm m -> vl l = vl m -> l = m
 | [], [], _, _, _ => rfl
 | [], y :: m, _, hm, e => by
  have hm' := hm
  obtain ⟨h1, h2, h3⟩ := hm
  have := (Ab8 (Sj h2)).1
  unfold vl at e
  have e0 : vl m = 0 := by omega
  have : ([] : List Int) = m := A8f trivial h2 (by rw [e0]; rfl)
  exact absurd (by omega) (h3 this.symm)
 | x :: l, [], hl, _, e => by
  obtain ⟨h1, h2, h3⟩ := hl
  have := (Ab8 (Sj h2)).1
  unfold vl at e
  have e0 : vl l = 0 := by omega
  have : l = ([] : List Int) := A8f h2 trivial (by rw [e0]; rfl)
  exact absurd (by omega) (h3 this)
 | x :: l, y :: m, hl, hm, e => by
  obtain ⟨h1, h2, _⟩ := hl
  obtain ⟨k1, k2, _⟩ := hm
  unfold vl at e
  have : l = m := A8f h2 k2 (by omega)
  subst this
  rw [show x = y by omega]
def dg (n : Nat) : List Int := if h : n = 0 then [] else ((n % 65536 : Nat) : Int) :: dg (n / 65536)
termination_by n
decreasing_by omega
theorem Abk : dg 0 = [] := by rw [dg]; rfl
theorem A4a {n : Nat} (h : n ≠ 0) : dg n = ((n % 65536 : Nat) : Int) :: dg (n / 65536) := by rw [dg]; rw [dif_neg h]
theorem Tp (n : Nat) : nrm (dg n) /\ vl (dg n) = n := by
 induction n using Nat.strongRecOn with
 | _ n ih =>
  by_cases h : n = 0
  ·subst h; rw [Abk]; exact ⟨trivial, rfl⟩
  ·obtain ⟨i1, i2⟩ := ih (n / 65536) (by omega)
   rw [A4a h]
   refine ⟨⟨by omega, i1, fun e => ?_⟩, ?_⟩
   ·rw [e] at i2; unfold vl at i2; omega
   ·unfold vl; rw [i2]; omega
theorem A8u : ∀ (k n : Nat), n < 65536 ^ k -> (dg n).length <= k
 | 0, n, h => by
  have : n = 0 := by simp at h; exact h
  subst this; rw [Abk]; simp
 | k + 1, n, h => by
  by_cases h0 : n = 0
  ·subst h0; rw [Abk]; simp
  ·rw [A4a h0, List.length_cons]
   have := A8u k (n / 65536) (Nat.div_lt_of_lt_mul (by rw [Nat.mul_comm, <- Nat.pow_succ]; exact h))
   omega
theorem Bjg {l : List Int} (h : nrm l) {n : Nat} (e : vl l = n) : l = dg n := A8f h (Tp n).1 (by rw [(Tp n).2, e])
@[reducible] def big (a : Int) : Bool × (List Int × Unit) := (decide (a < 0), (dg a.natAbs, ()))
def sm (a : Int) : Prop := a.natAbs < 65536 ^ 8
theorem Axp {a : Int} (h : sm a) : (dg a.natAbs).length <= 8 := A8u 8 _ h
theorem Ud {l : List Int} {i : Nat} (h : l.length <= i) : l.drop i = [] := List.drop_eq_nil_of_le h
theorem Anc (l : List Int) (i : Nat) : B6 ((), ((l, ()), (((i : Int), ()), ()))) = some ((), ((l.getD i 0, ()), ())) := by
 simp only [B6, Afi, Ac, Option.bind_some, Option.isNone_none, Option.isNone_some, Option.isSome_none, Option.isSome_some, Bool.not_true, Bool.not_false, cond_true, cond_false, Aa, Ag, Ai, Ah, Aq]
 by_cases h : i < l.length
 ·rw [if_pos (by omega), if_pos (by omega)]
  simp [gd, h]
 ·rw [if_neg (by omega)]
  simp [List.getD_eq_getElem?_getD, List.getElem?_eq_none (Nat.le_of_not_lt h)]
theorem Bmw {n m : Nat} (h : n <= 100) (h' : m <= 100) : decide (((n + m) * 8 : Nat) <= 140737488355328) = true /\ decide (n + m <= 9223372036854775807) = true :=
 ⟨decide_eq_true (by omega), decide_eq_true (by omega)⟩
theorem Bht (b x : Bool) (y : List Int) : ∀ (k : Nat) (a : Int) (d : List Int), a.natAbs < 65536 ^ k -> k <= 8 -> d.length + k <= 50 -> -9223372036854775808 <= a /\ a <= 9223372036854775807 ->
  Evn (fun j => (Li j).1 (((x, ()), (y, (d, ()))), ((a, ()), ((), ((), ((b, ()), ())))))) ((d ++ dg a.natAbs, ()), ((b, ()), ())) := by
 intro k; induction k with
 | zero =>
  intro a d h _ _ _
  have h0 : a = 0 := by simp at h; exact h
  subst h0
  refine Evn.some 1 fun k => ?_
  simp only [Apm, Px, Ac, Option.bind_some, Option.isNone_none, Option.isNone_some, Option.isSome_none, Option.isSome_some, Bool.not_true, Bool.not_false, cond_true, cond_false, Aa, Ag, Ai, Ah]
  rw [if_neg (by simp), show (0 : Int).natAbs = 0 from rfl, Abk, List.append_nil]
 | succ k ih =>
  intro a d h hk hd hr
  by_cases h0 : a = 0
  ·subst h0
   refine Evn.some 1 fun k => ?_
   simp only [Apm, Px, Ac, Option.bind_some, Option.isNone_none, Option.isNone_some, Option.isSome_none, Option.isSome_some, Bool.not_true, Bool.not_false, cond_true, cond_false, Aa, Ag, Ai, Ah]
   rw [if_neg (by simp), show (0 : Int).natAbs = 0 from rfl, Abk, List.append_nil]
  ·have hq : (Kc .i64 a 65536).natAbs = a.natAbs / 65536 /\ (-9223372036854775808 <= Kc .i64 a 65536 /\ Kc .i64 a 65536 <= 9223372036854775807) := by
    rw [A1y (by decide) hr]; split <;> omega
   have hlt : a.natAbs / 65536 < 65536 ^ k := Nat.div_lt_of_lt_mul (by rw [Nat.mul_comm, <- Nat.pow_succ]; exact h)
   have ih' := ih (Kc .i64 a 65536) (d ++ [((a.natAbs % 65536 : Nat) : Int)]) (by rw [hq.1]; exact hlt) (by omega) (by simp; omega) hq.2
   rw [hq.1, List.append_assoc, List.singleton_append, <- A4a (show a.natAbs ≠ 0 by omega)] at ih'
   refine ih'.step fun j => ?_
   simp only [Apm, Px, Ac, Option.bind_some, Option.isNone_none, Option.isNone_some, Option.isSome_none, Option.isSome_some, Bool.not_true, Bool.not_false, cond_true, cond_false, Aa, Ag, Ai, Ah, List.length_singleton]
   rw [if_pos h0]
   obtain ⟨r1, r2⟩ := Bmw (n := d.length) (m := 1) (by omega) (by omega)
   simp only [List.length_cons, List.length_nil, Nat.zero_add, r1, r2, Bool.and_self, cond_true]
   rw [A85 65536 (by decide)]
   by_cases hs : 0 <= a
   ·rw [if_pos hs, if_neg (by omega), J2, show a % 65536 % 18446744073709551616 = ((a.natAbs % 65536 : Nat) : Int) by omega]
   ·rw [if_neg hs]
    by_cases hz : -(-a % 65536) < 0
    ·rw [if_pos hz, A3 (by omega), J2, show (0 - -(-a % 65536)) % 18446744073709551616 = ((a.natAbs % 65536 : Nat) : Int) by omega]
    ·rw [if_neg hz, J2, show -(-a % 65536) % 18446744073709551616 = ((a.natAbs % 65536 : Nat) : Int) by omega]
theorem Ave (a : Int) (h : -9223372036854775808 <= a /\ a <= 9223372036854775807) : N7 ((), ((a, ()), ())) = some ((dg a.natAbs, ()), ((decide (a < 0), ()), ())) := by
 have := Bht (decide (a < 0)) false [] 4 a [] (by omega) (by omega) (by simp) h
 rw [List.nil_append] at this
 refine (this.cast fun k => ?_).lim
 simp only [Ago]
def Om : List Int -> List Int -> Int -> List Int
 | x :: a, y :: b, c => (x + y + c) % 65536 :: Om a b ((x + y + c) / 65536)
 | x :: a, [], c => (x + c) % 65536 :: Om a [] ((x + c) / 65536)
 | [], y :: b, c => (y + c) % 65536 :: Om [] b ((y + c) / 65536)
 | [], [], c => if c > 0 then [c] else []
theorem Aso : ∀ (a b : List Int) (c : Int), okD a -> okD b -> 0 <= c -> vl (Om a b c) = vl a + vl b + c
 | x :: a, y :: b, c, ha, hb, h => by
  obtain ⟨a1, a2⟩ := Xf ha
  obtain ⟨b1, b2⟩ := Xf hb
  unfold Om; unfold vl; rw [Aso a b _ a2 b2 (by omega)]; omega
 | x :: a, [], c, ha, hb, h => by
  obtain ⟨a1, a2⟩ := Xf ha
  unfold Om; unfold vl; rw [Aso a [] _ a2 hb (by omega)]; simp only [vl]; omega
 | [], y :: b, c, ha, hb, h => by
  obtain ⟨b1, b2⟩ := Xf hb
  unfold Om; unfold vl; rw [Aso [] b _ ha b2 (by omega)]; simp only [vl]; omega
 | [], [], c, _, _, h => by unfold Om; split <;> simp [vl] <;> omega
theorem Avo {a b : List Int} {c : Int} (h : Om a b c = []) (hc : 0 <= c) : a = [] /\ b = [] /\ c = 0 := by
 cases a with
 | nil => cases b with
  | nil => unfold Om at h; split at h
           ·cases h
           ·exact ⟨rfl, rfl, by omega⟩
  | cons y b => unfold Om at h; cases h
 | cons x a => cases b <;> (unfold Om at h; cases h)
theorem Am7 : ∀ (a b : List Int) (c : Int), nrm a -> nrm b -> 0 <= c -> c <= 1 -> nrm (Om a b c)
 | x :: a, y :: b, c, ⟨a1, a2, a3⟩, ⟨b1, b2, b3⟩, h, h' => by
  unfold Om
  refine ⟨by omega, Am7 a b _ a2 b2 (by omega) (by omega), fun e => ?_⟩
  obtain ⟨rfl, rfl, e⟩ := Avo e (by omega)
  have := a3 rfl; omega
 | x :: a, [], c, ⟨a1, a2, a3⟩, hb, h, h' => by
  unfold Om
  refine ⟨by omega, Am7 a [] _ a2 hb (by omega) (by omega), fun e => ?_⟩
  obtain ⟨rfl, _, e⟩ := Avo e (by omega)
  have := a3 rfl; omega
 | [], y :: b, c, ha, ⟨b1, b2, b3⟩, h, h' => by
  unfold Om
  refine ⟨by omega, Am7 [] b _ ha b2 (by omega) (by omega), fun e => ?_⟩
  obtain ⟨_, rfl, e⟩ := Avo e (by omega)
  have := b3 rfl; omega
 | [], [], c, _, _, h, h' => by
  unfold Om; split
  ·exact ⟨by omega, trivial, fun _ => by omega⟩
  ·trivial
theorem Auu {a b : List Int} {c : Int} {i : Nat} (ha : okD a) (hb : okD b) (hc : 0 <= c /\ c <= 1) (h : i < a.length \/ i < b.length \/ 0 < c) :
  Om (a.drop i) (b.drop i) c = (a.getD i 0 + b.getD i 0 + c) % 65536 :: Om (a.drop (i + 1)) (b.drop (i + 1)) ((a.getD i 0 + b.getD i 0 + c) / 65536) := by
 by_cases h1 : i < a.length
 ·rw [List.drop_eq_getElem_cons h1, show a.getD i 0 = a[i] by simp [h1]]
  by_cases h2 : i < b.length
  ·rw [List.drop_eq_getElem_cons h2, show b.getD i 0 = b[i] by simp [h2], Om]
  ·rw [Ud (i := i) (l := b) (by omega), Ud (i := i + 1) (l := b) (by omega), show b.getD i 0 = 0 by simp [List.getD_eq_getElem?_getD, List.getElem?_eq_none (Nat.le_of_not_lt h2)]]
   rw [Int.add_zero, Om]
 ·rw [Ud (i := i) (l := a) (by omega), Ud (i := i + 1) (l := a) (by omega), show a.getD i 0 = 0 by simp [List.getD_eq_getElem?_getD, List.getElem?_eq_none (Nat.le_of_not_lt h1)]]
  by_cases h2 : i < b.length
  ·rw [List.drop_eq_getElem_cons h2, show b.getD i 0 = b[i] by simp [h2], Int.zero_add, Om]
  ·rw [Ud (i := i) (l := b) (by omega), Ud (i := i + 1) (l := b) (by omega), show b.getD i 0 = 0 by simp [List.getD_eq_getElem?_getD, List.getElem?_eq_none (Nat.le_of_not_lt h2)]]
   rw [show (0 : Int) + 0 + c = c by omega]
   rw [Om, if_pos (by omega), Om, if_neg (by omega), show c % 65536 = c by omega]
theorem Vu {l : List Int} (h : okD l) (i : Nat) : 0 <= l.getD i 0 /\ l.getD i 0 < 65536 := by
 by_cases h1 : i < l.length
 ·rw [show l.getD i 0 = l[i] by simp [h1]]; exact h _ (List.getElem_mem _)
 ·rw [show l.getD i 0 = 0 by simp [List.getD_eq_getElem?_getD, List.getElem?_eq_none (Nat.le_of_not_lt h1)]]; omega
theorem Bmf {a b : List Int} (ha : okD a) (hb : okD b) : ∀ (k : Nat) (out : List Int) (c : Int) (i : Nat), 0 <= c /\ c <= 1 -> a.length <= i + k -> b.length <= i + k -> out.length + k <= 50 -> i + k <= 50 ->
  Evn (fun j => (Eg j).1 ((out, ()), ((a, ()), ((b, ()), ((), ((c, ()), (((i : Int), ()), ()))))))) ((out ++ Om (a.drop i) (b.drop i) c, ()), ((), ())) := by
 have stop : ∀ (out : List Int) (c : Int) (i : Nat), ¬(i < a.length \/ i < b.length \/ 0 < c) -> 0 <= c /\ c <= 1 -> Evn (fun j => (Eg j).1 ((out, ()), ((a, ()), ((b, ()), ((), ((c, ()), (((i : Int), ()), ()))))))) ((out ++ Om (a.drop i) (b.drop i) c, ()), ((), ())) := by
  intro out c i h hc
  rw [Ud (i := i) (l := a) (by omega), Ud (i := i) (l := b) (by omega), show Om [] [] c = [] by rw [Om, if_neg (by omega)], List.append_nil]
  refine Evn.some 1 fun k => ?_
  simp only [Aqs, O4, Ac, Option.bind_some, Option.isNone_none, Option.isNone_some, Option.isSome_none, Option.isSome_some, Bool.not_true, Bool.not_false, cond_true, cond_false, Aa, Ag, Ai, Ah, gt_iff_lt]
  rw [if_neg (by omega), if_neg (by omega), if_neg (by omega)]
 have step : ∀ (out : List Int) (c : Int) (i : Nat) (R : List Int), (i < a.length \/ i < b.length \/ 0 < c) -> 0 <= c /\ c <= 1 -> out.length <= 50 -> i <= 50 ->
   Evn (fun j => (Eg j).1 ((out ++ [(a.getD i 0 + b.getD i 0 + c) % 65536], ()), ((a, ()), ((b, ()), ((), (((a.getD i 0 + b.getD i 0 + c) / 65536, ()), ((((i + 1 : Nat) : Int), ()), ()))))))) ((R, ()), ((), ())) ->
   Evn (fun j => (Eg j).1 ((out, ()), ((a, ()), ((b, ()), ((), ((c, ()), (((i : Int), ()), ()))))))) ((R, ()), ((), ())) := by
  intro out c i R h hc ho hi H
  have da := Vu ha i
  have db := Vu hb i
  refine H.step fun k => ?_
  simp only [Aqs, O4, Ac, Option.bind_some, Option.isNone_none, Option.isNone_some, Option.isSome_none, Option.isSome_some, Bool.not_true, Bool.not_false, cond_true, cond_false, Aa, Ag, Ai, Ah, gt_iff_lt, Anc]
  obtain ⟨r1, r2⟩ := Bmw (n := out.length) (m := 1) (by omega) (by omega)
  simp only [List.length_cons, List.length_nil, Nat.zero_add, r1, r2, Bool.and_self, cond_true]
  generalize a.getD i 0 = x at *
  generalize b.getD i 0 = y at *
  have e1 : A4 .u64 (A4 .u64 x y) c = x + y + c := by rw [Ah6, Ah6]; omega
  have e2 : Int.tmod (x + y + c) 65536 = (x + y + c) % 65536 := Aef (by omega)
  have e3 : Kc .u64 (x + y + c) 65536 = (x + y + c) / 65536 := by
   unfold Kc; rw [Int.tdiv_eq_ediv_of_nonneg (by omega), R2]; omega
  have e4 : A4 .i64 (i : Int) 1 = ((i + 1 : Nat) : Int) := by rw [Ap (by omega)]; rfl
  simp only [e1, e2, e3, e4]
  by_cases c1 : i < a.length
  ·rw [if_pos (by omega)]
  ·rw [if_neg (by omega)]
   by_cases c2 : i < b.length
   ·rw [if_pos (by omega)]
   ·rw [if_neg (by omega), if_pos (by omega)]
 intro k; induction k with
 | zero =>
  intro out c i hc h1 h2 h3 h4
  by_cases h : 0 < c
  ·rw [Auu ha hb hc (.inr (.inr h))]
   refine step out c i _ (.inr (.inr h)) hc (by omega) (by omega) ?_
   have e : a.getD i 0 = 0 /\ b.getD i 0 = 0 := by
    constructor <;> rw [List.getD_eq_getElem?_getD, List.getElem?_eq_none (by omega)] <;> rfl
   have q : (a.getD i 0 + b.getD i 0 + c) / 65536 = 0 := by rw [e.1, e.2]; omega
   rw [q, List.append_cons out _ (Om (a.drop (i + 1)) (b.drop (i + 1)) 0)]
   exact stop (out ++ [(a.getD i 0 + b.getD i 0 + c) % 65536]) 0 (i + 1) (by omega) (by omega)
  ·exact stop out c i (by omega) hc
 | succ k ih =>
  intro out c i hc h1 h2 h3 h4
  by_cases h : i < a.length \/ i < b.length \/ 0 < c
  ·rw [Auu ha hb hc h]
   refine step out c i _ h hc (by omega) (by omega) ?_
   rw [List.append_cons out _ (Om (a.drop (i + 1)) (b.drop (i + 1)) ((a.getD i 0 + b.getD i 0 + c) / 65536))]
   have da := Vu ha i
   have db := Vu hb i
   exact ih (out ++ [(a.getD i 0 + b.getD i 0 + c) % 65536]) ((a.getD i 0 + b.getD i 0 + c) / 65536) (i + 1) (by omega) (by omega) (by omega) (by simp; omega) (by omega)
  ·exact stop out c i h hc
theorem A22 (m n : Nat) (hm : (dg m).length <= 40) (hn : (dg n).length <= 40) : Se ((), ((dg m, ()), ((dg n, ()), ()))) = some ((dg (m + n), ()), ((), ())) := by
 obtain ⟨n1, v1⟩ := Tp m
 obtain ⟨n2, v2⟩ := Tp n
 have := Bmf (Sj n1) (Sj n2) 40 [] 0 0 (by omega) (by omega) (by omega) (by simp) (by omega)
 rw [List.drop_zero, List.drop_zero, List.nil_append, Bjg (n := m + n) (Am7 _ _ 0 n1 n2 (by omega) (by omega)) (by rw [Aso _ _ 0 (Sj n1) (Sj n2) (by omega), v1, v2]; omega)] at this
 refine (this.cast fun k => ?_).lim
 simp only [Yr]; rfl
theorem Xl : ∀ (l : List Int) (i : Nat), vl (l.take (i + 1)) = vl (l.take i) + 65536 ^ i * l.getD i 0
 | [], i => by simp [vl]
 | x :: l, 0 => by simp [vl]
 | x :: l, i + 1 => by
  rw [List.take_succ_cons, List.take_succ_cons]; unfold vl
  rw [Xl l i, List.getD_cons_succ, Int.mul_add, <- Int.mul_assoc, Int.mul_comm 65536 (65536 ^ i), show (65536 : Int) ^ (i + 1) = 65536 ^ i * 65536 from Int.pow_succ ..]; omega
theorem An0 {l : List Int} (h : okD l) (i : Nat) : 0 <= vl (l.take i) /\ vl (l.take i) < 65536 ^ i := by
 induction i with
 | zero => simp [vl]
 | succ i ih =>
  have d := Vu h i
  have hp : (0 : Int) < 65536 ^ i := Int.pow_pos (by decide)
  rw [Xl, show (65536 : Int) ^ (i + 1) = 65536 ^ i * 65536 from Int.pow_succ ..]
  generalize l.getD i 0 = x at *
  generalize (65536 : Int) ^ i = q at *
  have h1 : 0 <= q * x := Int.mul_nonneg (by omega) (by omega)
  have h2 : q * x <= q * 65535 := Int.mul_le_mul_of_nonneg_left (by omega) (by omega)
  omega
theorem Blx {a b : List Int} (ha : okD a) (hb : okD b) : ∀ (i : Nat), i <= 60 -> Evn (fun j => (Ib j).1 ((), ((a, ()), ((b, ()), ((((i : Int) - 1), ()), ()))))) ((), ((decide (vl (a.take i) < vl (b.take i)), ()), ())) := by
 intro i; induction i with
 | zero =>
  intro _
  refine Evn.some 1 fun k => ?_
  simp only [Afb, Lb, Ac, Option.bind_some, Option.isNone_none, Option.isNone_some, Option.isSome_none, Option.isSome_some, Bool.not_true, Bool.not_false, cond_true, cond_false, Aa, Ag, Ai, Ah, ge_iff_le]
  rw [if_neg (by omega)]
  simp
 | succ i ih =>
  intro hi
  have e : ((i + 1 : Nat) : Int) - 1 = (i : Int) := by omega
  have da := Vu ha i
  have db := Vu hb i
  have ra := An0 ha i
  have rb := An0 hb i
  rw [e, Xl, Xl]
  have hp : (0 : Int) < 65536 ^ i := Int.pow_pos (by decide)
  by_cases h : a.getD i 0 = b.getD i 0
  ·have := ih (by omega)
   rw [h]
   rw [show decide (vl (a.take i) + 65536 ^ i * b.getD i 0 < vl (b.take i) + 65536 ^ i * b.getD i 0) = decide (vl (a.take i) < vl (b.take i)) by simp only [decide_eq_decide]; omega]
   refine this.step fun k => ?_
   simp only [Afb, Lb, Ac, Option.bind_some, Option.isNone_none, Option.isNone_some, Option.isSome_none, Option.isSome_some, Bool.not_true, Bool.not_false, cond_true, cond_false, Aa, Ag, Ai, Ah, ge_iff_le, Anc]
   rw [if_pos (by omega), if_neg (by simpa using h), A3 (by omega)]
  ·refine Evn.some 1 fun k => ?_
   simp only [Afb, Lb, Ac, Option.bind_some, Option.isNone_none, Option.isNone_some, Option.isSome_none, Option.isSome_some, Bool.not_true, Bool.not_false, cond_true, cond_false, Aa, Ag, Ai, Ah, ge_iff_le, Anc]
   rw [if_pos (by omega), if_pos (by simpa using h)]
   congr 4
   simp only [decide_eq_decide]
   generalize a.getD i 0 = x at *
   generalize b.getD i 0 = y at *
   generalize (65536 : Int) ^ i = p at *
   generalize vl (a.take i) = u at *
   generalize vl (b.take i) = v at *
   constructor
   ·intro hxy
    have : p * x + p <= p * y := by rw [show p * x + p = p * (x + 1) by rw [Int.mul_add, Int.mul_one]]; exact Int.mul_le_mul_of_nonneg_left (by omega) (by omega)
    omega
   ·intro huv
    by_cases hxy : x < y
    ·exact hxy
    ·have : p * y + p <= p * x := by rw [show p * y + p = p * (y + 1) by rw [Int.mul_add, Int.mul_one]]; exact Int.mul_le_mul_of_nonneg_left (by omega) (by omega)
     omega
theorem At7 (m n : Nat) (hm : (dg m).length <= 40) (hn : (dg n).length <= 40) : N6 ((), ((dg m, ()), ((dg n, ()), ()))) = some ((), ((decide (m < n), ()), ())) := by
 obtain ⟨n1, v1⟩ := Tp m
 obtain ⟨n2, v2⟩ := Tp n
 have := Blx (Sj n1) (Sj n2) (max (dg m).length (dg n).length) (by omega)
 rw [List.take_of_length_le (by omega), List.take_of_length_le (by omega), v1, v2, show decide ((m : Int) < n) = decide (m < n) by simp] at this
 refine (this.cast fun k => ?_).lim
 simp only [Zp]
 have e : Eh .i64 (if ((dg n).length : Int) > ((dg m).length : Int) then ((dg n).length : Int) else ((dg m).length : Int)) 1 = ((max (dg m).length (dg n).length : Nat) : Int) - 1 := by
  rw [A3 (by split <;> omega)]; split <;> omega
 rw [e]
def A1n : List Int -> List Int
 | [] => []
 | x :: l => if A1n l = [] /\ x = 0 then [] else x :: A1n l
theorem A4c : ∀ (l : List Int), A1n (l ++ [0]) = A1n l
 | [] => by simp [A1n]
 | x :: l => by rw [List.cons_append]; unfold A1n; rw [A4c l]
theorem Be2 : ∀ (l : List Int) {z : Int}, z ≠ 0 -> A1n (l ++ [z]) = l ++ [z]
 | [], z, h => by simp [A1n, h]
 | x :: l, z, h => by rw [List.cons_append]; unfold A1n; rw [Be2 l h, if_neg (by simp)]
theorem A76 : ∀ (l : List Int), vl (A1n l) = vl l
 | [] => rfl
 | x :: l => by
  unfold A1n
  have := A76 l
  split
  ·rename_i h; rw [h.1] at this; unfold vl; rw [<- this, h.2]; simp [vl]
  ·unfold vl; rw [this]
theorem Az1 : ∀ {l : List Int}, okD l -> nrm (A1n l)
 | [], _ => trivial
 | x :: l, h => by
  obtain ⟨h1, h2⟩ := Xf h
  unfold A1n
  split
  ·trivial
  ·rename_i h'
   exact ⟨h1, Az1 h2, fun e e0 => h' ⟨e, e0⟩⟩
theorem A0g : ∀ (k : Nat) (l : List Int), l.length = k -> k <= 100 -> Evn (fun j => (Jh j).1 ((), ((l, ()), ()))) ((), ((A1n l, ()), ())) := by
 intro k; induction k with
 | zero =>
  intro l h _
  obtain rfl := List.eq_nil_of_length_eq_zero h
  refine Evn.some 1 fun k => ?_
  simp only [Ald, M0, Ac, Option.bind_some, Option.isNone_none, Option.isNone_some, Option.isSome_none, Option.isSome_some, Bool.not_true, Bool.not_false, cond_true, cond_false, Aa, Ag, Ai, Ah, gt_iff_lt, List.length_nil]
  rw [if_neg (by simp)]; rfl
 | succ k ih =>
  intro l h hk
  have hl : l = l.take k ++ [l[k]'(by omega)] := by
   conv => lhs; rw [<- List.take_append_drop k l, List.drop_eq_getElem_cons (by omega), List.drop_eq_nil_of_le (by omega)]
  have hg : gd (.int .u64) l (k : Int) = l[k]'(by omega) := by simp [gd, show k < l.length by omega]
  have e1 : Eh .i64 (l.length : Int) 1 = (k : Int) := by rw [A3 (by omega)]; omega
  by_cases h0 : l[k]'(by omega) = 0
  ·have := ih (l.take k) (by simp; omega) (by omega)
   rw [show A1n (l.take k) = A1n l by conv => rhs; rw [hl, h0, A4c]] at this
   refine this.step fun j => ?_
   simp only [Ald, M0, Ac, Option.bind_some, Option.isNone_none, Option.isNone_some, Option.isSome_none, Option.isSome_some, Bool.not_true, Bool.not_false, cond_true, cond_false, Aa, Ag, Ai, Ah, gt_iff_lt, e1, hg, Aq]
   rw [if_pos (by omega), if_pos (by omega), if_pos h0, if_pos (by omega)]
   rw [show (Int.toNat (k : Int)) = k by omega, show Int.toNat 0 = 0 from rfl, List.drop_zero]
  ·refine Evn.some 1 fun j => ?_
   simp only [Ald, M0, Ac, Option.bind_some, Option.isNone_none, Option.isNone_some, Option.isSome_none, Option.isSome_some, Bool.not_true, Bool.not_false, cond_true, cond_false, Aa, Ag, Ai, Ah, gt_iff_lt, e1, hg, Aq]
   rw [if_pos (by omega), if_pos (by omega), if_neg h0]
   conv => rhs; rw [hl, Be2 _ h0, <- hl]
def Sf : List Int -> List Int -> Int -> List Int
 | [], _, _ => []
 | x :: a, b, c => (65536 + x - b.headD 0 - c) % 65536 :: Sf a b.tail (1 - (65536 + x - b.headD 0 - c) / 65536)
theorem Ayn : ∀ (a b : List Int) (c : Int), (Sf a b c).length = a.length
 | [], _, _ => rfl
 | x :: a, b, c => by unfold Sf; rw [List.length_cons, List.length_cons, Ayn]
theorem Atl : ∀ (a b : List Int) (c : Int), okD (Sf a b c)
 | [], _, _, x, h => by cases h
 | x :: a, b, c, y, h => by
  unfold Sf at h
  rcases List.mem_cons.1 h with rfl | h
  ·omega
  ·exact Atl a _ _ y h
theorem Bk5 : okD [] := fun x h => by cases h
theorem Bdn {b : List Int} : vl b = b.headD 0 + 65536 * vl b.tail := by cases b <;> simp [vl]
theorem A97 {b : List Int} (h : okD b) : (0 <= b.headD 0 /\ b.headD 0 < 65536) /\ okD b.tail := by
 cases b with
 | nil => exact ⟨by simp, Bk5⟩
 | cons y b => exact Xf h
theorem A4r : ∀ (a b : List Int) (c : Int), okD a -> okD b -> 0 <= c /\ c <= 1 -> ∃ q : Int, vl (Sf a b c) = vl a - vl b - c + 65536 ^ a.length * q
 | [], b, c, _, _, _ => ⟨vl b + c, by simp [Sf, vl]; omega⟩
 | x :: a, b, c, ha, hb, hc => by
  obtain ⟨a1, a2⟩ := Xf ha
  obtain ⟨b1, b2⟩ := A97 hb
  obtain ⟨q, hq⟩ := A4r a b.tail (1 - (65536 + x - b.headD 0 - c) / 65536) a2 b2 (by omega)
  refine ⟨q, ?_⟩
  have e1 : vl (x :: a) = x + 65536 * vl a := rfl
  have e2 : vl (Sf (x :: a) b c) = (65536 + x - b.headD 0 - c) % 65536 + 65536 * vl (Sf a b.tail (1 - (65536 + x - b.headD 0 - c) / 65536)) := by rw [Sf]; rfl
  rw [e2, e1, hq, List.length_cons, show (65536 : Int) ^ (a.length + 1) = 65536 ^ a.length * 65536 from Int.pow_succ .., Bdn (b := b), Int.mul_comm (65536 ^ a.length) 65536, Int.mul_assoc]
  generalize 65536 ^ a.length * q = w
  omega
theorem Apa (b : List Int) (i : Nat) : (b.drop i).headD 0 = b.getD i 0 /\ (b.drop i).tail = b.drop (i + 1) := by
 constructor
 ·rw [List.headD_eq_head?_getD, List.head?_drop, List.getD_eq_getElem?_getD]
 ·rw [List.tail_drop]
theorem Bhv {a b : List Int} (ha : okD a) (hb : okD b) (hl : a.length <= 50) : ∀ (k : Nat) (out : List Int) (c : Int) (i : Nat), 0 <= c /\ c <= 1 -> i + k = a.length -> out.length = i ->
  Evn (fun j => (Gb j).1 ((out, ()), ((a, ()), ((b, ()), ((), ((c, ()), (((i : Int), ()), ()))))))) ((), ((A1n (out ++ Sf (a.drop i) (b.drop i) c), ()), ())) := by
 intro k; induction k with
 | zero =>
  intro out c i hc h1 h2
  rw [Ud (i := i) (l := a) (by omega)]
  obtain ⟨n, hn⟩ := A0g out.length out rfl (by omega)
  have hcut : Q3 ((), ((out, ()), ())) = some ((), ((A1n out, ()), ())) := by
   refine ((A0g out.length out rfl (by omega)).cast fun k => ?_).lim
   simp only [T4]
  refine Evn.some 1 fun k => ?_
  simp only [Am2, Nd, Ac, Option.bind_some, Option.isNone_none, Option.isNone_some, Option.isSome_none, Option.isSome_some, Bool.not_true, Bool.not_false, cond_true, cond_false, Aa, Ag, Ai, Ah]
  rw [if_neg (by omega), hcut]
  simp only [Option.bind_some, Sf, List.append_nil]
 | succ k ih =>
  intro out c i hc h1 h2
  have da := Vu ha i
  have db := Vu hb i
  have hi : i < a.length := by omega
  have e : a.drop i = a.getD i 0 :: a.drop (i + 1) := by rw [List.drop_eq_getElem_cons hi, show a.getD i 0 = a[i] by simp [hi]]
  rw [e, show Sf (a.getD i 0 :: a.drop (i + 1)) (b.drop i) c = (65536 + a.getD i 0 - b.getD i 0 - c) % 65536 :: Sf (a.drop (i + 1)) (b.drop (i + 1)) (1 - (65536 + a.getD i 0 - b.getD i 0 - c) / 65536) by
   conv => lhs; unfold Sf
   rw [(Apa b i).1, (Apa b i).2], List.append_cons out _ (Sf _ _ _)]
  have := ih (out ++ [(65536 + a.getD i 0 - b.getD i 0 - c) % 65536]) (1 - (65536 + a.getD i 0 - b.getD i 0 - c) / 65536) (i + 1) (by omega) (by omega) (by simp; omega)
  refine this.step fun k => ?_
  simp only [Am2, Nd, Ac, Option.bind_some, Option.isNone_none, Option.isNone_some, Option.isSome_none, Option.isSome_some, Bool.not_true, Bool.not_false, cond_true, cond_false, Aa, Ag, Ai, Ah, Anc]
  obtain ⟨r1, r2⟩ := Bmw (n := out.length) (m := 1) (by omega) (by omega)
  simp only [List.length_cons, List.length_nil, Nat.zero_add, r1, r2, Bool.and_self, cond_true]
  rw [if_pos (by omega)]
  generalize a.getD i 0 = x at *
  generalize b.getD i 0 = y at *
  have e1 : Eh .u64 (Eh .u64 (A4 .u64 65536 x) y) c = 65536 + x - y - c := by rw [Ah6, Ask, Ask]; omega
  have e2 : Int.tmod (65536 + x - y - c) 65536 = (65536 + x - y - c) % 65536 := Aef (by omega)
  have e3 : Kc .u64 (65536 + x - y - c) 65536 = (65536 + x - y - c) / 65536 := by
   unfold Kc; rw [Int.tdiv_eq_ediv_of_nonneg (by omega), R2]; omega
  have e5 : Eh .u64 1 ((65536 + x - y - c) / 65536) = 1 - (65536 + x - y - c) / 65536 := by rw [Ask]; omega
  have e4 : A4 .i64 (i : Int) 1 = ((i + 1 : Nat) : Int) := by rw [Ap (by omega)]; rfl
  simp only [e1, e2, e3, e4, e5]
theorem Axt (m n : Nat) (h : n <= m) (hm : (dg m).length <= 40) (hn : (dg n).length <= 40) : Pc ((), ((dg m, ()), ((dg n, ()), ()))) = some ((), ((dg (m - n), ()), ())) := by
 obtain ⟨n1, v1⟩ := Tp m
 obtain ⟨n2, v2⟩ := Tp n
 have := Bhv (Sj n1) (Sj n2) (by omega) (dg m).length [] 0 0 (by omega) (by omega) rfl
 have hv : vl (A1n (Sf (dg m) (dg n) 0)) = ((m - n : Nat) : Int) := by
  rw [A76]
  obtain ⟨q, hq⟩ := A4r (dg m) (dg n) 0 (Sj n1) (Sj n2) (by omega)
  have r1 := Ab8 (Atl (dg m) (dg n) 0)
  rw [Ayn] at r1
  have r2 := Ab8 (Sj n1)
  rw [v1] at r2
  rw [v1, v2] at hq
  rw [hq] at r1 ⊢
  generalize (65536 : Int) ^ (dg m).length = p at *
  have : q = 0 := by
   rcases Int.lt_trichotomy q 0 with c | c | c
   ·have : p * q <= p * (-1) := Int.mul_le_mul_of_nonneg_left (by omega) (by omega)
    omega
   ·exact c
   ·have : p * 1 <= p * q := Int.mul_le_mul_of_nonneg_left (by omega) (by omega)
    omega
  subst this
  simp; omega
 rw [List.drop_zero, List.drop_zero, List.nil_append, Bjg (Az1 (Atl _ _ _)) hv] at this
 refine (this.cast fun k => ?_).lim
 simp only [U6]; rfl
theorem Bj9 {n : Nat} : dg n = [] ↔ n = 0 := by
 constructor
 ·intro h; by_cases c : n = 0
  ·exact c
  ·rw [A4a c] at h; cases h
 ·rintro rfl; exact Abk
theorem Bik (a b : Int) (ha : sm a) (hb : sm b) : So ((), (big a, (big b, ()))) = some ((), (big (a + b), ())) := by
 have la := Axp ha
 have lb := Axp hb
 simp only [So, Aiz, big]
 by_cases c : decide (a < 0) = decide (b < 0)
 ·rw [show (decide (a < 0) == decide (b < 0)) = true by rw [c]; simp, A22 a.natAbs b.natAbs (by omega) (by omega)]
  simp only [cond_true, Option.bind_some]
  simp only [decide_eq_decide] at c
  rw [show (a + b).natAbs = a.natAbs + b.natAbs by omega, show decide (a + b < 0) = decide (a < 0) by simp only [decide_eq_decide]; omega]
 ·rw [show (decide (a < 0) == decide (b < 0)) = false by simpa using c, At7 a.natAbs b.natAbs (by omega) (by omega)]
  simp only [decide_eq_decide] at c
  simp only [cond_false, Option.bind_some]
  by_cases h : a.natAbs < b.natAbs
  ·rw [decide_eq_true h, Axt b.natAbs a.natAbs (by omega) (by omega) (by omega)]
   simp only [cond_true, Option.bind_some]
   rw [show (a + b).natAbs = b.natAbs - a.natAbs by omega, show decide (a + b < 0) = decide (b < 0) by simp only [decide_eq_decide]; omega]
  ·rw [decide_eq_false h, Axt a.natAbs b.natAbs (by omega) (by omega) (by omega)]
   simp only [cond_false, Option.bind_some]
   rw [show (a + b).natAbs = a.natAbs - b.natAbs by omega]
   by_cases hs : a < 0
   ·rw [decide_eq_true hs]
    simp only [cond_true, gt_iff_lt]
    have : decide ((0 : Int) < ((dg (a.natAbs - b.natAbs)).length : Int)) = decide (a + b < 0) := by
     simp only [decide_eq_decide]
     constructor
     ·intro h0
      have : dg (a.natAbs - b.natAbs) ≠ [] := fun e => by rw [e] at h0; simp at h0
      rw [Ne, Bj9] at this; omega
     ·intro h0
      have : dg (a.natAbs - b.natAbs) ≠ [] := by rw [Ne, Bj9]; omega
      have := List.length_pos_iff.2 this; omega
    rw [this]
   ·rw [decide_eq_false hs]
    simp only [cond_false]
    rw [decide_eq_false (show ¬ a + b < 0 by omega)]
theorem A8h (a b : Int) (ha : sm a) (hb : sm b) : Oh ((), (big a, (big b, ()))) = some ((), ((decide (a < b), ()), ())) := by
 have la := Axp ha
 have lb := Axp hb
 simp only [Oh, Ai3, big]
 by_cases h1 : a < 0 <;> by_cases h2 : b < 0 <;> simp only [h1, h2, decide_true, decide_false, Bool.not_true, Bool.not_false, beq_self_eq_true, show (true == false) = false from rfl, show (false == true) = false from rfl, cond_true, cond_false]
 ·rw [At7 b.natAbs a.natAbs (by omega) (by omega)]
  simp only [Option.bind_some]
  rw [show decide (b.natAbs < a.natAbs) = decide (a < b) by simp only [decide_eq_decide]; omega]
 ·rw [decide_eq_true (show a < b by omega)]
 ·rw [decide_eq_false (show ¬ a < b by omega)]
 ·rw [At7 a.natAbs b.natAbs (by omega) (by omega)]
  simp only [Option.bind_some]
  rw [show decide (a.natAbs < b.natAbs) = decide (a < b) by simp only [decide_eq_decide]; omega]
theorem Bhs (a : Int) (ha : sm a) (hr : -9223372036854775808 <= a /\ a <= 9223372036854775807) : ∀ (i : Nat) (n : Int), i <= (dg a.natAbs).length -> n = (if a < 0 then -vl ((dg a.natAbs).drop i) else vl ((dg a.natAbs).drop i)) ->
  Evn (fun j => (Ge j).1 ((big a, ()), ((), ((n, ()), ((((i : Int) - 1), ()), ()))))) ((), ((a, ()), ((0, ()), ()))) := by
 obtain ⟨nr, vv⟩ := Tp a.natAbs
 have hok := Sj nr
 have hl := Axp ha
 intro i; induction i with
 | zero =>
  intro n _ h
  rw [List.drop_zero, vv] at h
  have : n = a := by rw [h]; split <;> omega
  subst this
  refine Evn.some 1 fun k => ?_
  simp only [Aa8, Kb, Ac, Option.bind_some, Option.isNone_none, Option.isNone_some, Option.isSome_none, Option.isSome_some, Bool.not_true, Bool.not_false, cond_true, cond_false, Aa, Ag, Ai, Ah, ge_iff_le]
  rw [if_neg (by omega)]
 | succ i ih =>
  intro n hi h
  have hi' : i < (dg a.natAbs).length := by omega
  have hg : gd (.int .u64) (dg a.natAbs) (i : Int) = (dg a.natAbs)[i] := by simp [gd, hi']
  have hd : (dg a.natAbs).drop i = (dg a.natAbs)[i] :: (dg a.natAbs).drop (i + 1) := List.drop_eq_getElem_cons hi'
  have hx := hok _ (List.getElem_mem hi')
  have hv : vl ((dg a.natAbs).drop i) = (dg a.natAbs)[i] + 65536 * vl ((dg a.natAbs).drop (i + 1)) := by rw [hd]; rfl
  have okd : ∀ j, okD ((dg a.natAbs).drop j) := fun j x hx => hok x (List.mem_of_mem_drop hx)
  have hle : ∀ j, vl ((dg a.natAbs).drop j) <= a.natAbs := by
   intro j; rw [<- vv]
   induction j with
   | zero => simp
   | succ j ihj =>
    have : vl ((dg a.natAbs).drop j) = ((dg a.natAbs).drop j).headD 0 + 65536 * vl ((dg a.natAbs).drop (j + 1)) := by
     rw [Bdn, (Apa _ j).2]
    have := (A97 (okd j)).1
    have := (Ab8 (okd (j + 1))).1
    omega
  have h0 := hle i
  have h1 := (Ab8 (okd (i + 1))).1
  rw [hv] at h0
  have e : ((i + 1 : Nat) : Int) - 1 = (i : Int) := by omega
  rw [e]
  have e4 : Eh .i64 (i : Int) 1 = (i : Int) - 1 := A3 (by omega)
  have e5 : Da .i64 ((dg a.natAbs)[i]) = (dg a.natAbs)[i] := Au3 (by omega)
  by_cases hs : a < 0
  ·have := ih (n * 65536 - (dg a.natAbs)[i]) (by omega) (by rw [if_pos hs, hv]; rw [if_pos hs] at h; omega)
   refine this.step fun k => ?_
   rw [if_pos hs] at h
   simp only [Aa8, Kb, Ac, Option.bind_some, Option.isNone_none, Option.isNone_some, Option.isSome_none, Option.isSome_some, Bool.not_true, Bool.not_false, cond_true, cond_false, Aa, Ag, Ai, Ah, ge_iff_le, hg, e4, e5, Aq]
   rw [if_pos (by omega), if_pos hs, if_pos (by omega), Hy (by omega), A3 (by omega)]
  ·have := ih (n * 65536 + (dg a.natAbs)[i]) (by omega) (by rw [if_neg hs, hv]; rw [if_neg hs] at h; omega)
   refine this.step fun k => ?_
   rw [if_neg hs] at h
   simp only [Aa8, Kb, Ac, Option.bind_some, Option.isNone_none, Option.isNone_some, Option.isSome_none, Option.isSome_some, Bool.not_true, Bool.not_false, cond_true, cond_false, Aa, Ag, Ai, Ah, ge_iff_le, hg, e4, e5, Aq]
   rw [if_pos (by omega), if_neg hs, if_pos (by omega), Hy (by omega), Ap (by omega)]
theorem Bcy {a : Int} (h : -340282366920938463463374607431768211455 <= a /\ a <= 340282366920938463463374607431768211455) : sm a := by
 unfold sm
 rw [show (65536 : Nat) ^ 8 = 340282366920938463463374607431768211456 by decide]
 omega
theorem Bdv (a : Int) (ha : sm a) : Lp ((), (big a, ())) = some ((), ((if -9223372036854775808 <= a /\ a <= 9223372036854775807 then a else 0, ()), ((if -9223372036854775808 <= a /\ a <= 9223372036854775807 then 0 else 5, ()), ()))) := by
 have l1 := A8h a (-9223372036854775808) ha (Bcy (by omega))
 have l2 := A8h 9223372036854775807 a (Bcy (by omega)) ha
 by_cases h : -9223372036854775808 <= a /\ a <= 9223372036854775807
 ·have hl := Axp ha
  rw [if_pos h, if_pos h]
  have := Bhs a ha h (dg a.natAbs).length 0 (Nat.le_refl _) (by rw [List.drop_length]; simp [vl])
  refine (this.cast fun k => ?_).lim
  simp only [Or, Ave _ (show -9223372036854775808 <= (-9223372036854775808 : Int) /\ (-9223372036854775808 : Int) <= 9223372036854775807 by omega), Ave _ (show -9223372036854775808 <= (9223372036854775807 : Int) /\ (9223372036854775807 : Int) <= 9223372036854775807 by omega), Option.bind_some]
  simp only [big] at l1 l2
  rw [l1]
  simp only [Option.bind_some, Aa]
  rw [if_neg (by omega), l2]
  simp only [Option.bind_some, Aa]
  rw [if_neg (by omega), A3 (by omega)]
 ·rw [if_neg h, if_neg h]
  refine (Evn.some 0 fun k => ?_).lim
  simp only [Or, Ave _ (show -9223372036854775808 <= (-9223372036854775808 : Int) /\ (-9223372036854775808 : Int) <= 9223372036854775807 by omega), Ave _ (show -9223372036854775808 <= (9223372036854775807 : Int) /\ (9223372036854775807 : Int) <= 9223372036854775807 by omega), Option.bind_some]
  simp only [big] at l1 l2
  rw [l1]
  simp only [Option.bind_some, Aa]
  by_cases c : a < -9223372036854775808
  ·rw [if_pos c]
  ·rw [if_neg c, l2]
   simp only [Option.bind_some, Aa]
   rw [if_pos (by omega)]
def isF (x : Int) : Prop := 48 <= x /\ x <= 57
instance (x : Int) : Decidable (isF x) := by unfold isF; infer_instance
def Jf : List Int -> Nat
 | [] => 0
 | x :: l => if isF x then Jf l + 1 else 0
theorem Adc : ∀ l : List Int, Jf l <= l.length
 | [] => Nat.le_refl _
 | x :: l => by
  unfold Jf
  have := Adc l
  split <;> simp only [List.length_cons] <;> omega
theorem At1 : ∀ {l : List Int} {i : Nat}, i < Jf l -> isF (l.getD i 0)
 | [], i, h => by simp [Jf] at h
 | x :: l, i, h => by
  unfold Jf at h
  split at h
  ·rename_i c
   cases i with
   | zero => exact c
   | succ i => exact At1 (l := l) (by omega)
  ·omega
theorem Avn : ∀ {l : List Int}, Jf l < l.length -> ¬ isF (l.getD (Jf l) 0)
 | [], h => by simp [Jf] at h
 | x :: l, h => by
  unfold Jf at h ⊢
  split
  ·rename_i c
   rw [if_pos c] at h
   exact Avn (l := l) (by simp only [List.length_cons] at h; omega)
  ·rename_i c; exact c
theorem Bko (x : Int) : Sg ((), ((x, ()), ())) = some ((), ((decide (isF x), ()), ())) := by
 simp only [Sg, Ajh, Ac, Option.bind_some, Option.isNone_none, Option.isNone_some, Option.isSome_none, Option.isSome_some, Bool.not_true, Bool.not_false, cond_true, cond_false, Aa, Ag, Ai, Ah, ge_iff_le]
 unfold isF
 by_cases h : 48 <= x <;> simp [h]
theorem A6m (x : Int) (hx : 0 <= x /\ x < 256) : ∀ (k : Nat) (c : Int), c + k = 58 -> 48 <= c -> (∀ y, 48 <= y -> y < c -> x ≠ y) -> Evn (fun j => (K5 j).1 ((), ((x, ()), ((c, ()), ())))) ((), ((decide (isF x), ()), ())) := by
 intro k; induction k with
 | zero =>
  intro c h h0 hp
  rw [decide_eq_false (show ¬ isF x from fun hh => by unfold isF at hh; exact hp x hh.1 (by omega) rfl)]
  refine Evn.some 1 fun j => ?_
  simp only [Aom, O6, Ac, Option.bind_some, Option.isNone_none, Option.isNone_some, Option.isSome_none, Option.isSome_some, Bool.not_true, Bool.not_false, cond_true, cond_false, Aa, Ag, Ai, Ah]
  rw [if_neg (by omega)]
 | succ k ih =>
  intro c h h0 hp
  by_cases e : x = c
  ·rw [decide_eq_true (show isF x by unfold isF; omega)]
   refine Evn.some 1 fun j => ?_
   simp only [Aom, O6, Ac, Option.bind_some, Option.isNone_none, Option.isNone_some, Option.isSome_none, Option.isSome_some, Bool.not_true, Bool.not_false, cond_true, cond_false, Aa, Ag, Ai, Ah]
   rw [if_pos (by omega), if_pos e]
  ·refine (ih (c + 1) (by omega) (by omega) (fun y h1 h2 => ?_)).step fun j => ?_
   ·by_cases q : y = c
    ·rw [q]; exact e
    ·exact hp y h1 (by omega)
   ·simp only [Aom, O6, Ac, Option.bind_some, Option.isNone_none, Option.isNone_some, Option.isSome_none, Option.isSome_some, Bool.not_true, Bool.not_false, cond_true, cond_false, Aa, Ag, Ai, Ah]
    have : A4 .u8 c 1 = c + 1 := by unfold A4; rw [wrap_u8]; omega
    rw [if_pos (by omega), if_neg e, this]
theorem Biv (x : Int) (hx : 0 <= x /\ x < 256) : Ah8 ((), ((x, ()), ())) = some ((), ((decide (isF x), ()), ())) := by
 refine ((A6m x hx 10 48 (by omega) (by omega) (fun y h1 h2 => by omega)).cast fun j => ?_).lim
 simp only [Ag9]
theorem Bn6 (s : ByteArray) (hs : s.size <= 1000000) (most : Int) (hm : 0 <= most /\ most <= 1000000) : ∀ (k i : Nat), i + k = min s.size most.toNat -> (∀ j, j < i -> isF ((bytesOf s).getD j 0)) -> i <= Jf (bytesOf s) ->
  Evn (fun j => (Gs j).1 ((), ((s, ()), ((most, ()), (((i : Int), ()), ()))))) ((), ((((min (Jf (bytesOf s)) most.toNat : Nat) : Int), ()), ())) := by
 have hl := Adc (bytesOf s)
 rw [Oi] at hl
 intro k; induction k with
 | zero =>
  intro i h hp hi
  rw [show ((min (Jf (bytesOf s)) most.toNat : Nat) : Int) = (i : Int) by omega]
  refine Evn.some 1 fun j => ?_
  simp only [Ab6, J9, Ac, Option.bind_some, Option.isNone_none, Option.isNone_some, Option.isSome_none, Option.isSome_some, Bool.not_true, Bool.not_false, cond_true, cond_false, Aa, Ag, Ai, Ah]
  rw [if_neg (by split <;> omega)]
 | succ k ih =>
  intro i h hp hi
  have hb := Ajw s (i := (i : Int)) (by omega) (by omega)
  rw [Int.toNat_natCast] at hb
  by_cases c : isF ((bytesOf s).getD i 0)
  ·have hi' : i + 1 <= Jf (bytesOf s) := by
    by_cases q : i = Jf (bytesOf s)
    ·subst q
     exact absurd c (Avn (by rw [Oi]; omega))
    ·omega
   refine (ih (i + 1) (by omega) (fun j hj => ?_) hi').step fun j => ?_
   ·by_cases q : j = i
    ·subst q; exact c
    ·exact hp j (by omega)
   ·simp only [Ab6, J9, Ac, Option.bind_some, Option.isNone_none, Option.isNone_some, Option.isSome_none, Option.isSome_some, Bool.not_true, Bool.not_false, cond_true, cond_false, Aa, Ag, Ai, Ah, Aq, hb, Bko]
    rw [if_pos (by split <;> omega), if_pos (by omega), if_pos c, Ap (by omega)]; rfl
  ·have : Jf (bytesOf s) = i := by
    by_cases q : i < Jf (bytesOf s)
    ·exact absurd (At1 q) c
    ·omega
   rw [show ((min (Jf (bytesOf s)) most.toNat : Nat) : Int) = (i : Int) by omega]
   refine Evn.some 1 fun j => ?_
   simp only [Ab6, J9, Ac, Option.bind_some, Option.isNone_none, Option.isNone_some, Option.isSome_none, Option.isSome_some, Bool.not_true, Bool.not_false, cond_true, cond_false, Aa, Ag, Ai, Ah, Aq, hb, Bko]
   rw [if_pos (by split <;> omega), if_pos (by omega), if_neg c]
theorem Bmn (s : ByteArray) (hs : s.size <= 1000000) (most : Int) (hm : 0 <= most /\ most <= 1000000) : Uo ((), ((s, ()), ((most, ()), ()))) = some ((), ((((min (Jf (bytesOf s)) most.toNat : Nat) : Int), ()), ())) := by
 refine ((Bn6 s hs most hm (min s.size most.toNat) 0 (by omega) (fun j hj => by omega) (Nat.zero_le _)).cast fun j => ?_).lim
 simp only [Vz]; rfl
theorem Bkw (s : ByteArray) (hs : s.size <= 1000000) : ∀ (k i : Nat), i + k = s.size -> i <= Jf (bytesOf s) -> Evn (fun j => (Ii j).1 ((), ((s, ()), (((i : Int), ()), ())))) ((), ((((Jf (bytesOf s) : Nat) : Int), ()), ())) := by
 have hl := Adc (bytesOf s)
 rw [Oi] at hl
 intro k; induction k with
 | zero =>
  intro i h hi
  rw [show Jf (bytesOf s) = s.size by omega]
  refine Evn.some 1 fun j => ?_
  simp only [Ag3, K3, Ac, Option.bind_some, Option.isNone_none, Option.isNone_some, Option.isSome_none, Option.isSome_some, Bool.not_true, Bool.not_false, cond_true, cond_false, Aa, Ag, Ai, Ah]
  rw [if_neg (by omega)]
 | succ k ih =>
  intro i h hi
  have hb := Ajw s (i := (i : Int)) (by omega) (by omega)
  rw [Int.toNat_natCast] at hb
  have hr := A0o (A7n s) i
  have his := Biv _ hr
  by_cases c : isF ((bytesOf s).getD i 0)
  ·have hi' : i + 1 <= Jf (bytesOf s) := by
    by_cases q : i = Jf (bytesOf s)
    ·subst q
     exact absurd c (Avn (by rw [Oi]; omega))
    ·omega
   refine (ih (i + 1) (by omega) hi').step fun j => ?_
   simp only [Ag3, K3, Ac, Option.bind_some, Option.isNone_none, Option.isNone_some, Option.isSome_none, Option.isSome_some, Bool.not_true, Bool.not_false, cond_true, cond_false, Aa, Ag, Ai, Ah, Aq, hb, his]
   rw [if_pos (by omega), if_pos (by omega), if_neg (not_not_intro c), Ap (by omega)]; rfl
  ·have : Jf (bytesOf s) = i := by
    by_cases q : i < Jf (bytesOf s)
    ·exact absurd (At1 q) c
    ·omega
   rw [this]
   refine Evn.some 1 fun j => ?_
   simp only [Ag3, K3, Ac, Option.bind_some, Option.isNone_none, Option.isNone_some, Option.isSome_none, Option.isSome_some, Bool.not_true, Bool.not_false, cond_true, cond_false, Aa, Ag, Ai, Ah, Aq, hb, his]
   rw [if_pos (by omega), if_pos (by omega), if_pos c]
theorem Bci (s : ByteArray) (hs : s.size <= 1000000) : W4 ((), ((s, ()), ())) = some ((), ((((Jf (bytesOf s) : Nat) : Int), ()), ())) := by
 refine ((Bkw s hs s.size 0 (by omega) (Nat.zero_le _)).cast fun j => ?_).lim
 simp only [Yv]; rfl
def Il (l : List Int) : Int := l.foldl (fun n x => n * 10 + (x - 48)) 0
theorem Ux (l : List Int) (x : Int) : Il (l ++ [x]) = Il l * 10 + (x - 48) := by simp [Il]
theorem Nt : ∀ (n : Nat) (l : List Int), l.length = n -> (∀ x ∈ l, isF x) -> 0 <= Il l /\ Il l < 10 ^ n
 | 0, [], _, _ => by simp [Il]
 | n + 1, l, hl, h => by
  obtain ⟨m, x, rfl⟩ : ∃ m x, l = m ++ [x] := ⟨l.dropLast, l.getLast (by intro e; rw [e] at hl; cases hl), (List.dropLast_concat_getLast _).symm⟩
  have := Nt n m (by simpa using hl) (fun y hy => h y (by simp [hy]))
  have hx := h x (by simp)
  unfold isF at hx
  rw [Ux, Int.pow_succ]; omega
theorem Bcf (l : List Int) (h : ∀ x ∈ l, isF x) : ∀ (k i : Nat), i + k = l.length -> Il (l.take i) <= Il l := by
 intro k; induction k with
 | zero => intro i hi; rw [List.take_of_length_le (by omega)]; exact Int.le_refl _
 | succ k ih =>
  intro i hi
  have h1 := ih (i + 1) (by omega)
  rw [List.take_succ_eq_append_getElem (by omega), Ux] at h1
  have hx := h (l[i]'(by omega)) (List.getElem_mem _)
  unfold isF at hx
  have := (Nt _ (l.take i) rfl (fun y hy => h y (List.mem_of_mem_take hy))).1
  omega
theorem Bhk (s : ByteArray) (limit : Int) (hs : s.size <= 1000) (hf : ∀ x ∈ bytesOf s, isF x) (hlm : 9 <= limit /\ limit <= 10000000000000000000) : ∀ (k i : Nat), i + k = s.size -> Il ((bytesOf s).take i) <= limit ->
  Evn (fun j => (E2 j).1 ((), ((s, ()), ((limit, ()), ((Il ((bytesOf s).take i), ()), (((s.size : Int), ()), (((i : Int), ()), ()))))))) ((), ((if Il (bytesOf s) <= limit then Il (bytesOf s) else 0, ()), ((if Il (bytesOf s) <= limit then none else some 5, ()), ()))) := by
 have hlen := Oi s
 intro k; induction k with
 | zero =>
  intro i h hv
  rw [List.take_of_length_le (by omega)] at hv ⊢
  rw [if_pos hv, if_pos hv]
  refine Evn.some 1 fun j => ?_
  simp only [Wg, Hq, Ac, Option.bind_some, Option.isNone_none, Option.isNone_some, Option.isSome_none, Option.isSome_some, Bool.not_true, Bool.not_false, cond_true, cond_false, Aa, Ag, Ai, Ah]
  rw [if_neg (by omega)]
 | succ k ih =>
  intro i h hv
  have hi : i < (bytesOf s).length := by omega
  have hb := Ajw s (i := (i : Int)) (by omega) (by omega)
  rw [Int.toNat_natCast] at hb
  have hg : (bytesOf s).getD i 0 = (bytesOf s)[i] := by rw [List.getD_eq_getElem?_getD, List.getElem?_eq_getElem hi]; rfl
  have hx := hf _ (List.getElem_mem hi)
  unfold isF at hx
  have h0 := (Nt _ ((bytesOf s).take i) rfl (fun y hy => hf y (List.mem_of_mem_take hy))).1
  have hmono := Bcf (bytesOf s) hf k (i + 1) (by omega)
  rw [List.take_succ_eq_append_getElem hi, Ux] at hmono
  generalize hv0 : Il ((bytesOf s).take i) = v at *
  generalize hx0 : (bytesOf s)[i] = x at *
  have e1 : Eh .u8 x 48 = x - 48 := by unfold Eh; rw [wrap_u8]; omega
  have e2 : Da .u64 (x - 48) = x - 48 := by rw [J2]; omega
  have e3 : Eh .u64 limit (x - 48) = limit - (x - 48) := by rw [Ask]; omega
  have e4 : Kc .u64 (limit - (x - 48)) 10 = (limit - (x - 48)) / 10 := by
   unfold Kc
   rw [Int.tdiv_eq_ediv_of_nonneg (by omega), R2]; omega
  by_cases c : (limit - (x - 48)) / 10 < v
  ·rw [if_neg (by omega), if_neg (by omega)]
   refine Evn.some 1 fun j => ?_
   simp only [Wg, Hq, Ac, Option.bind_some, Option.isNone_none, Option.isNone_some, Option.isSome_none, Option.isSome_some, Bool.not_true, Bool.not_false, cond_true, cond_false, Aa, Ag, Ai, Ah, Aq, hb, hg, gt_iff_lt, e1, e2, e3, e4]
   rw [if_pos (by omega), if_pos (by omega), if_pos c]
  ·have := ih (i + 1) (by omega) (by rw [List.take_succ_eq_append_getElem hi, Ux, hx0, hv0]; omega)
   rw [List.take_succ_eq_append_getElem hi, Ux, hx0, hv0] at this
   refine this.step fun j => ?_
   simp only [Wg, Hq, Ac, Option.bind_some, Option.isNone_none, Option.isNone_some, Option.isSome_none, Option.isSome_some, Bool.not_true, Bool.not_false, cond_true, cond_false, Aa, Ag, Ai, Ah, Aq, hb, hg, gt_iff_lt, e1, e2, e3, e4]
   rw [if_pos (by omega), if_pos (by omega), if_neg c, Anb, Ah6, Ap (by omega), show (v * 10 % 18446744073709551616 + (x - 48)) % 18446744073709551616 = v * 10 + (x - 48) by omega]; rfl
theorem Bfp (s : ByteArray) (limit : Int) (hs : s.size <= 1000) (hf : ∀ x ∈ bytesOf s, isF x) (hlm : 9 <= limit /\ limit <= 10000000000000000000) :
  P6 ((), ((s, ()), ((limit, ()), ()))) = some ((), ((if Il (bytesOf s) <= limit then Il (bytesOf s) else 0, ()), ((if Il (bytesOf s) <= limit then none else some 5, ()), ()))) := by
 refine ((Bhk s limit hs hf hlm s.size 0 (by omega) (by simp [Il]; omega)).cast fun j => ?_).lim
 simp only [Rf]; rfl
def Ax4 (s : ByteArray) (k : Nat) : Int := Il ((bytesOf s).take k)
theorem Azx {s : ByteArray} {k : Nat} (h : k <= Jf (bytesOf s)) : ∀ x ∈ (bytesOf s).take k, isF x := by
 intro x hx
 obtain ⟨i, hi, rfl⟩ := List.getElem_of_mem hx
 have hl := Adc (bytesOf s)
 rw [List.length_take] at hi
 have := At1 (l := bytesOf s) (i := i) (by omega)
 rw [List.getElem_take]
 rwa [List.getD_eq_getElem?_getD, List.getElem?_eq_getElem (by omega)] at this
def Ak6 (s : ByteArray) (least most limit : Int) : Int :=
 if least < 1 \/ most < least \/ 20 < most then 1 else if ((min (Jf (bytesOf s)) most.toNat : Nat) : Int) < least then 2 else if Ax4 s (min (Jf (bytesOf s)) most.toNat) <= limit then 0 else 5
def Ku (s : ByteArray) (most : Int) : Nat := min (Jf (bytesOf s)) most.toNat
theorem Bhw (s : ByteArray) (hs : s.size <= 1000000) (least most limit : Int) (hlm : 9 <= limit /\ limit <= 10000000000000000000) : Mn ((), ((s, ()), ((least, ()), ((most, ()), ((limit, ()), ()))))) =
  some ((), ((if Ak6 s least most limit = 0 then Ax4 s (Ku s most) else 0, ()), ((if Ak6 s least most limit = 0 then (Ku s most : Int) else 0, ()), ((Alo (Ak6 s least most limit), ()), ())))) := by
 simp only [Mn, Adx, Ac, Option.bind_some, Option.isNone_none, Option.isNone_some, Option.isSome_none, Option.isSome_some, Bool.not_true, Bool.not_false, cond_true, cond_false, Aa, Ag, Ai, Ah, gt_iff_lt]
 unfold Ak6
 by_cases c : least < 1 \/ most < least \/ 20 < most
 ·rw [if_pos c]
  simp only [show ((1 : Int) = 0) = False by simp, if_false]
  by_cases c1 : least < 1
  ·rw [if_pos c1]; rfl
  ·rw [if_neg c1]
   by_cases c2 : most < least
   ·rw [if_pos c2]; rfl
   ·rw [if_neg c2, if_pos (by omega)]; rfl
 ·rw [if_neg c, if_neg (by omega), if_neg (by omega), if_neg (by omega), Bmn s hs most (by omega)]
  simp only [Option.bind_some]
  have hl := Adc (bytesOf s)
  rw [Oi] at hl
  by_cases c1 : ((min (Jf (bytesOf s)) most.toNat : Nat) : Int) < least
  ·rw [if_pos c1, if_pos c1]
   simp only [show ((2 : Int) = 0) = False by simp, if_false]; rfl
  ·rw [if_neg c1, if_neg c1]
   have hcut : bytesOf (s.extract 0 (min (Jf (bytesOf s)) most.toNat)) = (bytesOf s).take (min (Jf (bytesOf s)) most.toNat) := by rw [Att, List.drop_zero]
   have hv := Bfp (s.extract 0 (min (Jf (bytesOf s)) most.toNat)) limit (by rw [<- Oi, hcut, List.length_take]; omega) (by rw [hcut]; exact Azx (Nat.min_le_left _ _)) hlm
   rw [hcut] at hv
   simp only [Aq, Aa, Int.toNat_natCast, show (0 : Int).toNat = 0 from rfl]
   rw [if_pos (by omega), hv]
   simp only [Ac, Option.bind_some, Option.isNone_none, Option.isNone_some, Option.isSome_none, Option.isSome_some, Bool.not_true, Bool.not_false, cond_true, cond_false, Aa, Ag, Ai, Ah]
   show _ = some ((), ((if (if Ax4 s (min (Jf (bytesOf s)) most.toNat) <= limit then (0 : Int) else 5) = 0 then Ax4 s (Ku s most) else 0, ()), ((if (if Ax4 s (min (Jf (bytesOf s)) most.toNat) <= limit then (0 : Int) else 5) = 0 then (Ku s most : Int) else 0, ()), ((Alo (if Ax4 s (min (Jf (bytesOf s)) most.toNat) <= limit then 0 else 5), ()), ()))))
   unfold Ax4 Ku
   by_cases c2 : Il ((bytesOf s).take (min (Jf (bytesOf s)) most.toNat)) <= limit
   ·simp only [c2, if_true, Ac, Option.bind_some, Option.isNone_none, Option.isNone_some, Option.isSome_none, Option.isSome_some, Bool.not_true, Bool.not_false, cond_true, cond_false, Aa, Ag, Ai, Ah]; rfl
   ·simp only [c2, if_false, Ac, Option.bind_some, Option.isNone_none, Option.isNone_some, Option.isSome_none, Option.isSome_some, Bool.not_true, Bool.not_false, cond_true, cond_false, Aa, Ag, Ai, Ah]; rfl
def Bap : List Int -> Int -> List Int
 | [], c => if c = 0 then [] else [c]
 | x :: l, c => ((x * 10 + c) % 65536) :: Bap l ((x * 10 + c) / 65536)
theorem Bf9 : ∀ (l : List Int) (c : Int), vl (Bap l c) = vl l * 10 + c
 | [], c => by
  unfold Bap
  split
  ·simp [vl]; omega
  ·simp [vl]
 | x :: l, c => by
  simp only [Bap, vl, Bf9 l]
  omega
theorem Bi5 : ∀ {l : List Int} {c : Int}, Bap l c = [] -> l = [] /\ c = 0
 | [], c, h => by
  unfold Bap at h
  split at h
  ·exact ⟨rfl, by assumption⟩
  ·cases h
 | x :: l, c, h => by simp [Bap] at h
theorem Bai : ∀ (l : List Int) (c : Int), nrm l -> 0 <= c /\ c <= 9 -> nrm (Bap l c)
 | [], c, _, hc => by
  unfold Bap
  split
  ·trivial
  ·exact ⟨by omega, trivial, fun _ => by omega⟩
 | x :: l, c, h, hc => by
  obtain ⟨h1, h2, h3⟩ := h
  refine ⟨by omega, Bai l _ h2 (by omega), fun e => ?_⟩
  obtain ⟨e1, e2⟩ := Bi5 e
  have := h3 e1
  omega
theorem Bnx (n : Nat) (h : (dg n).length <= 40) : Q3 ((), ((dg n, ()), ())) = some ((), ((dg n, ()), ())) := by
 have := A0g _ (dg n) rfl (by omega)
 rw [Bjg (n := n) (Az1 (Sj (Tp n).1)) (by rw [A76, (Tp n).2])] at this
 refine (this.cast fun k => ?_).lim
 simp only [T4]
theorem Bga (a : List Int) (n : Nat) (h : (dg n).length <= 40) : Evn (fun k => (B1 k).1 ((dg n, ()), ((a, ()), (([10], ()), ((), (((1 : Int), ()), ())))))) ((), ((dg n, ()), ())) := by
 refine Evn.some 1 fun k => ?_
 simp only [T7, Ng, Ac, Option.bind_some, Option.isNone_none, Option.isNone_some, Option.isSome_none, Option.isSome_some, Bool.not_true, Bool.not_false, cond_true, cond_false, Aa, Ag, Ai, Ah, List.length_cons, List.length_nil, Bnx n h]
 rw [if_neg (by omega)]
theorem Bd1 (a : List Int) (n : Nat) (h : (dg n).length <= 40) (ha : okD a) (hl : a.length <= 40) : ∀ (k : Nat) (out : List Int) (c : Int) (j : Nat), a.length <= j + k -> 0 <= c /\ c <= 9 -> j <= 40 -> out.length <= 40 -> out ++ Bap (a.drop j) c = dg n ->
  Evn (fun k => (B1 k).2.1 (([], (out, ())), ((a, ()), (([10], ()), ((), (((0 : Int), ()), ((), ((c, ()), (((j : Int), ()), ()))))))))) ((), ((dg n, ()), ())) := by
 have e1 : ∀ x c : Int, 0 <= x /\ x < 65536 -> 0 <= c /\ c <= 9 -> A4 .u64 (Qi .u64 x 10) c = x * 10 + c := fun x c hx hc => by
  rw [Anb, Ah6]; omega
 have hlast : ∀ (out : List Int) (j : Nat), a.length <= j -> j <= 60 -> out = dg n -> Evn (fun k => (B1 k).2.1 (([], (out, ())), ((a, ()), (([10], ()), ((), (((0 : Int), ()), ((), (((0 : Int), ()), (((j : Int), ()), ()))))))))) ((), ((dg n, ()), ())) := by
  intro out j h1 h2 e
  subst e
  have hp := A22 0 n (by rw [Abk]; exact Nat.zero_le _) h
  rw [Abk, Nat.zero_add] at hp
  refine (Bga a n h).step fun k => ?_
  simp only [T7, Ly, Ac, Option.bind_some, Option.isNone_none, Option.isNone_some, Option.isSome_none, Option.isSome_some, Bool.not_true, Bool.not_false, cond_true, cond_false, Aa, Ag, Ai, Ah, gt_iff_lt, hp]
  rw [if_neg (by omega), if_neg (by omega)]
  rfl
 have hmore : ∀ (k : Nat) (out : List Int) (c : Int) (j : Nat), a.length <= j + k -> 0 <= c /\ c <= 9 -> j <= 40 -> out.length <= 40 -> ¬ (a.length <= j /\ c = 0) ->
   Evn (fun k => (B1 k).2.1 (([], (out ++ [(a.getD j 0 * 10 + c) % 65536], ())), ((a, ()), (([10], ()), ((), (((0 : Int), ()), ((), (((a.getD j 0 * 10 + c) / 65536, ()), ((((j + 1 : Nat) : Int), ()), ()))))))))) ((), ((dg n, ()), ())) ->
   Evn (fun k => (B1 k).2.1 (([], (out, ())), ((a, ()), (([10], ()), ((), (((0 : Int), ()), ((), ((c, ()), (((j : Int), ()), ()))))))))) ((), ((dg n, ()), ())) := by
  intro k out c j h1 hc hj ho hne hev
  refine hev.step fun k => ?_
  have hd := Anc a j
  have hg := Vu ha j
  have e3 : Kc .u64 (a.getD j 0 * 10 + c) 65536 = (a.getD j 0 * 10 + c) / 65536 := by
   unfold Kc
   rw [Int.tdiv_eq_ediv_of_nonneg (by omega), R2]; omega
  simp only [T7, Ly, Ac, Option.bind_some, Option.isNone_none, Option.isNone_some, Option.isSome_none, Option.isSome_some, Bool.not_true, Bool.not_false, cond_true, cond_false, Aa, Ag, Ai, Ah, gt_iff_lt, Aq, hd, List.length_cons, List.length_nil, show gd (.int .u64) [10] 0 = 10 from rfl, e1 _ _ hg hc, e3]
  rw [show Int.tmod (a.getD j 0 * 10 + c) 65536 = (a.getD j 0 * 10 + c) % 65536 from Int.tmod_eq_emod_of_nonneg (by omega), Ap (by omega)]
  by_cases c1 : (j : Int) < a.length
  ·rw [if_pos c1, if_pos (by omega), if_pos (by omega)]; rfl
  ·rw [if_neg c1, if_pos (by omega), if_pos (by omega), if_pos (by omega)]; rfl
 intro k; induction k with
 | zero =>
  intro out c j h1 hc hj ho he
  rw [List.drop_eq_nil_of_le (by omega)] at he
  by_cases c0 : c = 0
  ·subst c0
   exact hlast out j (by omega) (by omega) (by simpa [Bap] using he)
  ·refine hmore 0 out c j h1 hc hj ho (by omega) ?_
   have hg : a.getD j 0 = 0 := by rw [List.getD_eq_getElem?_getD, List.getElem?_eq_none (by omega)]; rfl
   simp only [Bap, c0, if_false] at he
   rw [hg, show (0 * 10 + c) / 65536 = 0 by omega, show (0 * 10 + c) % 65536 = c by omega]
   exact hlast _ _ (by omega) (by omega) he
 | succ k ih =>
  intro out c j h1 hc hj ho he
  by_cases c1 : j < a.length
  ·refine hmore (k + 1) out c j h1 hc hj ho (by omega) ?_
   have hg : a.getD j 0 = a[j] := by rw [List.getD_eq_getElem?_getD, List.getElem?_eq_getElem c1]; rfl
   have hx := Vu ha j
   rw [List.drop_eq_getElem_cons c1, Bap, <- hg] at he
   have hlen : (out ++ [(a.getD j 0 * 10 + c) % 65536]).length <= (dg n).length := by
    rw [<- he]; simp
   exact ih _ _ (j + 1) (by omega) (by omega) (by omega) (by omega) (by rw [<- he]; simp)
  ·exact ih out c j (by omega) hc hj ho he
theorem Bmy (m : Nat) (h : m * 10 < 65536 ^ 8) : Uk ((), ((dg m, ()), (([10], ()), ()))) = some ((), ((dg (m * 10), ()), ())) := by
 have l1 := A8u 8 (m * 10) h
 have l2 := A8u 8 m (by omega)
 obtain ⟨n1, v1⟩ := Tp m
 have he : [] ++ Bap ((dg m).drop 0) 0 = dg (m * 10) := by
  rw [List.nil_append, List.drop_zero]
  exact Bjg (Bai _ _ n1 (by omega)) (by rw [Bf9, v1]; omega)
 have hp := Bd1 (dg m) (m * 10) (by omega) (Sj n1) (by omega) 40 [] 0 0 (by omega) (by omega) (by omega) (by simp) he
 refine (Evn.cast (Evn.step hp (F := fun k => (B1 k).1 (([], ()), ((dg m, ()), (([10], ()), ((), (((0 : Int), ()), ())))))) fun k => ?_) fun k => ?_).lim
 ·simp only [T7, Ng, Ac, Option.bind_some, Option.isNone_none, Option.isNone_some, Option.isSome_none, Option.isSome_some, Bool.not_true, Bool.not_false, cond_true, cond_false, Aa, Ag, Ai, Ah, Aq, List.length_cons, List.length_nil]
  rw [if_pos (by omega), if_pos (by omega)]; rfl
 ·simp only [Wc]
theorem Bqg : dg 10 = [10] := by rw [A4a (by omega), show 10 / 65536 = 0 from rfl, Abk]; rfl
theorem A6j (a : Int) (h0 : 0 <= a) (h : sm (a * 10)) : Pb ((), (big a, (big 10, ()))) = some ((), (big (a * 10), ())) := by
 unfold sm at h
 have := Bmy a.natAbs (by omega)
 simp only [Pb, Ae1, big, show (10 : Int).natAbs = 10 from rfl, Bqg, this]
 rw [show (a * 10).natAbs = a.natAbs * 10 by omega, decide_eq_false (show ¬ a < 0 by omega), decide_eq_false (show ¬ a * 10 < 0 by omega)]
 rfl
theorem Bod (l : List Int) (h : l.length <= 20) (hf : ∀ x ∈ l, isF x) : 0 <= Il l /\ Il l < 100000000000000000000 := by
 have := Nt _ l rfl hf
 have h2 : 10 ^ l.length <= 10 ^ 20 := Nat.pow_le_pow_right (by omega) h
 have h3 : ((10 ^ l.length : Nat) : Int) <= ((10 ^ 20 : Nat) : Int) := by exact_mod_cast h2
 rw [Int.natCast_pow] at h3
 have h4 : ((10 ^ 20 : Nat) : Int) = 100000000000000000000 := by decide
 have h5 : ((10 : Nat) : Int) = 10 := rfl
 rw [h5] at h3
 omega
theorem Bnt (s : ByteArray) (hs : s.size <= 20) (hf : ∀ x ∈ bytesOf s, isF x) (b : Bool) (y : List Int) : ∀ (k i : Nat), i + k = s.size ->
  Evn (fun k => (Jp k).1 (((b, ()), (y, (big (Il ((bytesOf s).take i)), ()))), ((s, ()), ((), ((), (((i : Int), ()), ())))))) ((), (big (Il (bytesOf s)), ())) := by
 have hlen := Oi s
 intro k; induction k with
 | zero =>
  intro i h
  rw [List.take_of_length_le (by omega)]
  refine Evn.some 1 fun j => ?_
  simp only [Aug, Rx, Ac, Option.bind_some, Option.isNone_none, Option.isNone_some, Option.isSome_none, Option.isSome_some, Bool.not_true, Bool.not_false, cond_true, cond_false, Aa, Ag, Ai, Ah]
  rw [if_neg (by omega)]
 | succ k ih =>
  intro i h
  have hi : i < (bytesOf s).length := by omega
  have hb := Ajw s (i := (i : Int)) (by omega) (by omega)
  rw [Int.toNat_natCast] at hb
  have hg : (bytesOf s).getD i 0 = (bytesOf s)[i] := by rw [List.getD_eq_getElem?_getD, List.getElem?_eq_getElem hi]; rfl
  have hx := hf _ (List.getElem_mem hi)
  unfold isF at hx
  have h0 := Bod ((bytesOf s).take i) (by rw [List.length_take]; omega) (fun y hy => hf y (List.mem_of_mem_take hy))
  have hn := ih (i + 1) (by omega)
  rw [List.take_succ_eq_append_getElem hi, Ux] at hn
  rw [hg] at hb
  generalize hv0 : Il ((bytesOf s).take i) = v at *
  generalize hx0 : (bytesOf s)[i] = x at *
  have t1 := A6j v h0.1 (Bcy (by omega))
  have t2 := Bik (v * 10) (x - 48) (Bcy (by omega)) (Bcy (by omega))
  have o1 := Ave 10 (by omega)
  have o2 := Ave (x - 48) (by omega)
  have e1 : Eh .u8 x 48 = x - 48 := by unfold Eh; rw [wrap_u8]; omega
  have e2 : Da .i64 (x - 48) = x - 48 := Au3 (by omega)
  simp only [big] at t1 t2 hn ⊢
  refine hn.step fun j => ?_
  simp only [Aug, Rx, Ac, Option.bind_some, Option.isNone_none, Option.isNone_some, Option.isSome_none, Option.isSome_some, Bool.not_true, Bool.not_false, cond_true, cond_false, Aa, Ag, Ai, Ah, Aq, hb, o1, o2, t1, t2, e1, e2]
  rw [if_pos (by omega), if_pos (by omega), Ap (by omega)]; rfl
theorem Bev (s : ByteArray) (hs : s.size <= 20) (hf : ∀ x ∈ bytesOf s, isF x) : Q9 ((), ((s, ()), ())) = some ((), (big (Il (bytesOf s)), ())) := by
 have := Bnt s hs hf false [] s.size 0 (by omega)
 refine (this.cast fun j => ?_).lim
 simp only [Acm, Ave 0 (by omega)]
 rfl
inductive X
 | good (l : List Int)
 | bad (i : Nat) (c : Int)
def X.at (n : Nat) : X -> Int
 | .good l => ((n - l.length : Nat) : Int)
 | .bad i _ => (i : Int)
def X.er : X -> Option Int
 | .good _ => none
 | .bad _ c => some c
def X.rest : X -> List Int
 | .good l => l
 | .bad _ _ => []
def X.wf (s : ByteArray) : X -> Prop
 | .good l => ∃ p, bytesOf s = p ++ l
 | .bad i _ => i <= s.size
@[reducible] def X.t (s : ByteArray) (x : X) : (ByteArray × (Int × (Option Int × Unit))) × Unit := ((s, (x.at s.size, (x.er, ()))), ())
@[reducible] def X.p (s : ByteArray) (x : X) : Option (ByteArray × (Int × Option Int)) := some (s, (x.at s.size, x.er))
theorem X.wf_good {s : ByteArray} {l : List Int} (h : X.wf s (.good l)) : Ga l /\ l.length <= s.size /\ (bytesOf s).drop (s.size - l.length) = l := by
 obtain ⟨p, hp⟩ := h
 have hl := Oi s
 rw [hp, List.length_append] at hl
 refine ⟨fun x hx => A7n s x (by rw [hp]; exact List.mem_append_right _ hx), by omega, ?_⟩
 rw [hp, show s.size - l.length = p.length by omega, List.drop_left]
theorem X.at_range {s : ByteArray} {x : X} (h : x.wf s) : 0 <= x.at s.size /\ x.at s.size <= s.size := by
 cases x with
 | good l => simp only [X.at]; omega
 | bad i c => simp only [X.at, X.wf] at *; omega
theorem X.ok_rest {s : ByteArray} {x : X} (h : x.wf s) : Ga x.rest /\ x.rest.length <= s.size := by
 cases x with
 | good l => exact ⟨(X.wf_good h).1, (X.wf_good h).2.1⟩
 | bad i c => exact ⟨(fun x hx => by cases hx), Nat.zero_le _⟩
theorem X.wf_cut {s : ByteArray} {l : List Int} (h : X.wf s (.good l)) (k : Nat) : X.wf s (.good (l.drop k)) := by
 obtain ⟨p, hp⟩ := h
 exact ⟨p ++ l.take k, by rw [hp, List.append_assoc, List.take_append_drop]⟩
theorem Ad4 : (⟨#[]⟩ : ByteArray) = Am [] := by kernel_rfl
theorem Bhp (s : ByteArray) : Df ((), ((s, ()), ())) = some ((X.good (bytesOf s)).t s, ((), ())) := by
 simp only [Df, U3, X.t, X.at, X.er, Oi, Nat.sub_self]; rfl
theorem Agy (s : ByteArray) (x : X) (h : x.wf s) : Ba ((), ((x.p s, ()), ())) = some ((), ((Am x.rest, ()), ())) := by
 cases x with
 | good l =>
  obtain ⟨h1, h2, h3⟩ := X.wf_good h
  simp only [Ba, F7, X.p, X.at, X.er, X.rest, Ac, Option.bind_some, Option.isNone_none, Option.isNone_some, Option.isSome_none, Option.isSome_some, Bool.not_true, Bool.not_false, cond_true, cond_false, Aa, Ag, Ai, Ah, Aq, Int.toNat_natCast]
  rw [if_pos (by omega)]
  congr 4
  apply Ayb
  rw [Att, Fz h1]
  rw [show s.size = (bytesOf s).length from (Oi s).symm, List.take_length, Oi s, h3]
 | bad i c =>
  simp only [Ba, F7, X.p, X.at, X.er, X.rest, Ac, Option.bind_some, Option.isNone_none, Option.isNone_some, Option.isSome_none, Option.isSome_some, Bool.not_true, Bool.not_false, cond_true, cond_false, Aa, Ag, Ai, Ah, Ad4]
theorem Aod (l : List Int) : ((Am l).toList == (Am []).toList) = decide (l = []) := by
 cases l with
 | nil => simp
 | cons x l =>
  rw [Bgq]
  have : (bytesOf (Am (x :: l))).length ≠ 0 := by rw [Oi, As]; simp
  rw [decide_eq_decide]
  constructor
  ·intro q; rw [q] at this; exact absurd rfl this
  ·intro q; cases q
theorem Bdu (s : ByteArray) (x : X) (h : x.wf s) : Dk ((), ((x.p s, ()), ())) = some ((), ((x.rest.headD 0, ()), ((decide (x.rest ≠ []), ()), ()))) := by
 simp only [Dk, Ko, Agy s x h, Ac, Option.bind_some, Option.isNone_none, Option.isNone_some, Option.isSome_none, Option.isSome_some, Bool.not_true, Bool.not_false, cond_true, cond_false, Aa, Ag, Ai, Ah, Ad4, Aod]
 have ho := (X.ok_rest h).1
 cases hr : x.rest with
 | nil => simp
 | cons a l =>
  rw [hr] at ho
  have hb := Ajw (Am (a :: l)) (i := 0) (by omega) (by rw [As]; simp)
  rw [Fz ho] at hb
  simp only [hb, As, Aq, Ac, Option.bind_some, Option.isNone_none, Option.isNone_some, Option.isSome_none, Option.isSome_some, Bool.not_true, Bool.not_false, cond_true, cond_false, Aa, Ag, Ai, Ah, List.length_cons]
  rw [if_neg (by simp), if_pos (by omega)]
  simp
theorem Aoh (s : ByteArray) (x : X) : B3 ((), ((x.p s, ()), ())) = some ((), ((x.er.isNone, ()), ())) := by
 simp only [B3, Jy, X.p, Ac, Option.bind_some, Option.isNone_none, Option.isNone_some, Option.isSome_none, Option.isSome_some, Bool.not_true, Bool.not_false, cond_true, cond_false, Aa, Ag, Ai, Ah]
theorem Bjm (s : ByteArray) (x : X) : Dy ((), ((x.p s, ()), ())) = some ((), ((x.er, ()), ())) := by
 simp only [Dy, Ky, X.p, Ac, Option.bind_some, Option.isNone_none, Option.isNone_some, Option.isSome_none, Option.isSome_some, Bool.not_true, Bool.not_false, cond_true, cond_false, Aa, Ag, Ai, Ah]
theorem Av3 (s : ByteArray) (x : X) (h : x.wf s) : Ca ((), ((x.p s, ()), ())) = some ((), (((x.rest.length : Int), ()), ())) := by
 simp only [Ca, Kj, Agy s x h, Ac, Option.bind_some, Option.isNone_none, Option.isNone_some, Option.isSome_none, Option.isSome_some, Bool.not_true, Bool.not_false, cond_true, cond_false, Aa, Ag, Ai, Ah, As]
def X.end : X -> Option Int
 | .good l => if l = [] then none else some 2
 | .bad _ c => some c
theorem Amu (s : ByteArray) (x : X) (h : x.wf s) : Bl ((), ((x.p s, ()), ())) = some ((), ((x.end, ()), ())) := by
 simp only [Bl, Kr, Bjm, Av3 s x h, Ac, Option.bind_some, Option.isNone_none, Option.isNone_some, Option.isSome_none, Option.isSome_some, Bool.not_true, Bool.not_false, cond_true, cond_false, Aa, Ag, Ai, Ah]
 cases x with
 | good l =>
  cases l with
  | nil => simp [X.er, X.rest, X.end]
  | cons a l => simp [X.er, X.rest, X.end]
 | bad i c => simp [X.er, X.end]
theorem Bin (l : List Int) (h : l.length <= 1000000) : Is ((), ((Am l, ()), ())) = some ((), ((Am l, ()), ())) := by
 have : Ec ((), ((Am l, ()), ())) = some ((), ((Am l, ()), ())) := by
  show Afs _ = _
  unfold Afs
  rw [if_pos (by simp only [As]; omega)]
 simp only [Is, Aa1, this, Ac, Option.bind_some, Option.isNone_none, Option.isNone_some, Option.isSome_none, Option.isSome_some, Bool.not_true, Bool.not_false, cond_true, cond_false, Aa, Ag, Ai, Ah]
def Eu (k : Nat) : X -> X
 | .good l => .good (l.drop k)
 | .bad i c => .bad i c
theorem Xj {s : ByteArray} {x : X} (h : x.wf s) (k : Nat) : (Eu k x).wf s := by
 cases x with
 | good l => exact X.wf_cut h k
 | bad i c => exact h
theorem Am3 (s : ByteArray) (x : X) (h : x.wf s) (hs : s.size <= 1000000) (k : Nat) (hk : k <= x.rest.length) : A9 (x.t s, ((), (((k : Int), ()), ()))) = some ((Eu k x).t s, ((Am (x.rest.take k), ()), ((), ()))) := by
 have ho := X.ok_rest h
 have hr := X.at_range h
 have hc := Bin (x.rest.take k) (by rw [List.length_take]; omega)
 simp only [A9, I1, X.t, Agy s x h, Ac, Option.bind_some, Option.isNone_none, Option.isNone_some, Option.isSome_none, Option.isSome_some, Bool.not_true, Bool.not_false, cond_true, cond_false, Aa, Ag, Ai, Ah, As, Yx, List.drop_zero, Int.toNat_natCast, show (0 : Int).toNat = 0 from rfl, Aq, hc, gt_iff_lt]
 rw [if_pos (by omega)]
 by_cases c : k = 0
 ·subst c
  rw [if_neg (by omega)]
  cases x <;> simp only [Eu, List.drop_zero]
 ·rw [if_pos (by omega)]
  cases x with
  | good l =>
   simp only [Eu, X.at, X.er, X.rest, List.length_drop] at *
   rw [Ap (by omega)]
   congr 5
   omega
  | bad i q => simp only [X.rest, List.length_nil] at hk; omega
def Bkn (c : Int) (x : X) : Bool := decide (x.rest.head? = some c)
theorem Bdg (s : ByteArray) (x : X) (h : x.wf s) (hs : s.size <= 1000000) (c : Int) : Ct (x.t s, ((), ((c, ()), ()))) = some ((if Bkn c x then Eu 1 x else x).t s, ((Bkn c x, ()), ((), ()))) := by
 simp only [Ct, Iy, X.t, Bdu s x h, Ac, Option.bind_some, Option.isNone_none, Option.isNone_some, Option.isSome_none, Option.isSome_some, Bool.not_true, Bool.not_false, cond_true, cond_false, Aa, Ag, Ai, Ah]
 unfold Bkn
 cases hr : x.rest with
 | nil => simp
 | cons a l =>
  have ht := Am3 s x h hs 1 (by rw [hr]; simp)
  simp only [X.t] at ht
  by_cases e : a = c
  ·subst e
   simp only [List.headD_cons, List.head?_cons, ne_eq, reduceCtorEq, not_false_eq_true, decide_true, not_true_eq_false, if_false, if_true]
   rw [show (1 : Int) = ((1 : Nat) : Int) from rfl, ht]
   simp only [Option.bind_some]
  ·have e2 : ¬ (some a = some c) := fun q => e (Option.some.inj q)
   simp only [List.headD_cons, List.head?_cons, ne_eq, reduceCtorEq, not_false_eq_true, decide_true, not_true_eq_false, if_false, e, if_true, e2, decide_false, Bool.false_eq_true]
def Bb4 (n : Nat) (c : Int) : X -> X
 | .good l => .bad (n - l.length) c
 | .bad i q => .bad i q
theorem Bae {s : ByteArray} {x : X} (h : x.wf s) (c : Int) : (Bb4 s.size c x).wf s := by
 cases x with
 | good l => exact Nat.sub_le _ _
 | bad i q => exact h
theorem A4s (s : ByteArray) (x : X) (c : Int) : Bu (x.t s, ((), ((some c, ()), ()))) = some ((Bb4 s.size c x).t s, ((), ())) := by
 simp only [Bu, I6, X.t, Aoh, Ac, Option.bind_some, Option.isNone_none, Option.isNone_some, Option.isSome_none, Option.isSome_some, Bool.not_true, Bool.not_false, cond_true, cond_false, Aa, Ag, Ai, Ah]
 cases x with
 | good l => simp [X.er, Bb4, X.at]
 | bad i q => simp [X.er, Bb4, X.at]
def Adg (n a b : Nat) : X -> X × Int
 | .good l => if a <= min (Jf l) b then (.good (l.drop (min (Jf l) b)), Il (l.take (min (Jf l) b))) else (.bad (n - l.length) 2, 0)
 | .bad i c => (.bad i c, 0)
theorem A7i {s : ByteArray} {x : X} (h : x.wf s) (a b : Nat) : (Adg s.size a b x).1.wf s := by
 cases x with
 | good l =>
  simp only [Adg]
  split
  ·exact X.wf_cut h _
  ·exact Nat.sub_le _ _
 | bad i q => exact h
theorem Af2 {l : List Int} {k : Nat} (h : k <= Jf l) : ∀ x ∈ l.take k, isF x := by
 intro x hx
 obtain ⟨i, hi, rfl⟩ := List.getElem_of_mem hx
 have hl := Adc l
 rw [List.length_take] at hi
 have := At1 (l := l) (i := i) (by omega)
 rw [List.getElem_take]
 rwa [List.getD_eq_getElem?_getD, List.getElem?_eq_getElem (by omega)] at this
theorem A89 (n a b : Nat) (hb : b <= 18) (x : X) : 0 <= (Adg n a b x).2 /\ (Adg n a b x).2 < 10 ^ b := by
 have p1 : (0 : Int) < 10 ^ b := Int.pow_pos (by decide)
 cases x with
 | good l =>
  simp only [Adg]
  split
  ·have := Nt _ (l.take (min (Jf l) b)) rfl (Af2 (Nat.min_le_left _ _))
   refine ⟨this.1, Int.lt_of_lt_of_le this.2 ?_⟩
   have h2 : (l.take (min (Jf l) b)).length <= b := by rw [List.length_take]; omega
   have : 10 ^ (l.take (min (Jf l) b)).length <= 10 ^ b := Nat.pow_le_pow_right (by omega) h2
   exact_mod_cast this
  ·exact ⟨Int.le_refl _, p1⟩
 | bad i q => exact ⟨Int.le_refl _, p1⟩
theorem Blq (l : List Int) (ho : Ga l) (hs : l.length <= 1000000) (a b : Nat) (h : 1 <= a /\ a <= b /\ b <= 18) : M2 ((), ((Am l, ()), (((a : Int), ()), (((b : Int), ()), ())))) =
  if a <= min (Jf l) b then some ((), ((Il (l.take (min (Jf l) b)), ()), ((((min (Jf l) b : Nat) : Int), ()), ((none, ()), ())))) else some ((), ((0, ()), ((0, ()), ((some 2, ()), ())))) := by
 have hf := Bhw (Am l) (by rw [As]; exact hs) a b 9223372036854775807 (by omega)
 have hv := A89 0 a b h.2.2 (.good l)
 have hp : (10 : Int) ^ b <= 10 ^ 18 := by
  have : 10 ^ b <= 10 ^ 18 := Nat.pow_le_pow_right (by omega) h.2.2
  exact_mod_cast this
 simp only [M2, Adu, hf, Option.bind_some]
 unfold Ak6 Ku Ax4
 simp only [Fz ho, Int.toNat_natCast]
 simp only [Adg] at hv
 by_cases c : a <= min (Jf l) b
 ·rw [if_pos c] at hv
  simp only at hv
  rw [if_neg (show ¬((a : Int) < 1 \/ (b : Int) < a \/ 20 < (b : Int)) by omega), if_neg (show ¬(((min (Jf l) b : Nat) : Int) < a) by omega), if_pos (show Il (l.take (min (Jf l) b)) <= 9223372036854775807 by omega), if_pos c, if_pos rfl, if_pos rfl, Au3 (by omega)]; rfl
 ·rw [if_neg (show ¬((a : Int) < 1 \/ (b : Int) < a \/ 20 < (b : Int)) by omega), if_pos (show ((min (Jf l) b : Nat) : Int) < a by omega), if_neg c, if_neg (by decide), if_neg (by decide)]; rfl
theorem Af1 (s : ByteArray) (x : X) (h : x.wf s) (hs : s.size <= 1000000) (a b : Nat) (hab : 1 <= a /\ a <= b /\ b <= 18) : Ax (x.t s, ((), (((a : Int), ()), (((b : Int), ()), ())))) = some ((Adg s.size a b x).1.t s, (((Adg s.size a b x).2, ()), ((), ()))) := by
 simp only [Ax, G3, X.t, Aoh, Agy s x h, Ac, Option.bind_some, Option.isNone_none, Option.isNone_some, Option.isSome_none, Option.isSome_some, Bool.not_true, Bool.not_false, cond_true, cond_false, Aa, Ag, Ai, Ah]
 cases x with
 | good l =>
  obtain ⟨h1, h2, h3⟩ := X.wf_good h
  have hf := Blq l h1 (by omega) a b hab
  have hll := Adc l
  simp only [X.er, X.rest, Option.isNone_none, Bool.not_true, cond_false, hf]
  by_cases c : a <= min (Jf l) b
  ·have ht := Am3 s (.good l) h hs (min (Jf l) b) (by simp only [X.rest]; omega)
   simp only [X.t, X.er] at ht
   simp only [if_pos c, Option.bind_some, Option.isNone_none, Bool.not_true, cond_false, ht, Adg, X.er]; simp [Eu, X.er]
  ·simp only [if_neg c, Option.bind_some, Adg, X.er, X.at]; simp
 | bad i c => simp [X.er, Adg, X.at]
theorem Bn7 : ∀ (l : List UInt8) (c : UInt8), (0 <= Lib.indexByte l c) ↔ c ∈ l := by
 intro l c
 induction l with
 | nil => simp [Lib.indexByte]
 | cons b l ih =>
  have hg := Lib.indexByte_ge l c
  simp only [Lib.indexByte, List.mem_cons]
  by_cases h : b = c
  ·subst h; simp
  ·have h' : ¬ c = b := fun q => h q.symm
   simp only [beq_iff_eq, h, if_false, h', false_or]
   rw [<- ih]
   by_cases q : Lib.indexByte l c = -1
   ·rw [if_pos q, q]
   ·rw [if_neg q]; omega
theorem A9q (S : List Int) (hS : Ga S) (c : Int) (hc : 0 <= c /\ c < 256) : ∃ v : Int, Ez ((), ((Am S, ()), ((c, ()), ()))) = some ((), ((v, ()), ())) /\ (0 <= v ↔ c ∈ S) := by
 refine ⟨_, rfl, ?_⟩
 rw [Bn7]
 have e : bytesOf (Am S) = S := Fz hS
 constructor
 ·intro h
  rw [<- e]
  have : ((c.toNat.toUInt8.toNat : Nat) : Int) = c := by
   rw [show c.toNat.toUInt8.toNat = c.toNat % 256 from rfl]; omega
  rw [<- this]
  exact List.mem_map_of_mem (f := fun b : UInt8 => (b.toNat : Int)) h
 ·intro h
  rw [<- e] at h
  obtain ⟨b, hb, hbc⟩ := List.mem_map.1 h
  have : c.toNat.toUInt8 = b := by
   rw [<- hbc]; simp
  simp only [this]; exact hb
def Dp (S : List Int) : List Int -> Nat
 | [] => 0
 | x :: l => if x ∈ S then Dp S l + 1 else 0
theorem Apq (S : List Int) : ∀ l : List Int, Dp S l <= l.length
 | [] => Nat.le_refl _
 | x :: l => by
  unfold Dp
  have := Apq S l
  split <;> simp only [List.length_cons] <;> omega
theorem A6u {S : List Int} : ∀ {l : List Int} {i : Nat}, i < Dp S l -> l.getD i 0 ∈ S
 | [], i, h => by simp [Dp] at h
 | x :: l, i, h => by
  unfold Dp at h
  split at h
  ·rename_i c
   cases i with
   | zero => exact c
   | succ i => exact A6u (l := l) (by omega)
  ·omega
theorem A3a {S : List Int} : ∀ {l : List Int}, Dp S l < l.length -> ¬ l.getD (Dp S l) 0 ∈ S
 | [], h => by simp [Dp] at h
 | x :: l, h => by
  unfold Dp at h ⊢
  split
  ·rename_i c
   rw [if_pos c] at h
   exact A3a (l := l) (by simp only [List.length_cons] at h; omega)
  ·rename_i c; exact c
theorem A5v (s : ByteArray) (x : X) (h : x.wf s) (hs : s.size <= 1000000) (S : List Int) (hS : Ga S) : ∀ (k i : Nat), i + k = x.rest.length -> i <= Dp S x.rest ->
  Evn (fun f => (Bb f).1 (x.t s, ((), ((Am S, ()), ((Am x.rest, ()), (((i : Int), ()), ())))))) ((Eu (Dp S x.rest) x).t s, ((Am (x.rest.take (Dp S x.rest)), ()), ((), ()))) := by
 have ho := X.ok_rest h
 have hl := Apq S x.rest
 have fin : ∀ i : Nat, i = Dp S x.rest -> (i < x.rest.length -> ¬ x.rest.getD i 0 ∈ S) -> Evn (fun f => (Bb f).1 (x.t s, ((), ((Am S, ()), ((Am x.rest, ()), (((i : Int), ()), ())))))) ((Eu (Dp S x.rest) x).t s, ((Am (x.rest.take (Dp S x.rest)), ()), ((), ()))) := by
  intro i hi hn
  subst hi
  have ht := Am3 s x h hs _ hl
  simp only [X.t] at ht
  refine Evn.some 1 fun f => ?_
  simp only [Kl, Dd, X.t, Ac, Option.bind_some, Option.isNone_none, Option.isNone_some, Option.isSome_none, Option.isSome_some, Bool.not_true, Bool.not_false, cond_true, cond_false, Aa, Ag, Ai, Ah, As, Aq]
  by_cases c : Dp S x.rest < x.rest.length
  ·have hb := Ajw (Am x.rest) (i := ((Dp S x.rest : Nat) : Int)) (by omega) (by rw [As]; omega)
   rw [Fz ho.1, Int.toNat_natCast] at hb
   have hc := A0o ho.1 (Dp S x.rest)
   obtain ⟨v, hv1, hv2⟩ := A9q S hS (x.rest.getD (Dp S x.rest) 0) hc
   rw [if_pos (by omega), if_pos (by omega), hb, hv1]
   simp only [Option.bind_some, Aa, ge_iff_le]
   rw [if_neg (fun q => hn c (hv2.1 q)), ht]; rfl
  ·rw [if_neg (by omega), ht]; rfl
 intro k; induction k with
 | zero =>
  intro i hi hr
  exact fin i (by omega) (fun q => by omega)
 | succ k ih =>
  intro i hi hr
  by_cases q : i = Dp S x.rest
  ·exact fin i q (fun q2 => by rw [q]; exact A3a (by omega))
  ·refine (ih (i + 1) (by omega) (by omega)).step fun f => ?_
   have hb := Ajw (Am x.rest) (i := (i : Int)) (by omega) (by rw [As]; omega)
   rw [Fz ho.1, Int.toNat_natCast] at hb
   have hc := A0o ho.1 i
   obtain ⟨v, hv1, hv2⟩ := A9q S hS (x.rest.getD i 0) hc
   simp only [Kl, Dd, X.t, Ac, Option.bind_some, Option.isNone_none, Option.isNone_some, Option.isSome_none, Option.isSome_some, Bool.not_true, Bool.not_false, cond_true, cond_false, Aa, Ag, Ai, Ah, As, Aq]
   rw [if_pos (by omega), if_pos (by omega), hb, hv1]
   simp only [Option.bind_some, Aa, ge_iff_le]
   rw [if_pos (hv2.2 (A6u (by omega))), Ap (by omega)]; rfl
theorem Abe (s : ByteArray) (x : X) (h : x.wf s) (hs : s.size <= 1000000) (S : List Int) (hS : Ga S) : Bh (x.t s, ((), ((Am S, ()), ()))) = some ((Eu (Dp S x.rest) x).t s, ((Am (x.rest.take (Dp S x.rest)), ()), ((), ()))) := by
 refine ((A5v s x h hs S hS x.rest.length 0 (by omega) (Nat.zero_le _)).cast fun f => ?_).lim
 simp only [Fa, X.t, Agy s x h, Option.bind_some]; rfl
@[reducible] def Bkx : List Int := [48, 49, 50, 51, 52, 53, 54, 55, 56, 57]
theorem A86 : ∀ l : List Int, Dp Bkx l = Jf l
 | [] => rfl
 | x :: l => by
  have h : x ∈ Bkx ↔ isF x := by
   unfold isF
   simp only [Bkx, List.mem_cons, List.not_mem_nil, or_false]; omega
  unfold Dp Jf
  rw [A86 l]
  by_cases c : isF x
  ·rw [if_pos c, if_pos (h.2 c)]
  ·rw [if_neg c, if_neg (fun q => c (h.1 q))]
def Bf6 (l c : List Int) (i : Nat) : Prop := c.length = l.length /\ ∀ k : Nat, k < l.length -> c.getD k 0 = if k < i \/ l.length - i <= k then l.getD (l.length - 1 - k) 0 else l.getD k 0
theorem A8t (l : List Int) (i k : Nat) (x : Int) (hi : i < l.length) : (l.set i x).getD k 0 = if k = i then x else l.getD k 0 := by
 simp only [List.getD_eq_getElem?_getD, List.getElem?_set]
 by_cases h : i = k
 ·subst h; simp [hi]
 ·rw [if_neg h, if_neg (Ne.symm h)]
theorem Ays {l c : List Int} {i : Nat} (h : Bf6 l c i) (hi : l.length <= 2 * i + 1) : c = l.reverse := by
 refine List.ext_getElem (by rw [h.1, List.length_reverse]) fun k h1 h2 => ?_
 have hk : k < l.length := by rw [<- h.1]; exact h1
 have := h.2 k hk
 rw [List.getElem_reverse]
 simp only [List.getD_eq_getElem?_getD, List.getElem?_eq_getElem h1, Option.getD_some] at this
 rw [this]
 by_cases c1 : k < i \/ l.length - i <= k
 ·rw [if_pos c1, List.getElem?_eq_getElem (by omega)]; rfl
 ·rw [if_neg c1, List.getElem?_eq_getElem hk]
  simp only [Option.getD_some]
  congr 1
  omega
theorem Bch (l : List Int) (hl : l.length <= 1000000) : ∀ (m i : Nat) (c : List Int), l.length <= 2 * i + m -> Bf6 l c i -> i <= l.length ->
  Evn (fun k => (Bk k).1 ((c, ()), ((), (((i : Int), ()), (((l.length : Int) - 1 - i, ()), ()))))) ((l.reverse, ()), ((), ())) := by
 intro m; induction m with
 | zero =>
  intro i c h ht hi
  rw [<- Ays ht (by omega)]
  refine Evn.some 1 fun k => ?_
  simp only [Fm, Cp, Ac, Option.bind_some, Option.isNone_none, Option.isNone_some, Option.isSome_none, Option.isSome_some, Bool.not_true, Bool.not_false, cond_true, cond_false, Aa, Ag, Ai, Ah]
  rw [if_neg (by omega)]
 | succ m ih =>
  intro i c h ht hi
  by_cases e : l.length <= 2 * i + 1
  ·rw [<- Ays ht e]
   refine Evn.some 1 fun k => ?_
   simp only [Fm, Cp, Ac, Option.bind_some, Option.isNone_none, Option.isNone_some, Option.isSome_none, Option.isSome_some, Bool.not_true, Bool.not_false, cond_true, cond_false, Aa, Ag, Ai, Ah]
   rw [if_neg (by omega)]
  ·obtain ⟨h1, h2⟩ := ht
   have e1 : (((l.length : Int) - 1 - i).toNat) = l.length - 1 - i := by omega
   have hT : Bf6 l ((c.set i (c.getD (l.length - 1 - i) 0)).set (l.length - 1 - i) (c.getD i 0)) (i + 1) := by
    refine ⟨by simp [h1], fun k hk => ?_⟩
    have hki := h2 i (by omega)
    have hkj := h2 (l.length - 1 - i) (by omega)
    have hkk := h2 k hk
    rw [if_neg (by omega)] at hki
    rw [if_neg (by omega)] at hkj
    rw [A8t _ _ _ _ (by simp; omega), A8t _ _ _ _ (by omega), hki, hkj]
    by_cases k1 : k = l.length - 1 - i
    ·subst k1
     rw [if_pos rfl, if_pos (by omega)]
     congr 1
     omega
    ·rw [if_neg k1]
     by_cases k2 : k = i
     ·subst k2
      rw [if_pos rfl, if_pos (by omega)]
     ·rw [if_neg k2, hkk]
      by_cases k3 : k < i \/ l.length - i <= k
      ·rw [if_pos k3, if_pos (by omega)]
      ·rw [if_neg k3, if_neg (by omega)]
   have := ih (i + 1) _ (by omega) hT (by omega)
   refine this.step fun k => ?_
   simp only [Fm, Cp, Ac, Option.bind_some, Option.isNone_none, Option.isNone_some, Option.isSome_none, Option.isSome_some, Bool.not_true, Bool.not_false, cond_true, cond_false, Aa, Ag, Ai, Ah, Aq, Bli, e1, Int.toNat_natCast, List.length_set]
   rw [if_pos (by omega), if_pos (by omega), if_pos (by omega), if_pos (by omega), if_pos (by omega), Ap (by omega), A3 (by omega)]
   rw [show (l.length : Int) - 1 - ((i + 1 : Nat) : Int) = (l.length : Int) - 1 - i - 1 by omega]
   rfl
theorem Bge (l : List Int) (hl : l.length <= 1000000) : Dz ((l, ()), ((), ())) = some ((l.reverse, ()), ((), ())) := by
 have := Bch l hl l.length 0 l (by omega) ⟨rfl, fun k hk => by rw [if_neg (by omega)]⟩ (by omega)
 refine (this.cast fun k => ?_).lim
 simp only [E3]
 rw [A3 (by omega)]
 simp only [Int.natCast_zero, Int.sub_zero]
def Ad7 (n : Nat) : List Int := if h : n = 0 then [] else (48 + (n % 10 : Nat) : Int) :: Ad7 (n / 10)
termination_by n
decreasing_by omega
theorem Mu : Ad7 0 = [] := by rw [Ad7]; rfl
theorem Xa {n : Nat} (h : n ≠ 0) : Ad7 n = (48 + (n % 10 : Nat) : Int) :: Ad7 (n / 10) := by rw [Ad7, dif_neg h]
theorem Asd : ∀ (k n : Nat), n < 10 ^ k -> (Ad7 n).length <= k
 | 0, n, h => by
  have : n = 0 := by simpa using h
  subst this; rw [Mu]; exact Nat.le_refl _
 | k + 1, n, h => by
  by_cases c : n = 0
  ·subst c; rw [Mu]; exact Nat.zero_le _
  ·rw [Xa c, List.length_cons]
   have := Asd k (n / 10) (by rw [Nat.pow_succ] at h; omega)
   omega
theorem Bk2 (n : Nat) : ∀ x ∈ Ad7 n, 48 <= x /\ x <= 57 := by
 induction n using Nat.strongRecOn with
 | _ n ih =>
  intro x hx
  by_cases c : n = 0
  ·subst c; rw [Mu] at hx; cases hx
  ·rw [Xa c] at hx
   rcases List.mem_cons.1 hx with rfl | hx
   ·omega
   ·exact ih (n / 10) (by omega) x hx
def A5m (n w : Nat) : List Int := List.replicate (max w 1 - (Ad7 n).length) 48 ++ (Ad7 n).reverse
theorem u64_in {x : Int} (h : 0 <= x /\ x <= 18446744073709551615) : IntKind.u64.wrap x = x := IntWalk.u64_in x h
theorem Bny {x : Int} (h : 0 <= x /\ x <= 255) : IntKind.u8.wrap x = x := by rw [wrap_u8]; omega
theorem Bi7 (n : Nat) : A4 .u8 48 (Da .u8 (Int.tmod (n : Int) 10)) = 48 + ((n % 10 : Nat) : Int) := by
 rw [Aef (by omega)]
 unfold A4 Da
 rw [Bny (x := (n : Int) % 10) (by omega), Bny (by omega)]; omega
theorem Biz {a c : Int} (hc : 0 < c) (h : 0 <= a /\ a <= 18446744073709551615) : Kc .u64 a c = a / c := by
 unfold Kc
 rw [Int.tdiv_eq_ediv_of_nonneg h.1]
 exact u64_in ⟨Int.ediv_nonneg h.1 (by omega), Int.le_trans (Int.ediv_le_self _ h.1) h.2⟩
theorem Bn0 (w : Int) (hw : w <= 100) : ∀ (k : Nat) (n : Nat) (out : List Int), n < 18446744073709551616 -> (Ad7 n).length + (max w 1 - out.length - (Ad7 n).length).toNat <= k -> out.length + k <= 1000 ->
  Evn (fun j => (Gc j).1 ((out, ()), (((n : Int), ()), ((w, ()), ((), ()))))) ((), ((Am (List.replicate (max w 1 - out.length - (Ad7 n).length).toNat 48 ++ (out ++ Ad7 n).reverse), ()), ())) := by
 intro k; induction k with
 | zero =>
  intro n out hn hk hl
  have hf : (Ad7 n).length = 0 := by omega
  have hn0 : n = 0 := by
   by_cases c : n = 0
   ·exact c
   ·rw [Xa c] at hf; simp at hf
  subst hn0
  rw [Mu, List.append_nil, show (max w 1 - out.length - ([] : List Int).length).toNat = 0 by rw [Mu] at hk; omega]
  refine Evn.some 1 fun j => ?_
  simp only [Uj, Hm, Bge out (by omega), Ac, Option.bind_some, Option.isNone_none, Option.isNone_some, Option.isSome_none, Option.isSome_some, Bool.not_true, Bool.not_false, cond_true, cond_false, Aa, Ag, Ai, Ah, gt_iff_lt]
  rw [if_neg (by omega), if_neg (by rw [Mu] at hk; simp only [List.length_nil] at hk; split <;> omega)]
  simp
 | succ k ih =>
  intro n out hn hk hl
  have hlen : (out ++ [48 + ((n % 10 : Nat) : Int)]).length = out.length + 1 := by simp
  by_cases c : n = 0
  ·subst c
   rw [Mu] at hk ⊢
   simp only [List.length_nil] at hk ⊢
   by_cases c2 : (out.length : Int) < max w 1
   ·have := ih 0 (out ++ [48]) (by omega) (by rw [Mu]; simp; omega) (by simp; omega)
    rw [Mu, List.append_nil] at this
    rw [List.append_nil]
    have e : List.replicate (max w 1 - out.length - 0).toNat (48 : Int) ++ out.reverse = List.replicate (max w 1 - (out ++ [48]).length - ([] : List Int).length).toNat 48 ++ (out ++ [48]).reverse := by
     rw [show (max w 1 - (out.length : Int) - 0).toNat = (max w 1 - ((out ++ [(48 : Int)]).length : Int) - (([] : List Int).length : Int)).toNat + 1 by simp; omega]
     rw [List.replicate_succ', List.append_assoc, List.reverse_append]
     rfl
    have e' : ((0 : Int)) = (([] : List Int).length : Int) := rfl
    rw [show (max w 1 - (out.length : Int) - ((0 : Nat) : Int)) = (max w 1 - (out.length : Int) - 0) from rfl, e]
    refine this.step fun j => ?_
    simp only [Uj, Hm, Ac, Option.bind_some, Option.isNone_none, Option.isNone_some, Option.isSome_none, Option.isSome_some, Bool.not_true, Bool.not_false, cond_true, cond_false, Aa, Ag, Ai, Ah, gt_iff_lt, Aq, List.length_cons, List.length_nil]
    rw [if_neg (by omega), if_pos (by split <;> omega), if_pos (by omega)]
    rfl
   ·have e : (max w 1 - (out.length : Int) - ((0 : Nat) : Int)).toNat = 0 := by omega
    rw [e, List.append_nil]
    refine Evn.some 1 fun j => ?_
    simp only [Uj, Hm, Bge out (by omega), Ac, Option.bind_some, Option.isNone_none, Option.isNone_some, Option.isSome_none, Option.isSome_some, Bool.not_true, Bool.not_false, cond_true, cond_false, Aa, Ag, Ai, Ah, gt_iff_lt]
    rw [if_neg (by omega), if_neg (by split <;> omega)]
    simp
  ·have hfl : (Ad7 n).length = (Ad7 (n / 10)).length + 1 := by rw [Xa c]; rfl
   have := ih (n / 10) (out ++ [48 + ((n % 10 : Nat) : Int)]) (by omega) (by rw [hlen]; omega) (by rw [hlen]; omega)
   rw [hlen, show (max w 1 - ((out.length + 1 : Nat) : Int) - ((Ad7 (n / 10)).length : Int)).toNat = (max w 1 - (out.length : Int) - ((Ad7 n).length : Int)).toNat by omega,
    show (out ++ [48 + ((n % 10 : Nat) : Int)]) ++ Ad7 (n / 10) = out ++ Ad7 n by rw [Xa c]; simp] at this
   refine this.step fun j => ?_
   simp only [Uj, Hm, Ac, Option.bind_some, Option.isNone_none, Option.isNone_some, Option.isSome_none, Option.isSome_some, Bool.not_true, Bool.not_false, cond_true, cond_false, Aa, Ag, Ai, Ah, gt_iff_lt, Aq, Bi7, List.length_cons, List.length_nil]
   rw [if_pos (by omega), if_pos (by omega), Biz (by omega) (by omega)]
   rfl
theorem Bfs (n : Nat) (w : Int) (hn : n < 18446744073709551616) (hw : w <= 100) : Qe ((), (((n : Int), ()), ((w, ()), ()))) = some ((), ((Am (A5m n w.toNat), ()), ())) := by
 have hl := Asd 20 n (by omega)
 have := Bn0 w hw 200 n [] hn (by simp only [List.length_nil]; omega) (by simp)
 rw [List.nil_append] at this
 have e : List.replicate (max w 1 - (([] : List Int).length : Int) - ((Ad7 n).length : Int)).toNat (48 : Int) ++ (Ad7 n).reverse = A5m n w.toNat := by
  unfold A5m
  congr 2
  simp only [List.length_nil]; omega
 rw [e] at this
 refine (this.cast fun j => ?_).lim
 simp only [U4]
def Bmc (a : Int) : Prop := -9223372036854775808 <= a /\ a <= 9223372036854775807
theorem A02 (x : Int) (l : List Int) : Am [x] ++ Am l = Am (x :: l) := by rw [A1v]; rfl
theorem Bof : (⟨#[48]⟩ : ByteArray) = Am [48] := by kernel_rfl
theorem Bo2 : (⟨#[45]⟩ : ByteArray) = Am [45] := by kernel_rfl
theorem Bez : (⟨#[]⟩ : ByteArray) = Am [] := by kernel_rfl
theorem Bhr {k : Nat} (hk : 0 < k) (l : List Int) : List.replicate k (48 : Int) ++ l = List.replicate (k - 1) 48 ++ 48 :: l := by
 obtain ⟨k, rfl⟩ : ∃ m, k = m + 1 := ⟨k - 1, by omega⟩
 rw [Nat.add_sub_cancel, List.replicate_succ', List.append_assoc]; rfl
theorem Bnw (w : Int) (hw : w <= 100) : ∀ (k : Nat) (l : List Int), l.length <= 100 -> (max w 1 - l.length).toNat <= k ->
  Evn (fun j => (D4 j).2.1 ((), ((w, ()), ((Am l, ()), ())))) ((), ((Am (List.replicate (max w 1 - l.length).toNat 48 ++ l), ()), ())) := by
 have e1 : (Am [48]).size = 1 := As _
 intro k; induction k with
 | zero =>
  intro l hl hk
  have h0 : (max w 1 - (l.length : Int)).toNat = 0 := by omega
  rw [h0]
  refine Evn.some 1 fun j => ?_
  simp only [U7, Ml, Ac, Option.bind_some, Option.isNone_none, Option.isNone_some, Option.isSome_none, Option.isSome_some, Bool.not_true, Bool.not_false, cond_true, cond_false, Aa, Ag, Ai, Ah, As]
  rw [if_neg (by omega), if_neg (by omega)]; rfl
 | succ k ih =>
  intro l hl hk
  by_cases c : (max w 1 - (l.length : Int)).toNat = 0
  ·rw [c]
   refine Evn.some 1 fun j => ?_
   simp only [U7, Ml, Ac, Option.bind_some, Option.isNone_none, Option.isNone_some, Option.isSome_none, Option.isSome_some, Bool.not_true, Bool.not_false, cond_true, cond_false, Aa, Ag, Ai, Ah, As]
   rw [if_neg (by omega), if_neg (by omega)]; rfl
  ·by_cases cl : l.length = 100
   ·omega
   ·have := ih (48 :: l) (by simp; omega) (by simp; omega)
    rw [Bhr (by omega)]
    rw [show (max w 1 - ((48 :: l : List Int).length : Int)).toNat = (max w 1 - (l.length : Int)).toNat - 1 by simp; omega] at this
    refine this.step fun j => ?_
    simp only [U7, Ml, Ac, Option.bind_some, Option.isNone_none, Option.isNone_some, Option.isSome_none, Option.isSome_some, Bool.not_true, Bool.not_false, cond_true, cond_false, Aa, Ag, Ai, Ah, Bof, As, A02, List.length_cons, List.length_nil]
    by_cases c1 : (l.length : Int) < w
    ·rw [if_pos c1, if_pos (by omega)]
    ·rw [if_neg c1, if_pos (by omega), if_pos (by omega)]
theorem Bm0 (w : Int) (hw : w <= 100) : ∀ (k : Nat) (n : Nat) (l : List Int), n < 9223372036854775808 -> (Ad7 n).length <= k -> l.length + k <= 100 ->
  Evn (fun j => (D4 j).1 ((), (((n : Int), ()), ((w, ()), ((Am l, ()), ()))))) ((), ((Am (List.replicate (max w 1 - (Ad7 n).length - l.length).toNat 48 ++ ((Ad7 n).reverse ++ l)), ()), ())) := by
 have e1 : (Am [48]).size = 1 := As _
 have stop : ∀ l : List Int, l.length <= 100 -> Evn (fun j => (D4 j).1 ((), ((((0 : Nat) : Int), ()), ((w, ()), ((Am l, ()), ()))))) ((), ((Am (List.replicate (max w 1 - (Ad7 0).length - l.length).toNat 48 ++ ((Ad7 0).reverse ++ l)), ()), ())) := by
  intro l hl
  rw [Mu]
  have := Bnw w hw (max w 1 - (l.length : Int)).toNat l hl (Nat.le_refl _)
  rw [show (max w 1 - (([] : List Int).length : Int) - (l.length : Int)).toNat = (max w 1 - (l.length : Int)).toNat by simp]
  refine this.step fun j => ?_
  simp only [U7, R4, Ac, Option.bind_some, Option.isNone_none, Option.isNone_some, Option.isSome_none, Option.isSome_some, Bool.not_true, Bool.not_false, cond_true, cond_false, Aa, Ag, Ai, Ah, gt_iff_lt]
  rw [if_neg (by omega)]
 intro k; induction k with
 | zero =>
  intro n l hn hk hl
  have hn0 : n = 0 := by
   by_cases c : n = 0
   ·exact c
   ·rw [Xa c] at hk; simp at hk
  subst hn0
  exact stop l (by omega)
 | succ k ih =>
  intro n l hn hk hl
  by_cases c : n = 0
  ·subst c; exact stop l (by omega)
  ·have hfl : (Ad7 n).length = (Ad7 (n / 10)).length + 1 := by rw [Xa c]; rfl
   have := ih (n / 10) ((48 + (n % 10 : Nat) : Int) :: l) (by omega) (by omega) (by simp; omega)
   rw [show (max w 1 - ((Ad7 (n / 10)).length : Int) - (((48 + (n % 10 : Nat) : Int) :: l).length : Int)).toNat = (max w 1 - ((Ad7 n).length : Int) - (l.length : Int)).toNat by simp; omega,
    show (Ad7 (n / 10)).reverse ++ (48 + (n % 10 : Nat) : Int) :: l = (Ad7 n).reverse ++ l by rw [Xa c]; simp] at this
   have e2 : Da .u8 (A4 .i64 48 (Int.tmod (n : Int) 10)) = 48 + ((n % 10 : Nat) : Int) := by
    rw [Aef (by omega), Ap (by omega), Ar5]; omega
   have e3 : Kc .i64 (n : Int) 10 = ((n / 10 : Nat) : Int) := by rw [S8 (by omega) (by omega)]; omega
   refine this.step fun j => ?_
   simp only [U7, R4, Ac, Option.bind_some, Option.isNone_none, Option.isNone_some, Option.isSome_none, Option.isSome_some, Bool.not_true, Bool.not_false, cond_true, cond_false, Aa, Ag, Ai, Ah, gt_iff_lt, e2, e3, As, A02, List.length_cons, List.length_nil]
   rw [if_pos (by omega), if_pos (by omega)]
theorem Bh5 (n : Nat) (w : Int) : List.replicate (max w 1 - ((Ad7 n).length : Int)).toNat (48 : Int) ++ (Ad7 n).reverse = A5m n w.toNat := by
 unfold A5m
 congr 2
 omega
theorem Bdf (n : Nat) (w : Int) (hn : n < 9223372036854775808) (hw : w <= 100) : Kv ((), (((n : Int), ()), ((w, ()), ()))) = some ((), ((Am (A5m n w.toNat), ()), ())) := by
 have hl := Asd 20 n (by omega)
 have := Bm0 w hw 20 n [] hn hl (by simp)
 rw [List.append_nil, show (max w 1 - ((Ad7 n).length : Int) - (([] : List Int).length : Int)) = max w 1 - ((Ad7 n).length : Int) by simp, Bh5] at this
 refine (this.cast fun j => ?_).lim
 simp only [Ac1, Bez]
theorem A9c (n : Nat) (w : Nat) (hn : n < 18446744073709551616) (hw : w <= 20) : (A5m n w).length <= 20 := by
 have hl := Asd 20 n (by omega)
 unfold A5m
 simp only [List.length_append, List.length_replicate, List.length_reverse]
 omega
def Bpp (v w : Int) : List Int := if v < 0 then 45 :: A5m v.natAbs w.toNat else A5m v.natAbs w.toNat
def Bo9 (w : Int) : Int := if w < 0 \/ 20 < w then 1 else 0
theorem Bmq (v w : Int) (hv : Bmc v) : Lv ((), ((v, ()), ((w, ()), ()))) = some ((), ((if Bo9 w = 0 then Am (Bpp v w) else Am [], ()), ((Alo (Bo9 w), ()), ()))) := by
 unfold Bmc at hv
 simp only [Lv, Aeu, Ac, Option.bind_some, Option.isNone_none, Option.isNone_some, Option.isSome_none, Option.isSome_some, Bool.not_true, Bool.not_false, cond_true, cond_false, Aa, Ag, Ai, Ah, gt_iff_lt, Bez]
 unfold Bo9 Bpp
 by_cases c : w < 0 \/ 20 < w
 ·simp only [c, if_true, show ((1 : Int) = 0) = False by simp, if_false]
  by_cases c1 : w < 0
  ·rw [if_pos c1]; rfl
  ·rw [if_neg c1, if_pos (by omega)]; rfl
 ·simp only [c, if_false, if_true]
  rw [if_neg (by omega), if_neg (by omega)]
  by_cases c2 : v < 0
  ·have e : Bpj .u64 (Da .u64 v) = (v.natAbs : Int) := by
    unfold Bpj; rw [J2, R2]; omega
   have hl := A9c v.natAbs w.toNat (by omega) (by omega)
   rw [if_pos c2, if_pos c2, e, Bfs _ _ (by omega) (by omega)]
   simp only [Ac, Option.bind_some, Option.isNone_none, Option.isNone_some, Option.isSome_none, Option.isSome_some, Bool.not_true, Bool.not_false, cond_true, cond_false, Aa, Ag, Ai, Ah, Bo2, As, A02, List.length_cons, List.length_nil]
   rw [if_pos (by omega)]; rfl
  ·rw [if_neg c2, if_neg c2, J2, show v % 18446744073709551616 = ((v.natAbs : Nat) : Int) by omega, Bfs _ _ (by omega) (by omega)]
   rfl
theorem Bb5 {l : List Int} (h : ∀ x ∈ l, isF x) : Ga l := fun x hx => by
 have := h x hx
 unfold isF at this; omega
theorem Bjj (n w : Nat) : ∀ x ∈ A5m n w, isF x := by
 intro x hx
 unfold A5m at hx
 rcases List.mem_append.1 hx with h | h
 ·rw [(List.mem_replicate.1 h).2]; unfold isF; omega
 ·exact Bk2 n x (List.mem_reverse.1 h)
theorem Blr (n w : Nat) : Ga (A5m n w) := Bb5 (Bjj n w)
theorem Bbd (v w : Int) (h : 0 <= v /\ v <= 9223372036854775807) (hw : 0 <= w /\ w <= 20) : Lv ((), ((v, ()), ((w, ()), ()))) = some ((), ((Am (A5m v.toNat w.toNat), ()), ((none, ()), ()))) := by
 have e : Bo9 w = 0 := if_neg (by omega)
 rw [Bmq v w (by unfold Bmc; omega), e, if_pos rfl]
 unfold Bpp
 rw [if_neg (by omega), show v.natAbs = v.toNat by omega]; rfl
theorem Asl (l m : List Int) (h : l.length + m.length <= 1000000) : Agn (Am l) (Am m) = true := by
 rw [Ac, As, As]; exact decide_eq_true (by omega)
theorem Ur (l m : List Int) (hl : Ga l) (hm : Ga m) : ((Am l).toList == (Am m).toList) = decide (l = m) := by
 rw [Bgq, Fz hl, Fz hm]
theorem Kp : Ga [] := fun x h => by cases h
theorem Aau {x : Int} {l : List Int} (hx : 0 <= x /\ x < 256) (h : Ga l) : Ga (x :: l) := fun y hy => by
 rcases List.mem_cons.1 hy with rfl | q
 ·exact hx
 ·exact h y q
@[reducible] def gL : List Int := [32, 9]
@[reducible] def hxL : List Int := [48, 49, 50, 51, 52, 53, 54, 55, 56, 57, 97, 98, 99, 100, 101, 102, 65, 66, 67, 68, 69, 70]
@[reducible] def hxS : List Int := [48, 49, 50, 51, 52, 53, 54, 55, 56, 57, 97, 98, 99, 100, 101, 102]
theorem A4u : (⟨#[32, 9]⟩ : ByteArray) = Am gL := by kernel_rfl
theorem Beb : (⟨#[48, 49, 50, 51, 52, 53, 54, 55, 56, 57, 97, 98, 99, 100, 101, 102, 65, 66, 67, 68, 69, 70]⟩ : ByteArray) = Am hxL := by kernel_rfl
theorem Bog : (⟨#[48, 49, 50, 51, 52, 53, 54, 55, 56, 57, 97, 98, 99, 100, 101, 102]⟩ : ByteArray) = Am hxS := by kernel_rfl
theorem Bi4 : Ga gL := by unfold Ga; decide
theorem Bfv : Ga hxL := by unfold Ga; decide
theorem A1f (S l : List Int) : l.take (Dp S l) = [] ↔ Dp S l = 0 := by
 have := Apq S l
 rw [List.take_eq_nil_iff]
 constructor
 ·rintro (h | h)
  ·exact h
  ·subst h; rfl
 ·exact .inl
def X1 (n : Nat) (x : X) : X := if Dp gL x.rest = 0 then Bb4 n 2 x else Eu (Dp gL x.rest) x
theorem Ah0 (x : X) : Eu 0 x = x := by cases x <;> simp [Eu]
theorem Akp {s : ByteArray} {x : X} (h : x.wf s) : (X1 s.size x).wf s := by
 unfold X1
 split
 ·exact Bae h 2
 ·exact Xj h _
theorem Aku (s : ByteArray) (x : X) (h : x.wf s) (hs : s.size <= 1000000) : De (x.t s, ((), ())) = some ((X1 s.size x).t s, ((), ())) := by
 simp only [De, Vc, A4u, Abe s x h hs gL Bi4, Option.bind_some, Ad4, Aod, Aa, A1f]
 unfold X1
 by_cases c : Dp gL x.rest = 0
 ·rw [if_pos c, if_pos c, c, Ah0]
  have := A4s s x 2
  rw [this]; rfl
 ·rw [if_neg c, if_neg c]
def Aqf (x : X) : Option Int := (Eu (Dp gL x.rest) x).end
theorem Bf2 (s : ByteArray) (x : X) (h : x.wf s) (hs : s.size <= 1000000) : D8 (x.t s, ((), ())) = some ((Eu (Dp gL x.rest) x).t s, ((Aqf x, ()), ((), ()))) := by
 have he := Amu s (Eu (Dp gL x.rest) x) (Xj h _)
 simp only [X.p] at he
 simp only [D8, Vw, A4u, Abe s x h hs gL Bi4, Option.bind_some, X.t, he]; rfl
def A67 (x : Int) : Int := if 65 <= x /\ x <= 90 then x + 32 else x
def Av9 (x : Int) : Int := if x <= 57 then x - 48 else if x <= 70 then x - 55 else x - 87
def As8 (l : List Int) : Int := l.foldl (fun n x => n * 16 + Av9 x) 0
theorem Bqe (b : UInt8) : ((Lib.lowerB b).toNat : Int) = A67 (b.toNat : Int) := by
 have e : Lib.isUpperB b = true ↔ (65 <= b.toNat /\ b.toNat <= 90) := by
  simp [Lib.isUpperB, UInt8.le_iff_toNat_le]
 have hb := b.toNat_lt
 unfold Lib.lowerB A67
 by_cases c : 65 <= b.toNat /\ b.toNat <= 90
 ·rw [if_pos (e.2 c), if_pos (by omega), UInt8.toNat_add, show (32 : UInt8).toNat = 32 from rfl]; omega
 ·rw [if_neg (fun q => c (e.1 q)), if_neg (by omega)]
theorem Bgf (l : List Int) (ho : Ga l) (hl : l.length <= 1000000) (h : ∀ x ∈ l, x < 128) : L5 ((), ((Am l, ()), ())) = some ((), ((Am (l.map A67), ()), ())) := by
 show Vt _ = _
 unfold Vt
 simp only
 have hb : bytesOf (Am l) = l := Fz ho
 rw [if_pos]
 ·congr 4
  apply Ayb
  rw [Fz]
  ·unfold bytesOf at hb ⊢
   simp only [List.toList_toArray, Lib.toLowerA, List.map_map]
   conv => rhs; rw [<- hb]
   rw [List.map_map]
   exact List.map_congr_left fun b _ => Bqe b
  ·intro x hx
   obtain ⟨y, hy, rfl⟩ := List.mem_map.1 hx
   have := ho y hy
   have := h y hy
   unfold A67
   split <;> omega
 ·refine ⟨by rw [As]; omega, ?_⟩
  rw [List.all_eq_true]
  intro b hbm
  have : ((b.toNat : Int)) ∈ l := by
   rw [<- hb]; unfold bytesOf
   exact List.mem_map_of_mem (f := fun b : UInt8 => (b.toNat : Int)) hbm
  have := h _ this
  rw [decide_eq_true_eq]; omega
theorem Bd7 : ∀ c ∈ hxS, Ez ((), ((Am hxS, ()), ((c, ()), ()))) = some ((), ((Av9 c, ()), ())) := by
 intro c hc
 simp only [hxS, List.mem_cons, List.not_mem_nil, or_false] at hc
 rcases hc with rfl | rfl | rfl | rfl | rfl | rfl | rfl | rfl | rfl | rfl | rfl | rfl | rfl | rfl | rfl | rfl <;> kernel_rfl
theorem A3w : ∀ c ∈ hxS, 0 <= Av9 c /\ Av9 c < 16 := by decide
theorem A1r : ∀ c ∈ hxL, A67 c ∈ hxS /\ Av9 (A67 c) = Av9 c := by decide
theorem Blz : ∀ c ∈ hxL, c < 128 := by decide
theorem Bi1 {n x : Int} (hn : 0 <= n) (h2 : n < 268435456) (h0 : 0 <= x) (h1 : x < 16) : ior .u32 (A2b .u32 n 4) x = n * 16 + x := by
 obtain ⟨a, rfl⟩ := Int.eq_ofNat_of_zero_le hn
 obtain ⟨y, rfl⟩ := Int.eq_ofNat_of_zero_le h0
 have hy : y < 16 := by omega
 have ha : a < 268435456 := by omega
 have e1 : A2b .u32 (a : Int) 4 = (a <<< 4 : Nat) := by
  unfold A2b
  rw [wrap_u32, show min (4 : Int).toNat (IntKind.bits .u32) = 4 from rfl, Nat.shiftLeft_eq]
  omega
 rw [e1]
 unfold ior
 have hlt : a <<< 4 < 2 ^ IntKind.bits .u32 := by rw [Nat.shiftLeft_eq]; simp only [IntKind.bits]; omega
 have e2 : (BitVec.ofInt (IntKind.bits .u32) ((a <<< 4 : Nat) : Int) ||| BitVec.ofInt (IntKind.bits .u32) (y : Int)).toNat = a <<< 4 + y := by
  rw [BitVec.toNat_or, BitVec.toNat_ofInt, BitVec.toNat_ofInt]
  have k1 : (((a <<< 4 : Nat) : Int) % ((2 ^ IntKind.bits .u32 : Nat) : Int)).toNat = a <<< 4 := by
   rw [<- Int.natCast_emod, Int.toNat_natCast, Nat.mod_eq_of_lt hlt]
  have k2 : ((y : Int) % ((2 ^ IntKind.bits .u32 : Nat) : Int)).toNat = y := by
   rw [<- Int.natCast_emod, Int.toNat_natCast, Nat.mod_eq_of_lt (by simp only [IntKind.bits]; omega)]
  rw [k1, k2, Nat.shiftLeft_add_eq_or_of_lt (by omega)]
 rw [e2, wrap_u32, Nat.shiftLeft_eq]
 omega
theorem Avv (l : List Int) (x : Int) : As8 (l ++ [x]) = As8 l * 16 + Av9 x := by simp [As8]
theorem Ahy : ∀ (n : Nat) (l : List Int), l.length = n -> (∀ x ∈ l, x ∈ hxS) -> 0 <= As8 l /\ As8 l < 16 ^ n
 | 0, l, h, _ => by rw [List.eq_nil_of_length_eq_zero h]; decide
 | n + 1, l, h, hf => by
  have hne : l ≠ [] := by intro e; rw [e] at h; cases h
  rw [<- List.dropLast_concat_getLast hne, Avv]
  have h1 := Ahy n l.dropLast (by rw [List.length_dropLast]; omega) (fun x hx => hf x (List.dropLast_subset l hx))
  have h2 := A3w _ (hf _ (List.getLast_mem hne))
  rw [Int.pow_succ]
  omega
theorem Bk8 (x : X) (s : ByteArray) (t : List Int) (ht : ∀ c ∈ t, c ∈ hxS) (hl : t.length <= 8) (ho : Ga t) : ∀ (k i : Nat), i + k = t.length ->
  Evn (fun f => (Dm f).1 (x.t s, ((), ((Am t, ()), ((As8 (t.take i), ()), (((t.length : Int), ()), (((i : Int), ()), ()))))))) (x.t s, ((As8 t, ()), ((), ()))) := by
 intro k
 induction k with
 | zero =>
  intro i hi
  refine Evn.some 1 fun f => ?_
  simp only [Xx, Hs, X.t, Ac, Option.bind_some, Option.isNone_none, Option.isNone_some, Option.isSome_none, Option.isSome_some, Bool.not_true, Bool.not_false, cond_true, cond_false, Aa, Ag, Ai, Ah]
  rw [if_neg (by omega), List.take_of_length_le (by omega)]
 | succ k ih =>
  intro i hi
  refine (ih (i + 1) (by omega)).step fun f => ?_
  have hb := Ajw (Am t) (i := (i : Int)) (by omega) (by rw [As]; omega)
  rw [Fz ho, Int.toNat_natCast] at hb
  have hmem : t.getD i 0 ∈ t := by
   rw [List.getD_eq_getElem?_getD, List.getElem?_eq_getElem (by omega)]; exact List.getElem_mem _
  have hc := ht _ hmem
  have hr := Ahy i (t.take i) (by rw [List.length_take]; omega) (fun x hx => ht x (List.mem_of_mem_take hx))
  have hd := A3w _ hc
  have hp : (16 : Int) ^ i <= 16 ^ 7 := by
   have : 16 ^ i <= 16 ^ 7 := Nat.pow_le_pow_right (by omega) (by omega)
   exact_mod_cast this
  have e1 : As8 (t.take (i + 1)) = As8 (t.take i) * 16 + Av9 (t.getD i 0) := by
   rw [List.take_add_one, <- Avv]
   congr 2
   rw [List.getD_eq_getElem?_getD, List.getElem?_eq_getElem (by omega)]; rfl
  have e2 : Da .u32 (Av9 (t.getD i 0)) = Av9 (t.getD i 0) := by rw [Auk]; omega
  simp only [Xx, Hs, X.t, Ac, Option.bind_some, Option.isNone_none, Option.isNone_some, Option.isSome_none, Option.isSome_some, Bool.not_true, Bool.not_false, cond_true, cond_false, Aa, Ag, Ai, Ah, As, Aq, hb, Bog, Bd7 _ hc, e2]
  rw [if_pos (by omega), if_pos (by omega), Bi1 hr.1 (by omega) hd.1 hd.2, <- e1, Ap (by omega)]; rfl
def wdY (n : Nat) (x : X) : X × Int :=
 if Dp hxL x.rest = 0 \/ 8 < Dp hxL x.rest then (Bb4 n 2 (Eu (Dp hxL x.rest) x), 0) else (Eu (Dp hxL x.rest) x, As8 (x.rest.take (Dp hxL x.rest)))
theorem A2u {s : ByteArray} {x : X} (h : x.wf s) : (wdY s.size x).1.wf s := by
 unfold wdY
 split
 ·exact Bae (Xj h _) 2
 ·exact Xj h _
theorem Bdq {S l : List Int} : ∀ c ∈ l.take (Dp S l), c ∈ S := by
 intro c hc
 obtain ⟨i, hi, rfl⟩ := List.getElem_of_mem hc
 have hl := Apq S l
 rw [List.length_take] at hi
 have := A6u (S := S) (l := l) (i := i) (by omega)
 rw [List.getElem_take]
 rwa [List.getD_eq_getElem?_getD, List.getElem?_eq_getElem (by omega)] at this
theorem A0j : ∀ {l : List Int}, (∀ c ∈ l, c ∈ hxL) -> As8 (l.map A67) = As8 l := by
 intro l h
 unfold As8
 rw [List.foldl_map]
 have : ∀ (l : List Int) (n : Int), (∀ c ∈ l, c ∈ hxL) -> l.foldl (fun n x => n * 16 + Av9 (A67 x)) n = l.foldl (fun n x => n * 16 + Av9 x) n := by
  intro l
  induction l with
  | nil => intro n _; rfl
  | cons a l ih =>
   intro n h
   simp only [List.foldl_cons]
   rw [(A1r a (h a (List.mem_cons_self ..))).2]
   exact ih _ fun c hc => h c (List.mem_cons_of_mem _ hc)
 exact this l 0 h
theorem Anq (s : ByteArray) (x : X) (h : x.wf s) (hs : s.size <= 1000000) : Km (x.t s, ((), ())) = some ((wdY s.size x).1.t s, (((wdY s.size x).2, ()), ((), ()))) := by
 have hr := X.ok_rest h
 have hl := Apq hxL x.rest
 have hm : ∀ c ∈ x.rest.take (Dp hxL x.rest), c ∈ hxL := Bdq
 have hlen : (x.rest.take (Dp hxL x.rest)).length = Dp hxL x.rest := by rw [List.length_take]; omega
 have hlow := Bgf (x.rest.take (Dp hxL x.rest)) (V3 hr.1 _) (by omega) (fun c hc => Blz c (hm c hc))
 have hmap : (x.rest.take (Dp hxL x.rest)).map A67 = [] ↔ Dp hxL x.rest = 0 := by rw [List.map_eq_nil_iff, A1f]
 have hml : ((x.rest.take (Dp hxL x.rest)).map A67).length = Dp hxL x.rest := by rw [List.length_map, hlen]
 have hf := A4s s (Eu (Dp hxL x.rest) x) 2
 unfold wdY
 by_cases c0 : Dp hxL x.rest = 0
 ·rw [if_pos (.inl c0)]
  refine (Evn.const fun f => ?_).lim
  simp only [Fx, Beb, Abe s x h hs hxL Bfv, Option.bind_some, hlow, Ad4, Aod, Aa, hmap]
  rw [if_pos c0, hf]; rfl
 ·by_cases c8 : 8 < Dp hxL x.rest
  ·rw [if_pos (.inr c8)]
   refine (Evn.const fun f => ?_).lim
   simp only [Fx, Beb, Abe s x h hs hxL Bfv, Option.bind_some, hlow, Ad4, Aod, Aa, hmap, As, hml, gt_iff_lt]
   rw [if_neg c0, if_pos (by omega), hf]; rfl
  ·rw [if_neg (by omega)]
   have hS : ∀ c ∈ (x.rest.take (Dp hxL x.rest)).map A67, c ∈ hxS := by
    intro c hc
    obtain ⟨y, hy, rfl⟩ := List.mem_map.1 hc
    exact (A1r y (hm y hy)).1
   have hoS : Ga ((x.rest.take (Dp hxL x.rest)).map A67) := fun c hc => by
    have : ∀ c ∈ hxS, 0 <= c /\ c < 256 := by decide
    exact this c (hS c hc)
   have hw := Bk8 (Eu (Dp hxL x.rest) x) s ((x.rest.take (Dp hxL x.rest)).map A67) hS (by omega) hoS _ 0 (Nat.zero_add _)
   rw [A0j hm] at hw
   refine (hw.cast fun f => ?_).lim
   simp only [Fx, Beb, Abe s x h hs hxL Bfv, Option.bind_some, hlow, Ad4, Aod, Aa, hmap, As, hml, gt_iff_lt]
   rw [if_neg c0, if_neg (by omega)]; rfl
set_option maxRecDepth 4000
def Qs : List Int -> List Int -> List (List Int)
 | cur, [] => [cur]
 | cur, x :: l => if x = 10 then cur :: Qs [] l else Qs (cur ++ [x]) l
theorem Axs : ∀ (l cur : List Int), 10 ∉ l -> Qs cur l = [cur ++ l]
 | [], cur, _ => by rw [Qs, List.append_nil]
 | x :: l, cur, h => by
  rw [Qs, if_neg (fun q => h (by rw [q]; simp)), Axs l _ (fun q => h (by simp [q])), List.append_assoc]; rfl
theorem A38 : ∀ (a cur b : List Int), 10 ∉ a -> Qs cur (a ++ 10 :: b) = (cur ++ a) :: Qs [] b
 | [], cur, b, _ => by rw [List.nil_append, Qs, if_pos rfl, List.append_nil]
 | x :: a, cur, b, h => by
  rw [List.cons_append, Qs, if_neg (fun q => h (by rw [q]; simp)), A38 a _ b (fun q => h (by simp [q])), List.append_assoc]; rfl
theorem Bbf : ∀ (n : Nat) (s : ByteArray), s.size <= n -> Lib.splitB ⟨#[10]⟩ 0 (Lib.countB s ⟨#[10]⟩) s = (Qs [] (bytesOf s)).map Am := by
 intro n
 induction n with
 | zero =>
  intro s hs
  have hb : bytesOf s = [] := List.eq_nil_of_length_eq_zero (by rw [Oi]; omega)
  have hm : Lib.indexB s ⟨#[10]⟩ = -1 := by
   rw [show Lib.indexB s ⟨#[10]⟩ = Lib.index s.data.toList [10] from rfl, Lib.index_one]
   have : s.data.toList = [] := by
    unfold bytesOf at hb
    exact List.map_eq_nil_iff.1 hb
   rw [this]; rfl
  rw [Lib.countB_miss s _ hm, Lib.splitB_zero, hb, Qs, <- hb]
  simp [A87]
 | succ n ih =>
  intro s hs
  have hi : Lib.indexB s ⟨#[10]⟩ = Lib.indexByte s.data.toList 10 := by
   rw [show Lib.indexB s ⟨#[10]⟩ = Lib.index s.data.toList [10] from rfl, Lib.index_one]
  have conv : ∀ k : Nat, (bytesOf s)[k]? = some 10 ↔ s.data.toList[k]? = some 10 := fun k => by
   unfold bytesOf
   rw [List.getElem?_map]
   cases s.data.toList[k]? with
   | none => simp
   | some b =>
    simp only [Option.map_some, Option.some.injEq]
    constructor
    ·intro q; exact UInt8.toNat_inj.1 (by show b.toNat = 10; omega)
    ·rintro rfl; rfl
  rcases Lib.indexB_cases s ⟨#[10]⟩ with hm | ⟨i, hm, hr⟩
  ·have hn : 10 ∉ bytesOf s := fun q => by
    obtain ⟨k, hk⟩ := List.getElem?_of_mem q
    exact Lib.indexByte_none (hi ▸ hm) k ((conv k).1 hk)
   rw [Lib.countB_miss s _ hm, Lib.splitB_zero, Axs _ _ hn, List.nil_append]
   simp [A87]
  ·rw [show (⟨#[10]⟩ : ByteArray).size = 1 from rfl] at hr
   obtain ⟨h1, h2⟩ := Lib.indexByte_some (hi ▸ hm)
   have hl := Oi s
   have h3 := (conv i).2 h1
   have hlt : i < (bytesOf s).length := by omega
   have e : bytesOf s = (bytesOf s).take i ++ 10 :: (bytesOf s).drop (i + 1) := by
    conv => lhs; rw [<- List.take_append_drop i (bytesOf s)]
    congr 1
    rw [List.drop_eq_getElem_cons hlt]
    congr 1
    rw [List.getElem?_eq_getElem hlt] at h3
    exact Option.some.inj h3
   have hn : 10 ∉ (bytesOf s).take i := fun q => by
    obtain ⟨k, hk⟩ := List.getElem?_of_mem q
    have hki : k < i := by
     have := (List.getElem?_eq_some_iff.1 hk).1
     rw [List.length_take] at this; omega
    rw [List.getElem?_take_of_lt hki] at hk
    exact h2 k hki ((conv k).1 hk)
   have hsz : (s.extract (i + 1) s.size).size <= n := by rw [ByteArray.size_extract]; omega
   have hb := Att s (i + 1) s.size
   rw [<- hl, List.take_length] at hb
   rw [Lib.countB_hit s _ i (by decide) hm, Nat.add_comm, Lib.splitB_hit _ 0 _ s i hm, show (⟨#[10]⟩ : ByteArray).size = 1 from rfl, ih _ hsz]
   conv => rhs; rw [e, A38 _ _ _ hn, List.nil_append, List.map_cons]
   rw [<- hl, hb]
   congr 1
   have h0 := Att s 0 (i + 0)
   rw [Nat.add_zero, List.drop_zero] at h0
   rw [Nat.add_zero, <- A87 (s.extract 0 i), h0]
theorem Ba9 (s : ByteArray) (hs : s.size <= 1000000) : Ph ((), ((s, ()), (((⟨#[10]⟩ : ByteArray), ()), ()))) = some ((), (((Qs [] (bytesOf s)).map Am, ()), ())) := by
 show Ael _ = _
 unfold Ael
 simp only
 rw [if_pos ⟨by omega, by decide⟩, Bbf s.size s (Nat.le_refl _)]
theorem A53 (s p : ByteArray) : Cn ((), ((s, ()), ((p, ()), ()))) = some ((), ((decide ((bytesOf s).take p.size = bytesOf p), ()), ())) := by
 have hl := Oi s
 have hp := Oi p
 simp only [Cn, G4, Ac, Option.bind_some, Option.isNone_none, Option.isNone_some, Option.isSome_none, Option.isSome_some, Bool.not_true, Bool.not_false, cond_true, cond_false, Aa, Ag, Ai, Ah, Aq, ge_iff_le]
 by_cases c : p.size <= s.size
 ·rw [if_pos (by omega), if_pos (by omega), Bgq, Att, Int.toNat_natCast]
  rfl
 ·rw [if_neg (by omega), decide_eq_false]
  intro q
  have := congrArg List.length q
  rw [List.length_take] at this; omega
theorem Azc (p : UInt8 -> Bool) : ∀ l : List UInt8, (∀ x ∈ l.dropWhile p, p x = true) -> ∀ x ∈ l, p x = true
 | [], _, x, hx => by cases hx
 | y :: l, h, x, hx => by
  rw [List.dropWhile_cons] at h
  cases hy : p y with
  | true =>
   rw [hy, if_pos rfl] at h
   rcases List.mem_cons.1 hx with rfl | hx
   ·exact hy
   ·exact Azc p l h x hx
  | false =>
   rw [hy, if_neg (by decide)] at h
   have := h y (by simp)
   rw [hy] at this; cases this
theorem A8v (p : UInt8 -> Bool) : ∀ l : List UInt8, l.dropWhile p = [] ↔ ∀ x ∈ l, p x = true
 | [] => by simp
 | y :: l => by
  rw [List.dropWhile_cons]
  cases hy : p y with
  | true =>
   rw [if_pos rfl, A8v p l]
   constructor
   ·intro h x hx
    rcases List.mem_cons.1 hx with rfl | hx
    ·exact hy
    ·exact h x hx
   ·intro h x hx; exact h x (by simp [hx])
  | false =>
   rw [if_neg (by decide)]
   constructor
   ·intro h; cases h
   ·intro h; have := h y (by simp); rw [hy] at this; cases this
theorem Bex (l cs : List UInt8) : Lib.trimS l cs = [] ↔ ∀ x ∈ l, cs.contains x = true := by
 unfold Lib.trimS Lib.trimLeftS Lib.trimRightS
 rw [A8v]
 constructor
 ·intro h x hx
  have := Azc (cs.contains ·) l.reverse (fun y hy => h y (List.mem_reverse.2 hy)) x (List.mem_reverse.2 hx)
  exact this
 ·intro h x hx
  exact h x (List.mem_reverse.1 ((List.dropWhile_sublist _).mem (List.mem_reverse.1 hx)))
theorem Baq (x : UInt8) : ([32, 9] : List UInt8).contains x = decide ((x.toNat : Int) ∈ gL) := by
 have key : ∀ n : Fin 256, ([32, 9] : List UInt8).contains (UInt8.ofNat n.val) = decide (n.val = 32 \/ n.val = 9) := by decide
 have := key ⟨x.toNat, x.toNat_lt⟩
 simp only [UInt8.ofNat_toNat] at this
 rw [this]
 congr 1
 simp only [gL, List.mem_cons, List.not_mem_nil, or_false]
 exact propext ⟨fun h => by omega, fun h => by omega⟩
theorem Bdm (w : List Int) (hw : Ga w) (hl : w.length <= 1000000) : ∃ t : ByteArray, R8 ((), ((Am w, ()), ((Am gL, ()), ()))) = some ((), ((t, ()), ())) /\ ((t.toList == (Am []).toList) = decide (∀ x ∈ w, x ∈ gL)) := by
 rw [<- A4u]
 refine ⟨⟨(Lib.trimS (Am w).data.toList [32, 9]).toArray⟩, ?_, ?_⟩
 ·show Al2 _ = _
  unfold Al2
  simp only
  rw [if_pos ⟨by rw [As]; omega, by decide, by decide⟩]
 ·rw [ByteArray.toList_eq, ByteArray.toList_eq]
  have e1 : (Lib.trimS (Am w).data.toList [32, 9] = []) ↔ ∀ x ∈ w, x ∈ gL := by
   rw [Bex]
   have hb := Fz hw
   unfold bytesOf at hb
   constructor
   ·intro h x hx
    rw [<- hb] at hx
    obtain ⟨b, hb1, rfl⟩ := List.mem_map.1 hx
    have := h b hb1
    rw [Baq] at this
    exact of_decide_eq_true this
   ·intro h b hb1
    rw [Baq]
    refine decide_eq_true (h _ ?_)
    rw [<- hb]
    exact List.mem_map_of_mem hb1
  rw [show (Am []).data.toList = [] from rfl, List.toList_toArray]
  by_cases c : ∀ x ∈ w, x ∈ gL
  ·rw [decide_eq_true c, e1.2 c]; rfl
  ·rw [decide_eq_false c]
   have := fun q => c (e1.1 q)
   cases hh : Lib.trimS (Am w).data.toList [32, 9] with
   | nil => exact absurd hh this
   | cons _ _ => rfl
theorem Apc (l p : List Int) (hl : Ga l) (hp : Ga p) : D7 ((), ((Am l, ()), ((Am p, ()), ()))) = some ((), ((decide (l.take p.length = p), ()), ())) := by
 simp only [D7, Sz, A53, Option.bind_some, Fz hl, Fz hp, As]
def A2c (l : List Int) : List Int := if l.getLast? = some 10 then l.dropLast else l
theorem Bjp (l : List Int) (hl : Ga l) (hs : l.length <= 1000000) : Fy ((), ((Am l, ()), ((Am [10], ()), ()))) = some ((), ((Am (A2c l), ()), ())) := by
 have hx : Co ((), ((Am l, ()), ((Am [10], ()), ()))) = some ((), ((decide (l.getLast? = some 10), ()), ())) := by
  simp only [Co, G6, Ac, Option.bind_some, Option.isNone_none, Option.isNone_some, Option.isSome_none, Option.isSome_some, Bool.not_true, Bool.not_false, cond_true, cond_false, Aa, Ag, Ai, Ah, Aq, ge_iff_le, As, List.length_cons, List.length_nil, Yx, List.take_length, Int.toNat_natCast]
  cases hc : l with
  | nil => simp
  | cons a t =>
   have hne : a :: t ≠ [] := by simp
   rw [<- hc] at hne ⊢
   have hpos : 0 < l.length := by rw [hc]; simp
   rw [if_pos (by omega), A3 (by omega), if_pos (by omega)]
   rw [show (((l.length : Int) - ((0 + 1 : Nat) : Int))).toNat = l.length - 1 by omega]
   rw [Ur _ _ (Aei hl _) (by intro x hx; rw [List.mem_singleton.1 hx]; decide)]
   have hd : l.drop (l.length - 1) = [l.getLast hne] := by
    rw [List.drop_eq_getElem_cons (by omega), List.drop_eq_nil_of_le (by omega), List.getLast_eq_getElem]
   rw [hd, List.getLast?_eq_some_getLast hne]
   simp
 simp only [Fy, Qu, C2, Gw, hx, Ac, Option.bind_some, Option.isNone_none, Option.isNone_some, Option.isSome_none, Option.isSome_some, Bool.not_true, Bool.not_false, cond_true, cond_false, Aa, Ag, Ai, Ah, Aq, As, List.length_cons, List.length_nil, Yx, List.drop_zero, show (0 : Int).toNat = 0 from rfl]
 unfold A2c
 by_cases c : l.getLast? = some 10
 ·rw [if_pos c, if_pos c]
  have hpos : 0 < l.length := by
   cases l with
   | nil => cases c
   | cons _ _ => simp
  rw [A3 (by omega), if_pos (by omega), show (((l.length : Int) - ((0 + 1 : Nat) : Int))).toNat = l.length - 1 by omega, <- List.dropLast_eq_take]
  rfl
 ·rw [if_neg c, if_neg c]; rfl
def Tt (y : Int) : Prop := y % 4 = 0 /\ (y % 100 ≠ 0 \/ y % 400 = 0)
instance (y : Int) : Decidable (Tt y) := by unfold Tt; infer_instance
def A4k (y m : Int) : Int := if m = 2 then (if Tt y then 29 else 28) else if m = 4 \/ m = 6 \/ m = 9 \/ m = 11 then 30 else 31
def Auz (y : Int) : Int := if Tt y then 366 else 365
def F0 (y m d : Int) : Int :=
 if m <= 2 then 365 * (y - 1) + (y - 1) / 4 - (y - 1) / 100 + (y - 1) / 400 + (153 * (m + 9) + 2) / 5 + d - 1 - 719468
 else 365 * y + y / 4 - y / 100 + y / 400 + (153 * (m - 3) + 2) / 5 + d - 1 - 719468
theorem Aaf (y m : Int) : 28 <= A4k y m /\ A4k y m <= 31 := by
 unfold A4k; split <;> (split <;> omega)
theorem A0h {a c : Int} : Int.tmod a c = 0 ↔ a % c = 0 :=
 ⟨fun h => Int.emod_eq_zero_of_dvd (Int.dvd_of_tmod_eq_zero h), fun h => Int.tmod_eq_zero_of_dvd (Int.dvd_of_emod_eq_zero h)⟩
theorem Axm (y : Int) : N9 ((), ((y, ()), ())) = some ((), ((decide (Tt y), ()), ())) := by
 simp only [N9, Ai4, Ac, Option.bind_some, Option.isNone_none, Option.isNone_some, Option.isSome_none, Option.isSome_some, Bool.not_true, Bool.not_false, cond_true, cond_false, Aa, Ag, Ai, Ah, ne_eq, A0h, Tt]
 by_cases h1 : y % 4 = 0 <;> by_cases h2 : y % 100 = 0 <;> by_cases h3 : y % 400 = 0 <;> simp [h1, h2, h3]
 all_goals omega
theorem Apo (y : Int) : Lh ((), ((y, ()), ())) = some ((), ((Auz y, ()), ())) := by
 simp only [Lh, Aja, Ac, Option.bind_some, Option.isNone_none, Option.isNone_some, Option.isSome_none, Option.isSome_some, Bool.not_true, Bool.not_false, cond_true, cond_false, Aa, Ag, Ai, Ah, Axm, Auz]
 split <;> rfl
theorem Aut (a c : Int) (hc : 0 < c) (h : -9223372036854775807 <= a /\ a <= 9223372036854775807) : Nx ((), ((a, ()), ((c, ()), ()))) = some ((), ((a / c, ()), ())) := by
 simp only [Nx, Am9, Ac, Option.bind_some, Option.isNone_none, Option.isNone_some, Option.isSome_none, Option.isSome_some, Bool.not_true, Bool.not_false, cond_true, cond_false, Aa, Ag, Ai, Ah]
 rw [if_neg (by omega), if_neg (by omega), A1y hc (by omega), A85 c hc]
 have hm : 0 <= a % c := Int.emod_nonneg _ (by omega)
 have hn : 0 <= (-a) % c := Int.emod_nonneg _ (by omega)
 by_cases h0 : 0 <= a
 ·rw [if_pos h0, if_pos h0, if_neg (by omega)]
 ·rw [if_neg h0, if_neg h0]
  have e1 := Int.mul_ediv_add_emod a c
  have e2 := Int.mul_ediv_add_emod (-a) c
  have l1 := Int.emod_lt_of_pos a hc
  have l2 := Int.emod_lt_of_pos (-a) hc
  have q0 : 0 <= (-a) / c := Int.ediv_nonneg (by omega) (by omega)
  have q1 : (-a) / c <= -a := Int.ediv_le_self _ (by omega)
  by_cases h1 : -(-a % c) < 0
  ·rw [if_pos h1, A3 (by omega)]
   have : a / c = -(-a / c) - 1 := ((Int.ediv_emod_unique (r := c - -a % c) hc).2 ⟨by rw [Int.mul_sub, Int.mul_neg]; omega, by omega, by omega⟩).1
   rw [this]
  ·rw [if_neg h1]
   have : a / c = -(-a / c) := ((Int.ediv_emod_unique (r := 0) hc).2 ⟨by rw [Int.mul_neg]; omega, by omega, by omega⟩).1
   rw [this]
theorem Axo (y m d : Int) (hy : -20000 <= y /\ y <= 20000) (hm : 1 <= m /\ m <= 12) (hd : 1 <= d /\ d <= 31) : Ob ((), ((y, ()), ((m, ()), ((d, ()), ())))) = some ((), ((F0 y m d, ()), ())) := by
 simp only [Ob, Ais, Ac, Option.bind_some, Option.isNone_none, Option.isNone_some, Option.isSome_none, Option.isSome_some, Bool.not_true, Bool.not_false, cond_true, cond_false, Aa, Ag, Ai, Ah, F0]
 by_cases h : m <= 2
 ·rw [if_pos h, if_pos h]
  simp (disch := omega) only [Aut, Option.bind_some, A3, Ap, Hy, S8]
  rw [show y - 1 - (y - 1) / 400 * 400 = (y - 1) % 400 by omega]
  congr 4
  omega
 ·rw [if_neg h, if_neg h]
  simp (disch := omega) only [Aut, Option.bind_some, A3, Ap, Hy, S8]
  rw [show y - y / 400 * 400 = y % 400 by omega]
  congr 4
  omega
theorem Am8 : Nw ((), ()) = some ((), ((-4371587, ()), ())) := by
 simp only [Nw, Al9, Axo (-9999) 1 1 (by omega) (by omega) (by omega)]; rfl
theorem Asc : Rg ((), ()) = some ((), ((2932896, ()), ())) := by
 simp only [Rg, Aq5, Axo 9999 12 31 (by omega) (by omega) (by omega)]; rfl
structure RS where
 up : Option Int
 ex : Option Int
 dg : Option (Int × (Int × (Int × (Int × Int))))
 rows : List (Int × Int)
@[reducible] def RS.t (r : RS) : ((Option Int) × ((Option Int) × ((Option (Int × (Int × (Int × (Int × Int))))) × Unit))) × ((List (Int × Int)) × Unit) := ((r.up, (r.ex, (r.dg, ()))), (r.rows, ()))
def Ahg (l : List Int) : Int × Option Int :=
 ((Adg l.length 1 13 (X1 l.length (.good l))).2, Aqf (Adg l.length 1 13 (X1 l.length (.good l))).1)
theorem Bjq (l : List Int) (hl : Ga l) (hs : l.length <= 1000000) : ∃ y z : X, De ((X.good l).t (Am l), ((), ())) = some (y.t (Am l), ((), ())) /\
  Ax (y.t (Am l), ((), (((1 : Int), ()), (((13 : Int), ()), ())))) = some (z.t (Am l), (((Ahg l).1, ()), ((), ()))) /\
  D8 (z.t (Am l), ((), ())) = some ((Eu (Dp gL z.rest) z).t (Am l), (((Ahg l).2, ()), ((), ()))) := by
 have hz : (Am l).size = l.length := As l
 have w0 : X.wf (Am l) (.good l) := ⟨[], by rw [Fz hl]; rfl⟩
 have w1 := Akp w0
 have h1 := Aku (Am l) (.good l) w0 (by omega)
 have h2 := Af1 (Am l) _ w1 (by omega) 1 13 (by omega)
 have h3 := Bf2 (Am l) _ (A7i w1 1 13) (by omega)
 rw [hz] at h1 h2 h3
 exact ⟨_, _, h1, h2, h3⟩
theorem A0s (l : List Int) (hl : Ga l) : Df ((), ((Am l, ()), ())) = some ((X.good l).t (Am l), ((), ())) := by
 rw [Bhp, Fz hl]
def S0 (n : Nat) : Nat -> X -> X × List Int
 | 0, x => (x, [])
 | k + 1, x => ((S0 n k (wdY n (X1 n x)).1).1, (wdY n (X1 n x)).2 :: (S0 n k (wdY n (X1 n x)).1).2)
@[reducible] def Bm9 (l : List Int) : Int × (Int × (Int × (Int × Int))) := (l.getD 0 0, (l.getD 1 0, (l.getD 2 0, (l.getD 3 0, l.getD 4 0))))
def Bl0 (l : List Int) : List Int × Option Int := ((S0 l.length 5 (.good l)).2, Aqf (S0 l.length 5 (.good l)).1)
def A5i (r : RS) (l : List Int) : RS × Option Int :=
 match (Bl0 l).2 with
 | some c => (r, some c)
 | none => if r.dg.isSome then (r, some 2) else ({ r with dg := some (Bm9 (Bl0 l).1) }, none)
theorem Blp (r : RS) (s : ByteArray) (hs : s.size <= 1000000) (x : X) (h : x.wf s) (a b c d e : Int) : Evn (fun f => (Aw f).1 (((r.up, (r.ex, (r.dg, ()))), (r.rows, ((s, (x.at s.size, (x.er, ()))), ((a, (b, (c, (d, (e, ()))))), ())))), ((), ((), ((), ((5, ()), ()))))))
  (((match Aqf x with | some c => r | none => if r.dg.isSome then r else { r with dg := some (a, (b, (c, (d, e)))) }).t, (((match Aqf x with | some c => some c | none => if r.dg.isSome then some 2 else none), ()), ((), ())))) := by
 have he := Bf2 s x h hs
 simp only [X.t] at he
 refine Evn.some 1 fun f => ?_
 simp only [C8, Bp, he, Ac, Option.bind_some, Option.isNone_none, Option.isNone_some, Option.isSome_none, Option.isSome_some, Bool.not_true, Bool.not_false, cond_true, cond_false, Aa, Ag, Ai, Ah]
 rw [if_neg (by decide)]
 cases Aqf x with
 | some c => rfl
 | none =>
  simp only [Option.isNone_none, Bool.not_true, cond_false]
  cases hd : r.dg with
  | some _ => simp [hd]
  | none => simp
theorem Bpz (r : RS) (s : ByteArray) (hs : s.size <= 1000000) (x : X) (h : x.wf s) (a b c d e : Int) : Evn (fun f => (Aw f).1 (((r.up, (r.ex, (r.dg, ()))), (r.rows, ((s, (x.at s.size, (x.er, ()))), ((a, (b, (c, (d, (e, ()))))), ())))), ((), ((), ((), ((4, ()), ()))))))
  (((match Aqf (S0 s.size 1 x).1 with | some c => r | none => if r.dg.isSome then r else { r with dg := some (a, (b, (c, (d, (S0 s.size 1 x).2.getD 0 0)))) }).t, (((match Aqf (S0 s.size 1 x).1 with | some c => some c | none => if r.dg.isSome then some 2 else none), ()), ((), ())))) := by
 have hg := Aku s x h hs
 have w1 := Akp h
 have hw := Anq s _ w1 hs
 simp only [X.t] at hg hw
 have hn := Blp r s hs _ (A2u w1) a b c d ((wdY s.size (X1 s.size x)).2)
 have e : S0 s.size 1 x = ((wdY s.size (X1 s.size x)).1, [(wdY s.size (X1 s.size x)).2]) := rfl
 rw [e]
 simp only [List.getD_cons_zero, List.getD_cons_succ]
 refine hn.step fun f => ?_
 simp only [C8, Bp, hg, hw, Option.bind_some, cond_true, cond_false, Bool.and_self, decide_true, decide_false, show decide ((4 : Int) < 5) = true from rfl, show decide ((0 : Int) <= 4) = true from rfl, show decide ((4 : Int) = 0) = false from rfl, show decide ((4 : Int) = 1) = false from rfl, show decide ((4 : Int) = 2) = false from rfl, show decide ((4 : Int) = 3) = false from rfl, show decide ((4 : Int) = 4) = true from rfl, show A4 .i64 (4 : Int) 1 = 5 from rfl]
theorem Bp8 (r : RS) (s : ByteArray) (hs : s.size <= 1000000) (x : X) (h : x.wf s) (a b c d e : Int) : Evn (fun f => (Aw f).1 (((r.up, (r.ex, (r.dg, ()))), (r.rows, ((s, (x.at s.size, (x.er, ()))), ((a, (b, (c, (d, (e, ()))))), ())))), ((), ((), ((), ((3, ()), ()))))))
  (((match Aqf (S0 s.size 2 x).1 with | some c => r | none => if r.dg.isSome then r else { r with dg := some (a, (b, (c, ((S0 s.size 2 x).2.getD 0 0, (S0 s.size 2 x).2.getD 1 0)))) }).t, (((match Aqf (S0 s.size 2 x).1 with | some c => some c | none => if r.dg.isSome then some 2 else none), ()), ((), ())))) := by
 have hg := Aku s x h hs
 have w1 := Akp h
 have hw := Anq s _ w1 hs
 simp only [X.t] at hg hw
 have hn := Bpz r s hs _ (A2u w1) a b c ((wdY s.size (X1 s.size x)).2) e
 have e : S0 s.size 2 x = ((S0 s.size 1 (wdY s.size (X1 s.size x)).1).1, (wdY s.size (X1 s.size x)).2 :: (S0 s.size 1 (wdY s.size (X1 s.size x)).1).2) := rfl
 rw [e]
 simp only [List.getD_cons_zero, List.getD_cons_succ]
 refine hn.step fun f => ?_
 simp only [C8, Bp, hg, hw, Option.bind_some, cond_true, cond_false, Bool.and_self, decide_true, decide_false, show decide ((3 : Int) < 5) = true from rfl, show decide ((0 : Int) <= 3) = true from rfl, show decide ((3 : Int) = 0) = false from rfl, show decide ((3 : Int) = 1) = false from rfl, show decide ((3 : Int) = 2) = false from rfl, show decide ((3 : Int) = 3) = true from rfl, show A4 .i64 (3 : Int) 1 = 4 from rfl]
theorem Bp4 (r : RS) (s : ByteArray) (hs : s.size <= 1000000) (x : X) (h : x.wf s) (a b c d e : Int) : Evn (fun f => (Aw f).1 (((r.up, (r.ex, (r.dg, ()))), (r.rows, ((s, (x.at s.size, (x.er, ()))), ((a, (b, (c, (d, (e, ()))))), ())))), ((), ((), ((), ((2, ()), ()))))))
  (((match Aqf (S0 s.size 3 x).1 with | some c => r | none => if r.dg.isSome then r else { r with dg := some (a, (b, ((S0 s.size 3 x).2.getD 0 0, ((S0 s.size 3 x).2.getD 1 0, (S0 s.size 3 x).2.getD 2 0)))) }).t, (((match Aqf (S0 s.size 3 x).1 with | some c => some c | none => if r.dg.isSome then some 2 else none), ()), ((), ())))) := by
 have hg := Aku s x h hs
 have w1 := Akp h
 have hw := Anq s _ w1 hs
 simp only [X.t] at hg hw
 have hn := Bp8 r s hs _ (A2u w1) a b ((wdY s.size (X1 s.size x)).2) d e
 have e : S0 s.size 3 x = ((S0 s.size 2 (wdY s.size (X1 s.size x)).1).1, (wdY s.size (X1 s.size x)).2 :: (S0 s.size 2 (wdY s.size (X1 s.size x)).1).2) := rfl
 rw [e]
 simp only [List.getD_cons_zero, List.getD_cons_succ]
 refine hn.step fun f => ?_
 simp only [C8, Bp, hg, hw, Option.bind_some, cond_true, cond_false, Bool.and_self, decide_true, decide_false, show decide ((2 : Int) < 5) = true from rfl, show decide ((0 : Int) <= 2) = true from rfl, show decide ((2 : Int) = 0) = false from rfl, show decide ((2 : Int) = 1) = false from rfl, show decide ((2 : Int) = 2) = true from rfl, show A4 .i64 (2 : Int) 1 = 3 from rfl]
theorem Bp0 (r : RS) (s : ByteArray) (hs : s.size <= 1000000) (x : X) (h : x.wf s) (a b c d e : Int) : Evn (fun f => (Aw f).1 (((r.up, (r.ex, (r.dg, ()))), (r.rows, ((s, (x.at s.size, (x.er, ()))), ((a, (b, (c, (d, (e, ()))))), ())))), ((), ((), ((), ((1, ()), ()))))))
  (((match Aqf (S0 s.size 4 x).1 with | some c => r | none => if r.dg.isSome then r else { r with dg := some (a, ((S0 s.size 4 x).2.getD 0 0, ((S0 s.size 4 x).2.getD 1 0, ((S0 s.size 4 x).2.getD 2 0, (S0 s.size 4 x).2.getD 3 0)))) }).t, (((match Aqf (S0 s.size 4 x).1 with | some c => some c | none => if r.dg.isSome then some 2 else none), ()), ((), ())))) := by
 have hg := Aku s x h hs
 have w1 := Akp h
 have hw := Anq s _ w1 hs
 simp only [X.t] at hg hw
 have hn := Bp4 r s hs _ (A2u w1) a ((wdY s.size (X1 s.size x)).2) c d e
 have e : S0 s.size 4 x = ((S0 s.size 3 (wdY s.size (X1 s.size x)).1).1, (wdY s.size (X1 s.size x)).2 :: (S0 s.size 3 (wdY s.size (X1 s.size x)).1).2) := rfl
 rw [e]
 simp only [List.getD_cons_zero, List.getD_cons_succ]
 refine hn.step fun f => ?_
 simp only [C8, Bp, hg, hw, Option.bind_some, cond_true, cond_false, Bool.and_self, decide_true, decide_false, show decide ((1 : Int) < 5) = true from rfl, show decide ((0 : Int) <= 1) = true from rfl, show decide ((1 : Int) = 0) = false from rfl, show decide ((1 : Int) = 1) = true from rfl, show A4 .i64 (1 : Int) 1 = 2 from rfl]
theorem Bpy (r : RS) (s : ByteArray) (hs : s.size <= 1000000) (x : X) (h : x.wf s) (a b c d e : Int) : Evn (fun f => (Aw f).1 (((r.up, (r.ex, (r.dg, ()))), (r.rows, ((s, (x.at s.size, (x.er, ()))), ((a, (b, (c, (d, (e, ()))))), ())))), ((), ((), ((), ((0, ()), ()))))))
  (((match Aqf (S0 s.size 5 x).1 with | some c => r | none => if r.dg.isSome then r else { r with dg := some ((S0 s.size 5 x).2.getD 0 0, ((S0 s.size 5 x).2.getD 1 0, ((S0 s.size 5 x).2.getD 2 0, ((S0 s.size 5 x).2.getD 3 0, (S0 s.size 5 x).2.getD 4 0)))) }).t, (((match Aqf (S0 s.size 5 x).1 with | some c => some c | none => if r.dg.isSome then some 2 else none), ()), ((), ())))) := by
 have hg := Aku s x h hs
 have w1 := Akp h
 have hw := Anq s _ w1 hs
 simp only [X.t] at hg hw
 have hn := Bp0 r s hs _ (A2u w1) ((wdY s.size (X1 s.size x)).2) b c d e
 have e : S0 s.size 5 x = ((S0 s.size 4 (wdY s.size (X1 s.size x)).1).1, (wdY s.size (X1 s.size x)).2 :: (S0 s.size 4 (wdY s.size (X1 s.size x)).1).2) := rfl
 rw [e]
 simp only [List.getD_cons_zero, List.getD_cons_succ]
 refine hn.step fun f => ?_
 simp only [C8, Bp, hg, hw, Option.bind_some, cond_true, cond_false, Bool.and_self, decide_true, decide_false, show decide ((0 : Int) < 5) = true from rfl, show decide ((0 : Int) <= 0) = true from rfl, show decide ((0 : Int) = 0) = true from rfl, show A4 .i64 (0 : Int) 1 = 1 from rfl]
theorem Ble (r : RS) (l : List Int) (hl : Ga l) (hs : l.length <= 1000000) : Fl (r.t, ((), ((Am l, ()), ()))) = some ((A5i r l).1.t, (((A5i r l).2, ()), ((), ()))) := by
 have hz : (Am l).size = l.length := As l
 have w0 : X.wf (Am l) (.good l) := ⟨[], by rw [Fz hl]; rfl⟩
 have h := Bpy r (Am l) (by omega) (.good l) w0 0 0 0 0 0
 rw [hz] at h
 have hn := A0s l hl
 simp only [X.t, hz] at hn
 unfold A5i Bl0
 generalize S0 l.length 5 (.good l) = p at h ⊢
 have e : (((match Aqf p.1 with | some c => r | none => if r.dg.isSome then r else { r with dg := some (Bm9 p.2) }).t, (((match Aqf p.1 with | some c => some c | none => if r.dg.isSome then some 2 else none), ()), ((), ())))) =
   (((match Aqf p.1 with | some c => ((r, some c) : RS × Option Int) | none => if r.dg.isSome then (r, some 2) else ({ r with dg := some (Bm9 p.2) }, none)).1.t, (((match Aqf p.1 with | some c => ((r, some c) : RS × Option Int) | none => if r.dg.isSome then (r, some 2) else ({ r with dg := some (Bm9 p.2) }, none)).2, ()), ((), ())))) := by
  cases Aqf p.1 with
  | some c => rfl
  | none =>
   simp only
   cases r.dg.isSome <;> rfl
 refine (Evn.cast (out := _) (e ▸ h) fun f => ?_).lim
 simp only [Hd, RS.t, hn, Option.bind_some]
theorem Bef : Agk ((), (((3 : Int), ()), (((0 : Int), ()), ()))) = some ((), ((-25567, ()), ((none, ()), ()))) := by
 have hz : Uz ((), (((3 : Int), ()), ())) = some ((), ((25567, ()), ((none, ()), ()))) := rfl
 simp only [Agk, Avw, hz, Am8, Asc, Ac, Option.bind_some, Option.isNone_none, Option.isNone_some, Option.isSome_none, Option.isSome_some, Bool.not_true, Bool.not_false, cond_true, cond_false, Aa, Ag, Ai, Ah]
 rw [Ap (by omega), Ap (by omega), A3 (by omega)]
 rfl
def A6l (n : Int) : Int × Option Int := if n % 86400 = 0 then (n / 86400 - 25567, none) else (0, some 1)
theorem Bgs (n : Int) (h : 0 <= n /\ n < 10000000000000) : Fs ((), ((n, ()), ())) = some ((), (((A6l n).1, ()), (((A6l n).2, ()), ()))) := by
 have e1 : Int.tmod n 86400 = n % 86400 := Int.tmod_eq_emod_of_nonneg h.1
 have e2 : Kc .i64 n 86400 = n / 86400 := by
  unfold Kc
  rw [Int.tdiv_eq_ediv_of_nonneg h.1]
  exact IntWalk.i64_in _ (by omega)
 simp only [Fs, Xg, e1, e2, Bef, Ac, Option.bind_some, Option.isNone_none, Option.isNone_some, Option.isSome_none, Option.isSome_some, Bool.not_true, Bool.not_false, cond_true, cond_false, Aa, Ag, Ai, Ah]
 unfold A6l
 by_cases c : n % 86400 = 0
 ·rw [if_neg (not_not_intro c), if_pos c, Ap (by omega)]
  congr 4
  omega
 ·rw [if_pos c, if_neg c]
theorem A00 (s : ByteArray) (x : X) (h : x.wf s) (hs : s.size <= 1000000) : Cu (x.t s, ((), (((x.rest.length : Int), ()), ()))) = some ((Eu x.rest.length x).t s, ((), ())) := by
 have hg := Aoh s x
 have hf := Av3 s x h
 have ht := Am3 s x h hs x.rest.length (Nat.le_refl _)
 simp only [X.p] at hg hf
 simp only [X.t] at ht
 simp only [Cu, I0, X.t, hg, hf, Ac, Option.bind_some, Option.isNone_none, Option.isNone_some, Option.isSome_none, Option.isSome_some, Bool.not_true, Bool.not_false, cond_true, cond_false, Aa, Ag, Ai, Ah, gt_iff_lt, Int.lt_irrefl, ht]
 cases x with
 | good l =>
  simp only [X.er, Option.isNone_none, Bool.not_true, cond_false, Bool.false_eq_true, if_false, not_true_eq_false]
  rw [if_neg (by omega)]
 | bad i c => rfl
def Ahb (x : X) : X :=
 if Dp gL x.rest = 0 then x else
  if Bkn 35 (Eu (Dp gL x.rest) x) then Eu (Eu 1 (Eu (Dp gL x.rest) x)).rest.length (Eu 1 (Eu (Dp gL x.rest) x)) else Eu (Dp gL x.rest) x
def Bea (l : List Int) : X × (Int × Int) :=
 let n := l.length
 let a := Adg n 1 13 (Eu (Dp gL l) (.good l))
 let b := Adg n 1 4 (X1 n a.1)
 (Ahb b.1, (a.2, b.2))
def Bcz (l : List Int) : Option Int × List (Int × Int) :=
 match (Bea l).1.end with
 | some c => (some c, [])
 | none => match (A6l (Bea l).2.1).2 with
  | some c => (some c, [])
  | none => (none, [((A6l (Bea l).2.1).1, (Bea l).2.2)])
theorem Bms (r : RS) (l : List Int) (hl : Ga l) (hs : l.length <= 1000000) (hr : r.rows.length <= 1000000) : Ea (r.t, ((), ((Am l, ()), ()))) = some (({ r with rows := r.rows ++ (Bcz l).2 } : RS).t, (((Bcz l).1, ()), ((), ()))) := by
 have hz : (Am l).size = l.length := As l
 have w0 : X.wf (Am l) (.good l) := ⟨[], by rw [Fz hl]; rfl⟩
 have hn := A0s l hl
 have h1 := Abe (Am l) (.good l) w0 (by omega) gL Bi4
 have w1 := Xj w0 (Dp gL l)
 have h2 := Af1 (Am l) _ w1 (by omega) 1 13 (by omega)
 have w2 := A7i w1 1 13
 have v2 := A89 l.length 1 13 (by omega) (Eu (Dp gL l) (.good l))
 have h3 := Aku (Am l) _ w2 (by omega)
 have w3 := Akp w2
 have h4 := Af1 (Am l) _ w3 (by omega) 1 4 (by omega)
 have w4 := A7i w3 1 4
 rw [hz] at h2 h3 h4 w2 w3 w4
 have hrow : (Bea l) = (Ahb (Adg l.length 1 4 (X1 l.length (Adg l.length 1 13 (Eu (Dp gL l) (.good l))).1)).1, ((Adg l.length 1 13 (Eu (Dp gL l) (.good l))).2, (Adg l.length 1 4 (X1 l.length (Adg l.length 1 13 (Eu (Dp gL l) (.good l))).1)).2)) := rfl
 generalize Adg l.length 1 13 (Eu (Dp gL l) (.good l)) = a at *
 generalize Adg l.length 1 4 (X1 l.length a.1) = b at *
 have h5 := Abe (Am l) b.1 w4 (by omega) gL Bi4
 have w5 := Xj w4 (Dp gL b.1.rest)
 have h6 := Bdg (Am l) _ w5 (by omega) 35
 have fin : ∀ z : X, z.wf (Am l) -> z = Ahb b.1 -> (Bl ((), ((z.p (Am l), ()), ())) = some ((), ((z.end, ()), ()))) := fun z hz _ => Amu _ z hz
 have hday := Bgs a.2 (by rw [show (10000000000000 : Int) = 10 ^ 13 from rfl]; exact v2)
 have he := Aod (b.1.rest.take (Dp gL b.1.rest))
 simp only [A1f] at he
 have room : ∀ x : Int × Int, decide (((r.rows.length + [x].length) * 16 : Nat) <= 140737488355328) = true /\ decide (r.rows.length + [x].length <= 9223372036854775807) = true := fun x => by
  simp only [List.length_cons, List.length_nil, decide_eq_true_eq]; omega
 have post : ∀ (o : Option Int) (x : Int × Int), o = (Bea l).1.end -> x = ((A6l a.2).1, b.2) -> (match o with
   | some c => (some (r.t, ((some c, ()), ((), ()))) : Option ((((Option Int) × ((Option Int) × ((Option (Int × (Int × (Int × (Int × Int))))) × Unit))) × ((List (Int × Int)) × Unit)) × (((Option Int) × Unit) × (Unit × Unit))))
   | none => match (A6l a.2).2 with
    | some c => some (r.t, ((some c, ()), ((), ())))
    | none => some (({ r with rows := r.rows ++ [x] } : RS).t, ((none, ()), ((), ())))) = some (({ r with rows := r.rows ++ (Bcz l).2 } : RS).t, (((Bcz l).1, ()), ((), ()))) := by
  intro o x ho hx
  subst hx
  unfold Bcz
  rw [<- ho, hrow]
  cases o with
  | some c => simp
  | none =>
   simp only
   cases hq : (A6l a.2).2 with
   | some c => simp
   | none => simp
 have k1 : ((1 : Nat) : Int) = 1 := rfl
 have k13 : ((13 : Nat) : Int) = 13 := rfl
 have k4 : ((4 : Nat) : Int) = 4 := rfl
 rw [show (X.good l).rest = l from rfl] at h1
 rw [k1, k13] at h2
 rw [k1, k4] at h4
 simp only [X.t, hz] at hn h1 h2 h3 h4 h5 h6
 simp only [Ea, Ma, A4u, RS.t, hn, h1, h2, h3, h4, h5, Option.bind_some, Ad4, he, Ah, Aa]
 by_cases c0 : Dp gL b.1.rest = 0
 ·have ht : Ahb b.1 = b.1 := by unfold Ahb; rw [if_pos c0]
  have hend := Amu (Am l) b.1 w4
  simp only [X.p, hz] at hend
  rw [if_neg (not_not_intro c0), c0, Ah0]
  simp only [hend, hday, Option.bind_some]
  have hp := post b.1.end ((A6l a.2).1, b.2) (by rw [hrow, ht]) rfl
  cases hb : b.1.end with
  | some c => rw [hb] at hp; exact hp
  | none =>
   rw [hb] at hp
   cases hd : (A6l a.2).2 with
   | some c => rw [hd] at hp; simp only [Option.isNone_none, Option.isNone_some, Bool.not_true, Bool.not_false, cond_true, cond_false]; exact hp
   | none =>
    rw [hd] at hp
    simp only [Option.isNone_none, Bool.not_true, cond_false, (room _).1, (room _).2, Bool.and_self, cond_true]; exact hp
 ·rw [if_pos c0]
  simp only [h6, Option.bind_some]
  by_cases c1 : Bkn 35 (Eu (Dp gL b.1.rest) b.1) = true
  ·have ht : Ahb b.1 = Eu (Eu 1 (Eu (Dp gL b.1.rest) b.1)).rest.length (Eu 1 (Eu (Dp gL b.1.rest) b.1)) := by unfold Ahb; rw [if_neg c0, if_pos c1]
   have w6 := Xj w5 1
   have hleft := Av3 (Am l) _ w6
   have hskip := A00 (Am l) _ w6 (by omega)
   have w7 := Xj w6 (Eu 1 (Eu (Dp gL b.1.rest) b.1)).rest.length
   have hend := Amu (Am l) _ w7
   simp only [X.p, hz] at hleft hend
   simp only [X.t, hz] at hskip
   simp only [c1, if_true, cond_true, hleft, hskip, hend, hday, Option.bind_some]
   have hp := post _ ((A6l a.2).1, b.2) (show (Eu (Eu 1 (Eu (Dp gL b.1.rest) b.1)).rest.length (Eu 1 (Eu (Dp gL b.1.rest) b.1))).end = _ by rw [hrow, ht]) rfl
   cases hb : (Eu (Eu 1 (Eu (Dp gL b.1.rest) b.1)).rest.length (Eu 1 (Eu (Dp gL b.1.rest) b.1))).end with
   | some c => rw [hb] at hp; exact hp
   | none =>
    rw [hb] at hp
    cases hd : (A6l a.2).2 with
    | some c => rw [hd] at hp; simp only [Option.isNone_none, Option.isNone_some, Bool.not_true, Bool.not_false, cond_true, cond_false]; exact hp
    | none =>
     rw [hd] at hp
     simp only [Option.isNone_none, Bool.not_true, cond_false, (room _).1, (room _).2, Bool.and_self, cond_true]; exact hp
  ·have c1' : Bkn 35 (Eu (Dp gL b.1.rest) b.1) = false := by simpa using c1
   have ht : Ahb b.1 = Eu (Dp gL b.1.rest) b.1 := by unfold Ahb; rw [if_neg c0, if_neg c1]
   have hend := Amu (Am l) _ w5
   simp only [X.p, hz] at hend
   simp only [c1', Bool.false_eq_true, if_false, cond_false, hend, hday, Option.bind_some]
   have hp := post _ ((A6l a.2).1, b.2) (show (Eu (Dp gL b.1.rest) b.1).end = _ by rw [hrow, ht]) rfl
   cases hb : (Eu (Dp gL b.1.rest) b.1).end with
   | some c => rw [hb] at hp; exact hp
   | none =>
    rw [hb] at hp
    cases hd : (A6l a.2).2 with
    | some c => rw [hd] at hp; simp only [Option.isNone_none, Option.isNone_some, Bool.not_true, Bool.not_false, cond_true, cond_false]; exact hp
    | none =>
     rw [hd] at hp
     simp only [Option.isNone_none, Bool.not_true, cond_false, (room _).1, (room _).2, Bool.and_self, cond_true]; exact hp
def Pj (r : RS) (l : List Int) : RS × Option Int :=
 if ∀ x ∈ l, x ∈ gL then (r, none)
 else if l.take 2 = [35, 36] then (match (Ahg (l.drop 2)).2 with
  | some c => (r, some c)
  | none => if r.up.isSome then (r, some 2) else ({ r with up := some (Ahg (l.drop 2)).1 }, none))
 else if l.take 2 = [35, 64] then (match (Ahg (l.drop 2)).2 with
  | some c => (r, some c)
  | none => if r.ex.isSome then (r, some 2) else ({ r with ex := some (Ahg (l.drop 2)).1 }, none))
 else if l.take 2 = [35, 104] then A5i r (l.drop 2)
 else if l.head? = some 35 then (r, none)
 else ({ r with rows := r.rows ++ (Bcz l).2 }, (Bcz l).1)
theorem Vp : (⟨#[35, 36]⟩ : ByteArray) = Am [35, 36] := by kernel_rfl
theorem Ady : (⟨#[35, 64]⟩ : ByteArray) = Am [35, 64] := by kernel_rfl
theorem Amc : (⟨#[35, 104]⟩ : ByteArray) = Am [35, 104] := by kernel_rfl
theorem Akh {l : List Int} {a b : Int} (h : l.take 2 = [a, b]) : 2 <= l.length := by
 have := congrArg List.length h
 rw [List.length_take] at this
 simp only [List.length_cons, List.length_nil] at this
 omega
theorem Bjd (r : RS) (l : List Int) (hl : Ga l) (hs : l.length <= 1000000) (hr : r.rows.length <= 1000000) : Du (r.t, ((), ((Am l, ()), ()))) = some ((Pj r l).1.t, (((Pj r l).2, ()), ((), ()))) := by
 obtain ⟨t, ht1, ht2⟩ := Bdm l hl hs
 have p1 := Apc l [35, 36] hl (by unfold Ga; decide)
 have p2 := Apc l [35, 64] hl (by unfold Ga; decide)
 have p3 := Apc l [35, 104] hl (by unfold Ga; decide)
 simp only [List.length_cons, List.length_nil, Nat.zero_add, Nat.reduceAdd] at p1 p2 p3
 have hd := Aei hl 2
 have hdl : (l.drop 2).length <= 1000000 := by rw [List.length_drop]; omega
 have hn := A0s (l.drop 2) hd
 obtain ⟨y, z, q1, q2, q3⟩ := Bjq (l.drop 2) hd hdl
 have hsum := Ble r (l.drop 2) hd hdl
 have hrow := Bms r l hl hs hr
 simp only [X.t, As] at hn q1 q2 q3
 simp only [RS.t] at hsum hrow
 have cut : (Am l).extract (Int.toNat 2) (Int.toNat (l.length : Int)) = Am (l.drop 2) := by
  rw [Yx, Int.toNat_natCast, List.take_length]; rfl
 simp only [Du, K8, A4u, Vp, Ady, Amc, Ad4, RS.t, ht1, ht2, Option.bind_some, Aa, p1, p2, p3, As, Aq, cut, hn, q1, q2, q3]
 unfold Pj
 by_cases c0 : ∀ x ∈ l, x ∈ gL
 ·rw [if_pos c0, if_pos c0]
 rw [if_neg c0, if_neg c0]
 by_cases c1 : l.take 2 = [35, 36]
 ·have := Akh c1
  rw [if_pos c1, if_pos c1, if_pos (by omega)]
  cases (Ahg (l.drop 2)).2 with
  | some c => rfl
  | none =>
   simp only [Option.isNone_none, Bool.not_true, cond_false]
   cases hu : r.up with
   | some v => simp [hu]
   | none => simp
 rw [if_neg c1, if_neg c1]
 by_cases c2 : l.take 2 = [35, 64]
 ·have := Akh c2
  rw [if_pos c2, if_pos c2, if_pos (by omega)]
  cases (Ahg (l.drop 2)).2 with
  | some c => rfl
  | none =>
   simp only [Option.isNone_none, Bool.not_true, cond_false]
   cases hu : r.ex with
   | some v => simp [hu]
   | none => simp
 rw [if_neg c2, if_neg c2]
 by_cases c3 : l.take 2 = [35, 104]
 ·have := Akh c3
  rw [if_pos c3, if_pos c3, if_pos (by omega), hsum]; rfl
 rw [if_neg c3, if_neg c3]
 have hne : l ≠ [] := fun e => c0 (by rw [e]; intro x hx; cases hx)
 have hpos : 0 < l.length := List.length_pos_iff.2 hne
 have hb := Ajw (Am l) (i := 0) (by omega) (by rw [As]; omega)
 rw [Fz hl] at hb
 rw [if_pos (by omega), hb]
 cases l with
 | nil => exact absurd rfl hne
 | cons a t =>
  simp only [show (0 : Int).toNat = 0 from rfl, List.getD_cons_zero, List.head?_cons, Option.some.injEq, Ag, Aa]
  by_cases c4 : a = 35
  ·rw [if_pos c4, if_pos c4]
  ·rw [if_neg c4, if_neg c4, hrow]; rfl
theorem Axw (r : RS) (l : List Int) : (Pj r l).1.rows.length <= r.rows.length + 1 := by
 unfold Pj A5i
 have hq : (Bcz l).2.length <= 1 := by
  unfold Bcz
  split
  ·simp
  ·split <;> simp
 repeat' split
 all_goals simp only [List.length_append]
 all_goals omega
def Aec (r : RS) (i : Nat) : List (List Int) -> RS × (Int × Option Int)
 | [] => (r, (0, none))
 | l :: rest => match (Pj r l).2 with
  | some c => ((Pj r l).1, ((i : Int) + 1, some c))
  | none => Aec (Pj r l).1 (i + 1) rest
theorem Bmv (L : List (List Int)) (hL : ∀ l ∈ L, Ga l /\ l.length <= 1000000) (hn : L.length <= 500000) : ∀ (k i : Nat) (r : RS), i + k = L.length -> r.rows.length <= i ->
  Evn (fun f => (B2 f).1 (r.t, ((), ((L.map Am, ()), (((L.length : Int), ()), (((i : Int), ()), ())))))) ((Aec r i (L.drop i)).1.t, (((Aec r i (L.drop i)).2.1, ()), (((Aec r i (L.drop i)).2.2, ()), ((), ())))) := by
 intro k
 induction k with
 | zero =>
  intro i r hi hr
  refine Evn.some 1 fun f => ?_
  rw [List.drop_eq_nil_of_le (by omega)]
  simp only [H2, C4, RS.t, Aa]
  rw [if_neg (by omega)]; rfl
 | succ k ih =>
  intro i r hi hr
  have hlt : i < L.length := by omega
  have hmem := hL _ (List.getElem_mem hlt)
  have hline := Bjd r L[i] hmem.1 hmem.2 (by omega)
  have hrows := Axw r L[i]
  have hg : gd .str (L.map Am) (i : Int) = Am L[i] := by
   unfold gd
   rw [Int.toNat_natCast, List.getD_eq_getElem?_getD, List.getElem?_map, List.getElem?_eq_getElem hlt]; rfl
  rw [List.drop_eq_getElem_cons hlt]
  simp only [RS.t] at hline
  unfold Aec
  cases hq : (Pj r L[i]).2 with
  | some c =>
   refine Evn.some 1 fun f => ?_
   simp only [H2, C4, RS.t, Aa, Aq, hg, hline, hq, Option.bind_some, List.length_map]
   rw [if_pos (by omega), if_pos (by omega), Ap (by omega)]; rfl
  | none =>
   refine (ih (i + 1) (Pj r L[i]).1 (by omega) (by omega)).step fun f => ?_
   simp only [H2, C4, RS.t, Aa, Aq, hg, hline, hq, Option.bind_some, List.length_map]
   rw [if_pos (by omega), if_pos (by omega), Ap (by omega)]; rfl
def Ps (l : List Int) : RS × (Int × Option Int) := if 65535 < l.length then (⟨none, none, none, []⟩, (0, some 3)) else Aec ⟨none, none, none, []⟩ 0 (Qs [] (A2c l))
theorem A11 : ∀ {l cur : List Int}, Ga l -> Ga cur -> ∀ x ∈ Qs cur l, Ga x
 | [], cur, _, hc, x, hx => by
  rw [Qs] at hx
  rw [List.mem_singleton.1 hx]; exact hc
 | a :: l, cur, hl, hc, x, hx => by
  rw [Qs] at hx
  have hl' : Ga l := fun y hy => hl y (List.mem_cons_of_mem _ hy)
  split at hx
  ·rcases List.mem_cons.1 hx with rfl | hx
   ·exact hc
   ·exact A11 hl' (fun y hy => by cases hy) x hx
  ·exact A11 hl' (Qd hc (fun y hy => by rw [List.mem_singleton.1 hy]; exact hl a (List.mem_cons_self ..))) x hx
theorem Atn : ∀ (l cur : List Int), (∀ x ∈ Qs cur l, x.length <= cur.length + l.length) /\ (Qs cur l).length <= l.length + 1
 | [], cur => by
  rw [Qs]
  exact ⟨fun x hx => by rw [List.mem_singleton.1 hx]; simp, by simp⟩
 | a :: l, cur => by
  rw [Qs]
  split
  ·have := Atn l []
   refine ⟨fun x hx => ?_, by simp only [List.length_cons]; omega⟩
   rcases List.mem_cons.1 hx with rfl | hx
   ·omega
   ·have := this.1 x hx
    simp only [List.length_cons, List.length_nil] at *; omega
  ·have := Atn l (cur ++ [a])
   refine ⟨fun x hx => ?_, by simp only [List.length_cons]; omega⟩
   have := this.1 x hx
   simp only [List.length_append, List.length_cons, List.length_nil] at *; omega
theorem Bm3 {l : List Int} (h : Ga l) : Ga (A2c l) /\ (A2c l).length <= l.length := by
 unfold A2c
 split
 ·exact ⟨fun x hx => h x (List.dropLast_subset l hx), by rw [List.length_dropLast]; omega⟩
 ·exact ⟨h, Nat.le_refl _⟩
theorem A80 : (⟨#[10]⟩ : ByteArray) = Am [10] := by kernel_rfl
theorem A9u (l : List Int) (hl : Ga l) : Cw ((⟨none, none, none, []⟩ : RS).t, ((), ((Am l, ()), ()))) = some ((Ps l).1.t, (((Ps l).2.1, ()), (((Ps l).2.2, ()), ((), ())))) := by
 unfold Ps
 by_cases c : 65535 < l.length
 ·rw [if_pos c]
  refine (Evn.const fun f => ?_).lim
  simp only [El, As, gt_iff_lt, Aa]
  rw [if_pos (by omega)]
 ·rw [if_neg c]
  have hc := Bm3 hl
  have hch := Bjp l hl (by omega)
  have hr := Atn (A2c l) []
  have hsp := Ba9 (Am (A2c l)) (by rw [As]; omega)
  rw [Fz hc.1, A80] at hsp
  refine ((Bmv (Qs [] (A2c l)) (fun x hx => ⟨A11 hc.1 (fun y hy => by cases hy) x hx, by have := hr.1 x hx; simp only [List.length_nil] at this; omega⟩) (by omega) _ 0 ⟨none, none, none, []⟩ (Nat.zero_add _) (Nat.le_refl _)).cast fun f => ?_).lim
  simp only [El, As, gt_iff_lt, Aa, A80, hch, hsp, Option.bind_some, List.length_map]
  rw [if_neg (by omega)]; rfl
theorem Bow (l : List Int) (h : l.length <= 140737488355328) : C7 ((), ((l, ()), ())) = some ((l, ()), ((), ())) := by
 unfold C7 L7
 simp only [List.length_nil, List.nil_append]
 rw [decide_eq_true (show (0 + l.length) * 1 <= 140737488355328 by omega), decide_eq_true (show 0 + l.length <= 9223372036854775807 by omega)]
 simp only [Bool.and_self, cond_true]
 cases l with
 | nil => simp [A7e]
 | cons x l => rfl
theorem Bh1 : Lm ((), ()) = some ((), ((4, ()), ())) :=
 Evn.lim ⟨10, fun k hk => by obtain ⟨m, rfl⟩ := Nat.exists_eq_add_of_le hk; rw [Nat.add_comm]; kernel_rfl⟩
theorem Ax7 {o : Lx.den} : ∀ (n : Nat) (out : List Int) (size w : Int) (words : List Int) (len idx : Int), n <= 4 -> 0 <= w -> w < 18446744073709551616 -> out.length + n <= 140737488355328 ->
  Evn (fun k => (Bw k).1 ((out ++ be w n, ()), ((size, ()), ((), ((words, ()), ((len, ()), ((A4 .i64 idx 1, ()), ()))))))) o ->
  Evn (fun k => (Bw k).2.1 ((out, ()), ((size, ()), ((), ((w, ()), (((n : Int) - 1, ()), ((words, ()), ((len, ()), ((idx, ()), ()))))))))) o
 | 0, out, size, w, words, len, idx, hn, h0, h1, hl, h => by
  refine Evn.step h fun k => ?_
  rw [Nm]
  simp only [Iq, be, List.append_nil]
  rw [decide_eq_false (by omega)]
  rfl
 | n + 1, out, size, w, words, len, idx, hn, h0, h1, hl, h => by
  refine Evn.step (Ax7 n (out ++ [w / 256 ^ n % 256]) size w words len idx (by omega) h0 h1 (by simp; omega) ?_) fun k => ?_
  ·simpa only [be, List.append_assoc, List.singleton_append] using h
  ·rw [Nm]
   simp only [Iq]
   have e1 : (((n + 1 : Nat) : Int) - 1) = (n : Int) := by omega
   rw [e1, decide_eq_true (show (n : Int) >= 0 by omega), Hy (by omega), decide_eq_false (by omega)]
   simp only [cond_true, cond_false]
   rw [J2, Int.emod_eq_of_lt h0 h1, A2o (by omega) h0, Ar5, A3 (by omega)]
   rw [decide_eq_true (by simp only [List.length_singleton]; omega), decide_eq_true (by simp only [List.length_singleton]; omega)]
   rfl
theorem Avs {words : List Int} (hw : ∀ w ∈ words, 0 <= w /\ w < 2 ^ 32) (hwl : words.length <= 140737488355328) : ∀ (n i : Nat) (out : List Int), i + n = words.length -> out.length + n * 4 <= 140737488355328 ->
  Evn (fun k => (Bw k).1 ((out, ()), (((4 : Int), ()), ((), ((words, ()), (((words.length : Int), ()), (((i : Int), ()), ()))))))) ((out ++ (words.drop i).flatMap (be · 4), ()), ((), ()))
 | 0, i, out, hi, hl => by
  refine Evn.step (Evn.const fun _ => rfl) fun k => ?_
  rw [Nm]
  simp only [Ju]
  rw [decide_eq_false (by omega), List.drop_eq_nil_of_le (by omega)]
  simp
 | n + 1, i, out, hi, hl => by
  have hlt : i < words.length := by omega
  have hi2 := hw words[i] (List.getElem_mem hlt)
  rw [List.drop_eq_getElem_cons hlt, List.flatMap_cons, <- List.append_assoc]
  have ih := Avs hw hwl n (i + 1) (out ++ be words[i] 4) (by omega) (by rw [List.length_append, Ss]; omega)
  refine Evn.step (Ax7 4 out 4 words[i] words words.length i (Nat.le_refl _) hi2.1 (by omega) (by omega) (Evn.cast ih fun k => ?_)) fun k => ?_
  ·rw [Ap (by omega)]; rfl
  ·rw [Nm]
   simp only [Ju]
   rw [decide_eq_true (by omega), decide_eq_true (by omega), A3 (by omega), Aek (.int .u32) words (i : Int) (by omega) (by omega)]
   rfl
theorem Bmj (b words : List Int) (hw : ∀ w ∈ words, 0 <= w /\ w < 2 ^ 32) (hl : b.length + words.length * 4 <= 140737488355328) :
  J1 ((), ((b, ()), ((words, ()), ()))) = some ((b ++ words.flatMap (be · 4), ()), ((), ())) := by
 refine Evn.lim (Evn.cast (Avs hw (by omega) words.length 0 b (by omega) hl) fun k => ?_)
 simp only [Pv]
 rw [Bh1, Bow b (by omega)]
 rfl
theorem Bh4 : L1 ((), ()) = some ((), ((8, ()), ())) :=
 Evn.lim ⟨10, fun k hk => by obtain ⟨m, rfl⟩ := Nat.exists_eq_add_of_le hk; rw [Nat.add_comm]; kernel_rfl⟩
theorem Ayo {o : Lr.den} : ∀ (n : Nat) (out : List Int) (size w : Int) (words : List Int) (len idx : Int), n <= 8 -> 0 <= w -> w < 18446744073709551616 -> out.length + n <= 140737488355328 ->
  Evn (fun k => (Bx k).1 ((out ++ be w n, ()), ((size, ()), ((), ((words, ()), ((len, ()), ((A4 .i64 idx 1, ()), ()))))))) o ->
  Evn (fun k => (Bx k).2.1 ((out, ()), ((size, ()), ((), ((w, ()), (((n : Int) - 1, ()), ((words, ()), ((len, ()), ((idx, ()), ()))))))))) o
 | 0, out, size, w, words, len, idx, hn, h0, h1, hl, h => by
  refine Evn.step h fun k => ?_
  rw [Nc]
  simp only [Io, be, List.append_nil]
  rw [decide_eq_false (by omega)]
  rfl
 | n + 1, out, size, w, words, len, idx, hn, h0, h1, hl, h => by
  refine Evn.step (Ayo n (out ++ [w / 256 ^ n % 256]) size w words len idx (by omega) h0 h1 (by simp; omega) ?_) fun k => ?_
  ·simpa only [be, List.append_assoc, List.singleton_append] using h
  ·rw [Nc]
   simp only [Io]
   have e1 : (((n + 1 : Nat) : Int) - 1) = (n : Int) := by omega
   rw [e1, decide_eq_true (show (n : Int) >= 0 by omega), Hy (by omega), decide_eq_false (by omega)]
   simp only [cond_true, cond_false]
   rw [A2o (by omega) h0, Ar5, A3 (by omega)]
   rw [decide_eq_true (by simp only [List.length_singleton]; omega), decide_eq_true (by simp only [List.length_singleton]; omega)]
   rfl
theorem Atb {words : List Int} (hw : ∀ w ∈ words, 0 <= w /\ w < 2 ^ 64) (hwl : words.length <= 140737488355328) : ∀ (n i : Nat) (out : List Int), i + n = words.length -> out.length + n * 8 <= 140737488355328 ->
  Evn (fun k => (Bx k).1 ((out, ()), (((8 : Int), ()), ((), ((words, ()), (((words.length : Int), ()), (((i : Int), ()), ()))))))) ((out ++ (words.drop i).flatMap (be · 8), ()), ((), ()))
 | 0, i, out, hi, hl => by
  refine Evn.step (Evn.const fun _ => rfl) fun k => ?_
  rw [Nc]
  simp only [Jm]
  rw [decide_eq_false (by omega), List.drop_eq_nil_of_le (by omega)]
  simp
 | n + 1, i, out, hi, hl => by
  have hlt : i < words.length := by omega
  have hi2 := hw words[i] (List.getElem_mem hlt)
  rw [List.drop_eq_getElem_cons hlt, List.flatMap_cons, <- List.append_assoc]
  have ih := Atb hw hwl n (i + 1) (out ++ be words[i] 8) (by omega) (by rw [List.length_append, Ss]; omega)
  refine Evn.step (Ayo 8 out 8 words[i] words words.length i (Nat.le_refl _) hi2.1 (by omega) (by omega) (Evn.cast ih fun k => ?_)) fun k => ?_
  ·rw [Ap (by omega)]; rfl
  ·rw [Nc]
   simp only [Jm]
   rw [decide_eq_true (by omega), decide_eq_true (by omega), A3 (by omega), Aek (.int .u64) words (i : Int) (by omega) (by omega)]
   rfl
theorem Bl1 (b words : List Int) (hw : ∀ w ∈ words, 0 <= w /\ w < 2 ^ 64) (hl : b.length + words.length * 8 <= 140737488355328) :
  M8 ((), ((b, ()), ((words, ()), ()))) = some ((b ++ words.flatMap (be · 8), ()), ((), ())) := by
 refine Evn.lim (Evn.cast (Atb hw (by omega) words.length 0 b (by omega) hl) fun k => ?_)
 simp only [Oq]
 rw [Bh4, Bow b (by omega)]
 rfl
theorem Evn.bindS {R S : Type} {F : Nat -> Option R} {r : R} {f : R -> Option S} {o : S} (h : Evn F r) (e : f r = Option.some o) : Evn (fun k => (F k).bind f) o := by
 obtain ⟨n, h⟩ := h
 exact ⟨n, fun k hk => by show (F k).bind f = _; rw [h k hk]; exact e⟩
def Jb (s : Nat) : Nat -> List Int -> List (List Int)
 | 0, _ => []
 | m + 1, b => b.take s :: Jb s m (b.drop s)
theorem As1 (s : Nat) : ∀ m (b : List Int), Jb s m (b.take (m * s)) = Jb s m b
 | 0, _ => rfl
 | m + 1, b => by
  have hm : (m + 1) * s = s + m * s := by rw [Nat.succ_mul, Nat.add_comm]
  rw [Jb, Jb, hm, List.take_take, Nat.min_eq_left (Nat.le_add_right _ _), List.drop_take, show s + m * s - s = m * s by omega, As1 s m]
theorem A9z (b : List Int) (s : Nat) (hs : 0 < s) (hl : b.length <= 140737488355328) : ∀ m i, b.length = i + m * s ->
  Evn (fun k => (A2 k).1 ((), ((some b, ()), ((some (s : Int), ()), (((i : Int), ()), ()))))) (Jb s m (b.drop i))
 | 0, i, h => by
  refine Evn.step (Evn.const fun _ => rfl) fun k => ?_
  rw [show A2 (k + 1) = (Cc (A2 k), ()) from rfl]
  simp only [Cc, Ac, Option.bind_some, Option.isNone_none, Option.isNone_some, Option.isSome_none, Option.isSome_some, Bool.not_true, Bool.not_false, cond_true, cond_false, Aa, Ag, Ai, Ah]
  rw [if_neg (by omega)]; rfl
 | m + 1, i, h => by
  have hm : (m + 1) * s = m * s + s := Nat.succ_mul m s
  have ih := A9z b s hs hl m (i + s) (by omega)
  refine Evn.step (Evn.bindS ih (f := fun x => Option.some ((b.drop i).take s :: x)) (by rw [<- List.drop_drop]; rfl)) fun k => ?_
  rw [show A2 (k + 1) = (Cc (A2 k), ()) from rfl]
  simp only [Cc, Ac, Option.bind_some, Option.isNone_none, Option.isNone_some, Option.isSome_none, Option.isSome_some, Bool.not_true, Bool.not_false, cond_true, cond_false, Aa, Ag, Ai, Ah, Aq, List.isEmpty_nil]
  rw [if_pos (by omega), if_pos (by omega)]
  simp only [Int.toNat_natCast, List.take_length, List.length_drop]
  have e : (if (((b.length - i : Nat)) : Int) < (s : Int) then ((b.length - i : Nat) : Int) else (s : Int)) = (s : Int) := by rw [if_neg (by omega)]
  rw [e, Ap (by omega), if_pos (by omega)]
  rw [show ((i : Int) + (s : Int)).toNat = i + s by omega, List.drop_take, show i + s - i = s by omega]
  rw [show ((i : Int) + (s : Int)) = ((i + s : Nat) : Int) by push_cast; rfl]
theorem A5j (b : List Int) (s m : Nat) (hs : 0 < s) (hl : b.length <= 140737488355328) (h : b.length = m * s) : Dg (b, ((s : Int), ())) = some (Jb s m b) := by
 have := A9z b s hs hl m 0 (by omega)
 rw [List.drop_zero] at this
 exact (this.cast fun k => rfl).lim
theorem A9o (b : List Int) (s : Int) (hs : 0 < s) : Cq ((), ((b, ()), ((s, ()), ()))) = some (((b, ()), ((s, ()), ())), ((), ())) := by
 simp only [Cq, L6, Ac, Option.bind_some, Option.isNone_none, Option.isNone_some, Option.isSome_none, Option.isSome_some, Bool.not_true, Bool.not_false, cond_true, cond_false, Aa, Ag, Ai, Ah]
 rw [if_neg (by omega)]
end Go.Proofs.YtcnngodgngmghaaGreatDoor.Ev
