/- Own texts, put together: see the row's text for what is proved. -/
import Derived.Test.YtcnngodgngmghaaGreatDoorPkListPuts3
set_option maxRecDepth 100000
set_option maxHeartbeats 2000000
set_option linter.unusedVariables false
namespace Go.Proofs.YtcnngodgngmghaaGreatDoor.Ev
open Go
noncomputable section
abbrev Ue : PSh := Cv
abbrev Tc : PSh := ⟨[], [kS, kE]⟩
abbrev L4 : Type := Unit × ((ByteArray × Unit) × (((Option Int) × Unit) × Unit))
abbrev Wz : Type := M6
abbrev Xv : Type := (((Option Int) × Unit) × ((List Int) × Unit)) × (Unit × ((ByteArray × Unit) × ((Int × Unit) × Unit)))
abbrev Ow : Type := (((Wz) -> Option (L4)) × (((Xv) -> Option (L4)) × Unit))
abbrev Ah7 : PSh := ⟨[.var 53 [v8, v8, v8, v8, v8, v8, v8, v8, v8, v8, v8, v8, v8, v8, v8, v8, v8, v8, v8, v8], .var 91 [.osl 2, vE], .row 5 (.int .u8), .row 70 (.pair (.int .i64) (.int .i64))], [.any, .any, .any, .any, .mk false [.ref 0 0], .any, .mk false [.ref 1 0], .any, .any, .any, .any, .any, .any, .any, .any, .any, .any, .any, .any, .any, .any, .any, .any, .any, .any, .any, .any, .any, .any, .any, .any, .any, .any, .any, .mk false [.osl 3], kI, kI] ++ Q6 35⟩
abbrev Ahu : PSh := ⟨[.var 91 [.osl 1, vE], .row 5 (.int .u8)], [.any, .any, .any, .any, .any, .any, .mk false [.ref 0 0], .any, .any, kS, .any, .any, .any, .any, .any, .any, .any, .any, .any, .any, .any, .any, .any, .any, .any, .any, .any, .any, .any, .any, .any, .any, .any, .any, .any, .any, .any, .any, .any, .any, .any, .any, .any, .any, .any, .any, .any, .any, .any, kI] ++ Q6 22⟩
def J1 (T : Ow) (d : Wz) : Option (L4) :=
 let x11 := (decide (d.2.2.2.2.2.1.1 < d.2.2.2.2.1.1))
 bif x11 then (
 bif decide ((0 : Int) <= d.2.2.2.2.2.1.1) && decide (d.2.2.2.2.2.1.1 < (d.1.2.2.2.1.length : Int)) then (
 let x12 := (Ac d.1.2.2.2.1 d.2.2.2.2.2.1.1)
 (C1 ((d.1.2.1, (d.1.2.2.1, ())), ((), ((x12.1, (x12.2, ())), (((⟨#[9]⟩ : ByteArray), ()), (((⟨#[10]⟩ : ByteArray), ()), ())))))).bind fun x13 =>
 let x14 := (Bm .i64 d.2.2.2.2.2.1.1 1)
 (T.1 ((d.1.1, (x13.1.1, (x13.1.2.1, d.1.2.2.2))), ((), ((), ((), (d.2.2.2.2.1, ((x14, ()), ()))))))))
 else none)
 else (
 bif decide (((d.1.2.2.1.length + (bytesOf (⟨#[35, 104]⟩ : ByteArray)).length) * 1 : Nat) <= 140737488355328) && decide (d.1.2.2.1.length + (bytesOf (⟨#[35, 104]⟩ : ByteArray)).length <= 9223372036854775807) then (
 let x15 := (d.1.2.2.1 ++ (bytesOf (⟨#[35, 104]⟩ : ByteArray)))
 (Ade ((), (d.1.1, ()))).bind fun x16 =>
 (T.2.1 ((d.1.2.1, (x15, ())), ((), (x16.2.1, ((0, ()), ()))))))
 else none)
def Jz (T : Ow) (d : Xv) : Option (L4) :=
 let x17 := (decide (d.2.2.2.1.1 < (5 : Int)))
 bif x17 then (
 let x18 := ([(32 : Int)] : List Int)
 bif decide (((d.1.2.1.length + x18.length) * 1 : Nat) <= 140737488355328) && decide (d.1.2.1.length + x18.length <= 9223372036854775807) then (
 let x19 := (d.1.2.1 ++ x18)
 let x20 := (Qq .i64 d.2.2.2.1.1 8)
 let x21 := (Bm .i64 d.2.2.2.1.1 1)
 let x22 := (Qq .i64 x21 8)
 bif decide ((0 : Int) <= x20) && decide (x20 <= x22) && decide (x22 <= (d.2.2.1.1.size : Int)) then (
 let x23 := (d.2.2.1.1.extract (Int.toNat x20) (Int.toNat x22))
 bif decide (((x19.length + (bytesOf x23).length) * 1 : Nat) <= 140737488355328) && decide (x19.length + (bytesOf x23).length <= 9223372036854775807) then (
 let x24 := (x19 ++ (bytesOf x23))
 let x25 := (Bm .i64 d.2.2.2.1.1 1)
 (T.2.1 ((d.1.1, (x24, ())), ((), (d.2.2.1, ((x25, ()), ()))))))
 else none)
 else none)
 else none)
 else (
 let x26 := (Ao d.1.2.1)
 bif Hb x26 (⟨#[10]⟩ : ByteArray) then (
 let x27 := (x26 ++ (⟨#[10]⟩ : ByteArray))
 some ((), ((x27, ()), (d.1.1, ()))))
 else none)
def Cr : Nat -> Ow
 | 0 => (fun _ => none, (fun _ => none, ()))
 | k + 1 => (J1 (Cr k), (Jz (Cr k), ()))
theorem Qf (k : Nat) : Cr (k + 1) = (J1 (Cr k), (Jz (Cr k), ())) := rfl
def Mc (T : Ow) (d : Y2) : Option (L4) :=
 (B8 ((), d.2)).bind fun x1 =>
 let x2 := (!x1.2.2.1.1.isNone)
 bif x2 then (
 some ((), (((⟨#[]⟩ : ByteArray), ()), x1.2.2)))
 else (
 bif decide (((bytesOf (⟨#[35, 36, 9]⟩ : ByteArray)).length * 1 : Nat) <= 140737488355328) && decide ((bytesOf (⟨#[35, 36, 9]⟩ : ByteArray)).length <= 9223372036854775807) then (
 let x3 := (bytesOf (⟨#[35, 36, 9]⟩ : ByteArray))
 (Dg ((), d.2)).bind fun x4 =>
 (At ((((none : Option Int), ()), (x3, ())), ((), (x4.2.1, (((⟨#[10]⟩ : ByteArray), ()), ()))))).bind fun x5 =>
 bif decide (((x5.1.2.1.length + (bytesOf (⟨#[35, 64, 9]⟩ : ByteArray)).length) * 1 : Nat) <= 140737488355328) && decide (x5.1.2.1.length + (bytesOf (⟨#[35, 64, 9]⟩ : ByteArray)).length <= 9223372036854775807) then (
 let x6 := (x5.1.2.1 ++ (bytesOf (⟨#[35, 64, 9]⟩ : ByteArray)))
 (Dh ((), d.2)).bind fun x7 =>
 (At ((x5.1.1, (x6, ())), ((), (x7.2.1, (((⟨#[10]⟩ : ByteArray), ()), ()))))).bind fun x8 =>
 (Er ((), d.2)).bind fun x9 =>
 let x10 := (x9.1.1.length : Int)
 (T.1 ((x1.2.1, (x8.1.1, (x8.1.2.1, x9.1))), ((), ((), ((), ((x10, ()), ((0, ()), ()))))))))
 else none)
 else none)
def F4 (d) := lim fun k => Mc (Cr k) d
theorem Aon : Em Tryz.prog ET0 17 Ue Tc F4 :=
 fnL (E := (((((((E0.add 18 P1).add 34 Xp).add 35 Ru).add 36 R1).add 38 Ip).add 39 Nb).add 40 A3x)) (pi := Ue) (po := Tc) (Aa (Aa (Aa (Aa (Aa (Aa (Aa Bc (Af N6)) (Af U6)) (Af Qt)) (Af Qw)) (Nl Hw)) (Nl Ls)) (Af Ay7)) (fn := Tryz.f17) Tryz.func17 (by kernel_rfl) (by kernel_rfl) [.tmp 2, .tmp 3] (by kernel_rfl) rfl rfl rfl [] (fun k => [(12, ⟨Ah7, (Cr k).1⟩), (21, ⟨Ahu, (Cr k).2.1⟩)]) (fun _ => [])
 (.intro (fun _ => rfl) (.intro (fun _ => rfl) trivial)) (fun k => (.intro (fun d => by kernel_rfl) (.intro (fun d => by kernel_rfl) trivial))) trivial (fun k => trivial) (fun k d => Mc (Cr k) d) (fun k d => by kernel_rfl)
def Aqr := Ah Ue Tc F4
abbrev Af1 : PSh := ⟨[], [kE]⟩
abbrev Afm : PSh := ⟨[], [kI]⟩
def Akx (T : Unit) (d : Y21) : Option (Unit × ((Int × Unit) × Unit)) :=
 bif d.2.1.1.isNone then (
 some ((), ((0, ()), ())))
 else (
 bif d.2.1.1.isSome then (
 let x1 := ((d.2.1.1.getD 0) != (0 : Int))
 bif x1 then (
 some ((), (((d.2.1.1.getD 0), ()), ())))
 else (
 some ((), (((-1 : Int), ()), ()))))
 else (
 some ((), (((-1 : Int), ()), ()))))
def Wu := Akx ()
theorem Azv : Em Tryz.prog ET0 10 Af1 Afm Wu :=
 fn0 (E := E0) (pi := Af1) (po := Afm) Bc (fn := Tryz.f10) Tryz.func10 (by kernel_rfl) (by kernel_rfl) [.tmp 2] (by kernel_rfl) rfl rfl rfl [] fun d => by kernel_rfl
def A2j := Ah Af1 Afm Wu
abbrev Akb : PSh := ⟨[], [kE, kI]⟩
abbrev Aiq : PSh := ⟨[], [kB]⟩
def An7 (T : Unit) (d : Unit × (((Option Int) × Unit) × ((Int × Unit) × Unit))) : Option (Unit × ((Bool × Unit) × Unit)) :=
 (Wu ((), (d.2.1, ()))).bind fun x1 =>
 let x2 := (x1.2.1.1 == d.2.2.1.1)
 some ((), ((x2, ()), ()))
def Ql := An7 ()
theorem A28 : Em Tryz.prog ET0 19 Akb Aiq Ql :=
 fn0 (E := (E0.add 10 A2j)) (pi := Akb) (po := Aiq) (Aa Bc (Af Azv)) (fn := Tryz.f19) Tryz.func19 (by kernel_rfl) (by kernel_rfl) [.tmp 4] (by kernel_rfl) rfl rfl rfl [] fun d => by kernel_rfl
def A6h := Ah Akb Aiq Ql
abbrev Zd : PSh := ⟨[], [kI]⟩
abbrev Z0 : PSh := ⟨[], [kB]⟩
def Aem (T : Unit) (d : Unit × ((Int × Unit) × Unit)) : Option (Unit × ((Bool × Unit) × Unit)) :=
 let x1 := (Int.tmod d.2.1.1 (400 : Int))
 let x2 := (x1 == (0 : Int))
 bif x2 then (
 some ((), ((true, ()), ())))
 else (
 let x3 := (Int.tmod d.2.1.1 (4 : Int))
 let x4 := (x3 == (0 : Int))
 bif x4 then (
 let x5 := (Int.tmod d.2.1.1 (100 : Int))
 let x6 := (x5 != (0 : Int))
 some ((), ((x6, ()), ())))
 else (
 some ((), ((false, ()), ()))))
def Nd := Aem ()
theorem Ahr : Em Tryz.prog ET0 102 Zd Z0 Nd :=
 fn0 (E := E0) (pi := Zd) (po := Z0) Bc (fn := Tryz.f102) Tryz.func102 (by kernel_rfl) (by kernel_rfl) [.tmp 2] (by kernel_rfl) rfl rfl rfl [] fun d => by kernel_rfl
def Ak2 := Ah Zd Z0 Nd
abbrev Zt : PSh := ⟨[], [kI]⟩
abbrev Ya : PSh := ⟨[], [kI]⟩
def Ad5 (T : Unit) (d : Unit × ((Int × Unit) × Unit)) : Option (Unit × ((Int × Unit) × Unit)) :=
 (Nd ((), d.2)).bind fun x1 =>
 bif x1.2.1.1 then (
 some ((), ((366, ()), ())))
 else (
 some ((), ((365, ()), ())))
def Kp := Ad5 ()
theorem Ahp : Em Tryz.prog ET0 77 Zt Ya Kp :=
 fn0 (E := (E0.add 102 Ak2)) (pi := Zt) (po := Ya) (Aa Bc (Af Ahr)) (fn := Tryz.f77) Tryz.func77 (by kernel_rfl) (by kernel_rfl) [.tmp 2] (by kernel_rfl) rfl rfl rfl [] fun d => by kernel_rfl
def Akp := Ah Zt Ya Kp
abbrev Wd : PSh := ⟨[], [kI]⟩
abbrev Wf : PSh := ⟨[], [kI]⟩
abbrev Acw : Type := Y4
abbrev Abk : Type := Y4
abbrev Aah : Type := Y6
abbrev L5 : Type := (((Acw) -> Option (Unit × ((Int × Unit) × Unit))) × (((Abk) -> Option (Unit × ((Int × Unit) × Unit))) × (((Aah) -> Option (Unit × ((Int × Unit) × Unit))) × Unit)))
abbrev Aam : PSh := ⟨[], [kI, .any, .any, kI] ++ Q6 23⟩
abbrev Als : PSh := Aam
abbrev Aj0 : PSh := ⟨[], [kI, .any, .any, kI, kI] ++ Q6 22⟩
def Mq (T : L5) (d : Acw) : Option (Unit × ((Int × Unit) × Unit)) :=
 let x1 := (decide (d.2.1.1 < (1970 : Int)))
 bif x1 then (
 let x2 := (Bm .i64 d.2.1.1 400)
 let x3 := (H3 .i64 d.2.2.1.1 146097)
 (T.1 ((), ((x2, ()), ((x3, ()), ())))))
 else (
 (T.2.1 ((), d.2)))
def Mf (T : L5) (d : Abk) : Option (Unit × ((Int × Unit) × Unit)) :=
 let x4 := (decide (d.2.1.1 >= (2370 : Int)))
 bif x4 then (
 let x5 := (H3 .i64 d.2.1.1 400)
 let x6 := (Bm .i64 d.2.2.1.1 146097)
 (T.2.1 ((), ((x5, ()), ((x6, ()), ())))))
 else (
 (T.2.2.1 ((), (d.2.1, (d.2.2.1, ((1970, ()), ()))))))
def Ky (T : L5) (d : Aah) : Option (Unit × ((Int × Unit) × Unit)) :=
 let x7 := (decide (d.2.2.2.1.1 < d.2.1.1))
 bif x7 then (
 (Kp ((), d.2.2.2)).bind fun x8 =>
 let x9 := (Bm .i64 d.2.2.1.1 x8.2.1.1)
 let x10 := (Bm .i64 d.2.2.2.1.1 1)
 (T.2.2.1 ((), (d.2.1, ((x9, ()), ((x10, ()), ()))))))
 else (
 some ((), (d.2.2.1, ())))
def Bp : Nat -> L5
 | 0 => (fun _ => none, (fun _ => none, (fun _ => none, ())))
 | k + 1 => (Mq (Bp k), (Mf (Bp k), (Ky (Bp k), ())))
theorem Kw (k : Nat) : Bp (k + 1) = (Mq (Bp k), (Mf (Bp k), (Ky (Bp k), ()))) := rfl
def Ab5 (T : L5) (d : Unit × ((Int × Unit) × Unit)) : Option (Unit × ((Int × Unit) × Unit)) :=
 (T.1 ((), (d.2.1, ((0, ()), ()))))
def La (d) := lim fun k => Ab5 (Bp k) d
theorem Wo : Em Tryz.prog ET0 42 Wd Wf La :=
 fnL (E := (E0.add 77 Akp)) (pi := Wd) (po := Wf) (Aa Bc (Af Ahp)) (fn := Tryz.f42) Tryz.func42 (by kernel_rfl) (by kernel_rfl) [.tmp 2] (by kernel_rfl) rfl rfl rfl [] (fun k => [(3, ⟨Aam, (Bp k).1⟩), (8, ⟨Als, (Bp k).2.1⟩), (14, ⟨Aj0, (Bp k).2.2.1⟩)]) (fun _ => [])
 (.intro (fun _ => rfl) (.intro (fun _ => rfl) (.intro (fun _ => rfl) trivial))) (fun k => (.intro (fun d => by kernel_rfl) (.intro (fun d => by kernel_rfl) (.intro (fun d => by kernel_rfl) trivial)))) trivial (fun k => trivial) (fun k d => Ab5 (Bp k) d) (fun k d => by kernel_rfl)
def Zg := Ah Wd Wf La
abbrev Zc : PSh := ⟨[], []⟩
abbrev Zm : PSh := ⟨[], [kI]⟩
def Aeq (T : Unit) (d : Unit × Unit) : Option (Unit × ((Int × Unit) × Unit)) :=
 (La ((), ((10000, ()), ()))).bind fun x1 =>
 let x2 := (H3 .i64 x1.2.1.1 1)
 some ((), ((x2, ()), ()))
def Q5 := Aeq ()
theorem Aus : Em Tryz.prog ET0 43 Zc Zm Q5 :=
 fn0 (E := (E0.add 42 Zg)) (pi := Zc) (po := Zm) (Aa Bc (Af Wo)) (fn := Tryz.f43) Tryz.func43 (by kernel_rfl) (by kernel_rfl) [.tmp 0] (by kernel_rfl) rfl rfl rfl [] fun d => by kernel_rfl
def Au4 := Ah Zc Zm Q5
abbrev V8 : PSh := ⟨[], [kI, kI]⟩
abbrev V2 : PSh := ⟨[], [kI]⟩
def Aaw (T : Unit) (d : Y4) : Option (Unit × ((Int × Unit) × Unit)) :=
 let x1 := ([(31 : Int), (28 : Int), (31 : Int), (30 : Int), (31 : Int), (30 : Int), (31 : Int), (31 : Int), (30 : Int), (31 : Int), (30 : Int), (31 : Int)] : List Int)
 let x2 := (d.2.2.1.1 == (2 : Int))
 bif x2 then (
 (Nd ((), (d.2.1, ()))).bind fun x3 =>
 bif x3.2.1.1 then (
 some ((), ((29, ()), ())))
 else (
 let x4 := (H3 .i64 d.2.2.1.1 1)
 bif decide ((0 : Int) <= x4) && decide (x4 < (x1.length : Int)) then (
 some ((), (((gd (.int .i64) x1 x4), ()), ())))
 else none))
 else (
 let x5 := (H3 .i64 d.2.2.1.1 1)
 bif decide ((0 : Int) <= x5) && decide (x5 < (x1.length : Int)) then (
 some ((), (((gd (.int .i64) x1 x5), ()), ())))
 else none)
def I7 := Aaw ()
theorem Aen : Em Tryz.prog ET0 78 V8 V2 I7 :=
 fn0 (E := (E0.add 102 Ak2)) (pi := V8) (po := V2) (Aa Bc (Af Ahr)) (fn := Tryz.f78) Tryz.func78 (by kernel_rfl) (by kernel_rfl) [.tmp 4] (by kernel_rfl) rfl rfl rfl [] fun d => by kernel_rfl
def Ahd := Ah V8 V2 I7
abbrev Z2 : PSh := ⟨[], [kI]⟩
abbrev Ys : PSh := ⟨[], [kI, kI, kI]⟩
abbrev Hs : Type := Y6
abbrev Aer : Type := Y4
abbrev Ad6 : Type := Y4
abbrev Acf : Type := Y4
abbrev Ab9 : Type := Y6
abbrev Lb : Type := (((Aer) -> Option (Hs)) × (((Ad6) -> Option (Hs)) × (((Acf) -> Option (Hs)) × (((Ab9) -> Option (Hs)) × Unit))))
abbrev Tw : PSh := ⟨[], [kI, .any, .any, .any, .any, kI] ++ Q6 39⟩
abbrev Aot : PSh := Tw
abbrev Amb : PSh := Tw
abbrev Alu : PSh := ⟨[], [kI, .any, .any, .any, .any, kI, kI] ++ Q6 38⟩
def Oy (T : Lb) (d : Aer) : Option (Hs) :=
 let x1 := (decide (d.2.1.1 < (0 : Int)))
 bif x1 then (
 let x2 := (Bm .i64 d.2.1.1 146097)
 let x3 := (H3 .i64 d.2.2.1.1 400)
 (T.1 ((), ((x2, ()), ((x3, ()), ())))))
 else (
 (T.2.1 ((), d.2)))
def Ol (T : Lb) (d : Ad6) : Option (Hs) :=
 let x4 := (decide (d.2.1.1 >= (146097 : Int)))
 bif x4 then (
 let x5 := (H3 .i64 d.2.1.1 146097)
 let x6 := (Bm .i64 d.2.2.1.1 400)
 (T.2.1 ((), ((x5, ()), ((x6, ()), ())))))
 else (
 (T.2.2.1 ((), d.2)))
def Mm (T : Lb) (d : Acf) : Option (Hs) :=
 (Kp ((), d.2.2)).bind fun x7 =>
 let x8 := (decide (d.2.1.1 >= x7.2.1.1))
 bif x8 then (
 (Kp ((), d.2.2)).bind fun x9 =>
 let x10 := (H3 .i64 d.2.1.1 x9.2.1.1)
 let x11 := (Bm .i64 d.2.2.1.1 1)
 (T.2.2.1 ((), ((x10, ()), ((x11, ()), ())))))
 else (
 (T.2.2.2.1 ((), (d.2.1, (d.2.2.1, ((1, ()), ()))))))
def Mk (T : Lb) (d : Ab9) : Option (Hs) :=
 (I7 ((), d.2.2)).bind fun x12 =>
 let x13 := (decide (d.2.1.1 >= x12.2.1.1))
 bif x13 then (
 (I7 ((), d.2.2)).bind fun x14 =>
 let x15 := (H3 .i64 d.2.1.1 x14.2.1.1)
 let x16 := (Bm .i64 d.2.2.2.1.1 1)
 (T.2.2.2.1 ((), ((x15, ()), (d.2.2.1, ((x16, ()), ()))))))
 else (
 let x17 := (Bm .i64 d.2.1.1 1)
 some ((), (d.2.2.1, (d.2.2.2.1, ((x17, ()), ())))))
def A9 : Nat -> Lb
 | 0 => (fun _ => none, (fun _ => none, (fun _ => none, (fun _ => none, ()))))
 | k + 1 => (Oy (A9 k), (Ol (A9 k), (Mm (A9 k), (Mk (A9 k), ()))))
theorem Iz (k : Nat) : A9 (k + 1) = (Oy (A9 k), (Ol (A9 k), (Mm (A9 k), (Mk (A9 k), ())))) := rfl
def Aex (T : Lb) (d : Unit × ((Int × Unit) × Unit)) : Option (Hs) :=
 (T.1 ((), (d.2.1, ((1970, ()), ()))))
def Vi (d) := lim fun k => Aex (A9 k) d
theorem Atn : Em Tryz.prog ET0 44 Z2 Ys Vi :=
 fnL (E := ((E0.add 77 Akp).add 78 Ahd)) (pi := Z2) (po := Ys) (Aa (Aa Bc (Af Ahp)) (Af Aen)) (fn := Tryz.f44) Tryz.func44 (by kernel_rfl) (by kernel_rfl) [.tmp 2, .tmp 3, .tmp 4] (by kernel_rfl) rfl rfl rfl [] (fun k => [(3, ⟨Tw, (A9 k).1⟩), (8, ⟨Aot, (A9 k).2.1⟩), (13, ⟨Amb, (A9 k).2.2.1⟩), (19, ⟨Alu, (A9 k).2.2.2.1⟩)]) (fun _ => [])
 (.intro (fun _ => rfl) (.intro (fun _ => rfl) (.intro (fun _ => rfl) (.intro (fun _ => rfl) trivial)))) (fun k => (.intro (fun d => by kernel_rfl) (.intro (fun d => by kernel_rfl) (.intro (fun d => by kernel_rfl) (.intro (fun d => by kernel_rfl) trivial))))) trivial (fun k => trivial) (fun k d => Aex (A9 k) d) (fun k d => by kernel_rfl)
def Av8 := Ah Z2 Ys Vi
abbrev Wk : PSh := F0
abbrev V5 : PSh := ⟨[], [kI]⟩
abbrev N3 : Type := (((List (Int × Int)) × (Int × (Int × Unit))) × Unit) × (Unit × ((Int × Unit) × Unit))
abbrev Aad : Type := N3
abbrev Aae : Type := N3
abbrev Ly : Type := (((N3) -> Option (Unit × ((Int × Unit) × Unit))) × (((Aad) -> Option (Unit × ((Int × Unit) × Unit))) × (((Aae) -> Option (Unit × ((Int × Unit) × Unit))) × Unit)))
abbrev Alx : PSh := ⟨[.var 30 [.v (.sl (.pair (.int .i64) (.int .i64))), vI, vI]], [.any, .mk false [.ref 0 0], .any, kI] ++ Q6 132⟩
abbrev Aiv : PSh := ⟨[.var 30 [.v (.sl (.pair (.int .i64) (.int .i64))), vI, vI]], [.any, .mk false [.ref 0 0], .any, .any, .any, kI] ++ Q6 130⟩
abbrev Ajx : PSh := ⟨[.var 30 [.v (.sl (.pair (.int .i64) (.int .i64))), vI, vI]], [.any, .mk false [.ref 0 0], .any, .any, .any, .any, .any, .any, .any, kI] ++ Q6 126⟩
def Hh (T : Ly) (d : N3) : Option (Unit × ((Int × Unit) × Unit)) :=
 let x5 := (d.1.1.1.length : Int)
 let x6 := (decide (d.2.2.1.1 < x5))
 bif x6 then (
 bif decide ((0 : Int) <= d.2.2.1.1) && decide (d.2.2.1.1 < (d.1.1.1.length : Int)) then (
 (La ((), ((1900, ()), ()))).bind fun x7 =>
 let x8 := (decide ((Ac d.1.1.1 d.2.2.1.1).1 < x7.2.1.1))
 bif x8 then (
 some ((), ((13, ()), ())))
 else (
 (Q5 ((), ())).bind fun x9 =>
 let x10 := (decide ((Ac d.1.1.1 d.2.2.1.1).1 > x9.2.1.1))
 bif x10 then (
 some ((), ((13, ()), ())))
 else (
 let x11 := (Bm .i64 d.2.2.1.1 1)
 (T.1 (d.1, ((), ((x11, ()), ())))))))
 else none)
 else (
 let x12 := (decide (d.1.1.2.1 < (0 : Int)))
 bif x12 then (
 some ((), ((1, ()), ())))
 else (
 let x13 := (decide (d.1.1.2.1 > (1099511627776 : Int)))
 bif x13 then (
 some ((), ((1, ()), ())))
 else (
 let x14 := (decide (d.1.1.2.2.1 < (0 : Int)))
 bif x14 then (
 some ((), ((1, ()), ())))
 else (
 let x15 := (decide (d.1.1.2.2.1 > (1099511627776 : Int)))
 bif x15 then (
 some ((), ((1, ()), ())))
 else (
 (T.2.1 (d.1, ((), ((0, ()), ())))))))))
def Iv (T : Ly) (d : Aad) : Option (Unit × ((Int × Unit) × Unit)) :=
 let x16 := (d.1.1.1.length : Int)
 let x17 := (decide (d.2.2.1.1 < x16))
 bif x17 then (
 bif decide ((0 : Int) <= d.2.2.1.1) && decide (d.2.2.1.1 < (d.1.1.1.length : Int)) then (
 (Vi ((), (((Ac d.1.1.1 d.2.2.1.1).1, ()), ()))).bind fun x18 =>
 let x19 := (x18.2.2.2.1.1 != (1 : Int))
 bif x19 then (
 some ((), ((1, ()), ())))
 else (
 bif decide ((0 : Int) <= d.2.2.1.1) && decide (d.2.2.1.1 < (d.1.1.1.length : Int)) then (
 let x20 := (decide ((Ac d.1.1.1 d.2.2.1.1).2 < (0 : Int)))
 bif x20 then (
 some ((), ((1, ()), ())))
 else (
 bif decide ((0 : Int) <= d.2.2.1.1) && decide (d.2.2.1.1 < (d.1.1.1.length : Int)) then (
 let x21 := (decide ((Ac d.1.1.1 d.2.2.1.1).2 > (1000 : Int)))
 bif x21 then (
 some ((), ((1, ()), ())))
 else (
 let x22 := (Bm .i64 d.2.2.1.1 1)
 (T.2.1 (d.1, ((), ((x22, ()), ()))))))
 else none))
 else none))
 else none)
 else (
 (T.2.2.1 (d.1, ((), ((1, ()), ())))))
def It (T : Ly) (d : Aae) : Option (Unit × ((Int × Unit) × Unit)) :=
 let x23 := (d.1.1.1.length : Int)
 let x24 := (decide (d.2.2.1.1 < x23))
 bif x24 then (
 let x25 := (H3 .i64 d.2.2.1.1 1)
 bif decide ((0 : Int) <= x25) && decide (x25 < (d.1.1.1.length : Int)) then (
 bif decide ((0 : Int) <= d.2.2.1.1) && decide (d.2.2.1.1 < (d.1.1.1.length : Int)) then (
 let x26 := (decide ((Ac d.1.1.1 d.2.2.1.1).1 <= (Ac d.1.1.1 x25).1))
 bif x26 then (
 some ((), ((6, ()), ())))
 else (
 let x27 := (Bm .i64 (Ac d.1.1.1 x25).2 (1 : Int))
 let x28 := ((Ac d.1.1.1 d.2.2.1.1).2 != x27)
 bif x28 then (
 let x29 := (H3 .i64 (Ac d.1.1.1 x25).2 (1 : Int))
 let x30 := ((Ac d.1.1.1 d.2.2.1.1).2 != x29)
 bif x30 then (
 some ((), ((6, ()), ())))
 else (
 let x31 := (Bm .i64 d.2.2.1.1 1)
 (T.2.2.1 (d.1, ((), ((x31, ()), ()))))))
 else (
 let x32 := (Bm .i64 d.2.2.1.1 1)
 (T.2.2.1 (d.1, ((), ((x32, ()), ())))))))
 else none)
 else none)
 else (
 some ((), ((0, ()), ())))
def B0 : Nat -> Ly
 | 0 => (fun _ => none, (fun _ => none, (fun _ => none, ())))
 | k + 1 => (Hh (B0 k), (Iv (B0 k), (It (B0 k), ())))
theorem E2 (k : Nat) : B0 (k + 1) = (Hh (B0 k), (Iv (B0 k), (It (B0 k), ()))) := rfl
def J8 (T : Ly) (d : Y27) : Option (Unit × ((Int × Unit) × Unit)) :=
 let x1 := (d.2.1.1.length : Int)
 let x2 := (x1 == (0 : Int))
 bif x2 then (
 some ((), ((8, ()), ())))
 else (
 let x3 := (d.2.1.1.length : Int)
 let x4 := (decide (x3 > (256 : Int)))
 bif x4 then (
 some ((), ((3, ()), ())))
 else (
 (T.1 (d.2, ((), ((0, ()), ()))))))
def K5 (d) := lim fun k => J8 (B0 k) d
theorem Aea : Em Tryz.prog ET0 21 Wk V5 K5 :=
 fnL (E := (((E0.add 42 Zg).add 43 Au4).add 44 Av8)) (pi := Wk) (po := V5) (Aa (Aa (Aa Bc (Af Wo)) (Af Aus)) (Af Atn)) (fn := Tryz.f21) Tryz.func21 (by kernel_rfl) (by kernel_rfl) [.tmp 2] (by kernel_rfl) rfl rfl rfl [] (fun k => [(9, ⟨Alx, (B0 k).1⟩), (21, ⟨Aiv, (B0 k).2.1⟩), (30, ⟨Ajx, (B0 k).2.2.1⟩)]) (fun _ => [])
 (.intro (fun _ => rfl) (.intro (fun _ => rfl) (.intro (fun _ => rfl) trivial))) (fun k => (.intro (fun d => by kernel_rfl) (.intro (fun d => by kernel_rfl) (.intro (fun d => by kernel_rfl) trivial)))) trivial (fun k => trivial) (fun k d => J8 (B0 k) d) (fun k d => by kernel_rfl)
def Aha := Ah Wk V5 K5
abbrev Ph : PSh := F0
abbrev Pj : PSh := ⟨[.row 96 (.pair (.int .i64) (.int .i64))], [.mk true [.osl 0, vI, vI]]⟩
abbrev Rh : Type := ((List (Int × Int)) × Unit) × ((Int × (Int × Unit)) × Unit)
abbrev U3 : Type := ((Int × (Int × Unit)) × ((List (Int × Int)) × ((Int × (Int × Unit)) × ((List (Int × Int)) × Unit)))) × (Unit × (Unit × (((List (Int × Int)) × Unit) × ((Int × Unit) × ((Int × Unit) × Unit)))))
abbrev Px : Type := (((U3) -> Option (Rh)) × Unit)
abbrev Agk : PSh := ⟨[.var 30 [.osl 1, vI, vI], .row 96 (.pair (.int .i64) (.int .i64)), .var 30 [.osl 3, vI, vI], .row 96 (.pair (.int .i64) (.int .i64))], [.any, .any, .mk false [.ref 0 0], .mk false [.ref 2 0], .any, .any, .any, .any, .any, .any, .any, .any, .mk false [.v (.sl (.pair (.int .i64) (.int .i64)))], kI, kI] ++ Q6 15⟩
def Jd (T : Px) (d : U3) : Option (Rh) :=
 let x2 := (decide (d.2.2.2.2.2.1.1 < d.2.2.2.2.1.1))
 bif x2 then (
 bif decide ((0 : Int) <= d.2.2.2.2.2.1.1) && decide (d.2.2.2.2.2.1.1 < (d.2.2.2.1.1.length : Int)) then (
 let x3 := ([((Ac d.2.2.2.1.1 d.2.2.2.2.2.1.1).1, (Ac d.2.2.2.1.1 d.2.2.2.2.2.1.1).2)] : List (Int × Int))
 bif decide (((d.1.2.2.2.1.length + x3.length) * 16 : Nat) <= 140737488355328) && decide (d.1.2.2.2.1.length + x3.length <= 9223372036854775807) then (
 let x4 := (d.1.2.2.2.1 ++ x3)
 let x5 := (Bm .i64 d.2.2.2.2.2.1.1 1)
 (T.1 ((d.1.1, (d.1.2.1, (d.1.2.2.1, (x4, ())))), ((), ((), (d.2.2.2.1, (d.2.2.2.2.1, ((x5, ()), ()))))))))
 else none)
 else none)
 else (
 some (d.1.2.2.2, (d.1.2.2.1, ())))
def D9 : Nat -> Px
 | 0 => (fun _ => none, ())
 | k + 1 => (Jd (D9 k), ())
theorem Aal (k : Nat) : D9 (k + 1) = (Jd (D9 k), ()) := rfl
def Oi (T : Px) (d : Y27) : Option (Rh) :=
 let x1 := (d.2.1.1.length : Int)
 (T.1 ((((0 : Int), (0, ())), (([] : List (Int × Int)), (d.2.1.2, (([] : List (Int × Int)), ())))), ((), ((), ((d.2.1.1, ()), ((x1, ()), ((0, ()), ())))))))
def Me (d) := lim fun k => Oi (D9 k) d
theorem Ajj : Em Tryz.prog ET0 33 Ph Pj Me :=
 fnL (E := E0) (pi := Ph) (po := Pj) Bc (fn := Tryz.f33) Tryz.func33 (by kernel_rfl) (by kernel_rfl) [.cell 2 30] (by kernel_rfl) rfl rfl rfl [] (fun k => [(4, ⟨Agk, (D9 k).1⟩)]) (fun _ => [])
 (.intro (fun _ => rfl) trivial) (fun k => (.intro (fun d => by kernel_rfl) trivial)) trivial (fun k => trivial) (fun k d => Oi (D9 k) d) (fun k d => by kernel_rfl)
def Alr := Ah Ph Pj Me
abbrev Zu : PSh := F0
abbrev X6 : PSh := ⟨[.row 96 (.pair (.int .i64) (.int .i64))], [.mk false [.v (.nptr (.pair (.sl (.pair (.int .i64) (.int .i64))) (.pair (.int .i64) (.int .i64))))], .mk true [.osl 0, vI, vI], kB]⟩
def Ael (T : Unit) (d : Y27) : Option (((List (Int × Int)) × Unit) × (((Option ((List (Int × Int)) × (Int × Int))) × Unit) × ((Int × (Int × Unit)) × ((Bool × Unit) × Unit)))) :=
 (Pz ((), ((d.2.1.1, ()), ((d.2.1.2.1, ()), (d.2.1.2.2, ()))))).bind fun x1 =>
 (Me ((), d.2)).bind fun x2 =>
 bif x1.2.2.1.1.isNone then (
 let x3 := (!x1.2.1.1.isNone)
 bif x3 then (
 (K5 ((), ((x2.1.1, x2.2.1), ()))).bind fun x4 =>
 let x5 := (x4.2.1.1 == (0 : Int))
 some (x2.1, (x1.2.1, (x2.2.1, ((x5, ()), ())))))
 else (
 some (x2.1, (x1.2.1, (x2.2.1, ((false, ()), ()))))))
 else (
 some (x2.1, (x1.2.1, (x2.2.1, ((false, ()), ())))))
def M8 := Ael ()
theorem Auo : Em Tryz.prog ET0 20 Zu X6 M8 :=
 fn0 (E := (((E0.add 21 Aha).add 26 Ar2).add 33 Alr)) (pi := Zu) (po := X6) (Aa (Aa (Aa Bc (Af Aea)) (Af Anf)) (Af Ajj)) (fn := Tryz.f20) Tryz.func20 (by kernel_rfl) (by kernel_rfl) [.tmp 2, .cell 3 30, .tmp 4] (by kernel_rfl) rfl rfl rfl [] fun d => by kernel_rfl
def Axd := Ah Zu X6 M8
abbrev T9 : PSh := Qk
abbrev S4 : PSh := Aw
abbrev V0 : Type := Y3
abbrev Aab : Type := ((List Int) × Unit) × ((Int × Unit) × (Unit × ((Int × Unit) × Unit)))
abbrev Tq : Type := (((Aab) -> Option (V0)) × Unit)
abbrev Ajf : PSh := ⟨[.row 5 (.int .u8)], [.mk false [.v (.int .u64)], .any, .any, .any, .any, .mk false [.osl 0], kI] ++ Q6 17⟩
def Kz (T : Tq) (d : Aab) : Option (V0) :=
 let x3 := (decide (d.2.2.2.1.1 >= (0 : Int)))
 bif x3 then (
 let x4 := (Int.tmod d.2.1.1 (256 : Int))
 let x5 := (Ef .u8 x4)
 bif decide ((0 : Int) <= d.2.2.2.1.1) && decide (d.2.2.2.1.1 < (d.1.1.length : Int)) then (
 let x6 := (List.set d.1.1 (Int.toNat d.2.2.2.1.1) x5)
 let x7 := (Nm .u64 d.2.1.1 (256 : Int))
 let x8 := (H3 .i64 d.2.2.2.1.1 1)
 (T.1 ((x6, ()), ((x7, ()), ((), ((x8, ()), ()))))))
 else none)
 else (
 some (d.1, ((), ())))
def Fi : Nat -> Tq
 | 0 => (fun _ => none, ())
 | k + 1 => (Kz (Fi k), ())
theorem Aew (k : Nat) : Fi (k + 1) = (Kz (Fi k), ()) := rfl
def Ro (T : Tq) (d : Y4) : Option (V0) :=
 bif decide ((0 : Int) <= d.2.2.1.1) && decide (d.2.2.1.1 <= d.2.2.1.1) && decide (d.2.2.1.1 * (1 : Int) <= 140737488355328) && decide (d.2.2.1.1 <= 9223372036854775807) then (
 let x1 := (List.replicate (Int.toNat d.2.2.1.1) (0 : Int))
 let x2 := (H3 .i64 d.2.2.1.1 1)
 (T.1 ((x1, ()), (d.2.1, ((), ((x2, ()), ()))))))
 else none
def D8 (d) := lim fun k => Ro (Fi k) d
theorem Ac2 : Em Tryz.prog ET0 48 T9 S4 D8 :=
 fnL (E := E0) (pi := T9) (po := S4) Bc (fn := Tryz.f48) Tryz.func48 (by kernel_rfl) (by kernel_rfl) [.tmp 4] (by kernel_rfl) rfl rfl rfl [] (fun k => [(4, ⟨Ajf, (Fi k).1⟩)]) (fun _ => [])
 (.intro (fun _ => rfl) trivial) (fun k => (.intro (fun d => by kernel_rfl) trivial)) trivial (fun k => trivial) (fun k d => Ro (Fi k) d) (fun k d => by kernel_rfl)
def Aeg := Ah T9 S4 D8
abbrev Wi : PSh := Hm
abbrev Wg : PSh := Aw
abbrev Yg : Type := Y3
abbrev Aa4 : Type := ((Int × (Int × (Int × (Int × (Int × Unit))))) × ((List Int) × Unit)) × (Unit × (Unit × ((Int × Unit) × Unit)))
abbrev Qi : Type := (((Aa4) -> Option (Yg)) × Unit)
abbrev Aln : PSh := ⟨[.var 36 [.v (.int .u32), .v (.int .u32), .v (.int .u32), .v (.int .u32), .v (.int .u32)], .row 5 (.int .u8)], [.any, .mk false [.ref 0 0], .any, .mk false [.osl 1], kI] ++ Q6 12⟩
def L7 (T : Qi) (d : Aa4) : Option (Yg) :=
 let x1 := (decide (d.2.2.2.1.1 < (5 : Int)))
 bif x1 then (
 bif decide ((0 : Int) <= d.2.2.2.1.1) && decide (d.2.2.2.1.1 < (5 : Int)) then (
 bif decide (d.2.2.2.1.1 = (0 : Int)) then (
 let x18 := (Ef .u64 d.1.1.1)
 (D8 ((), ((x18, ()), ((4, ()), ())))).bind fun x19 =>
 bif decide (((d.1.2.1.length + x19.1.1.length) * 1 : Nat) <= 140737488355328) && decide (d.1.2.1.length + x19.1.1.length <= 9223372036854775807) then (
 let x20 := (d.1.2.1 ++ x19.1.1)
 let x21 := (Bm .i64 d.2.2.2.1.1 1)
 (T.1 ((d.1.1, (x20, ())), ((), ((), ((x21, ()), ()))))))
 else none)
 else (
 bif decide (d.2.2.2.1.1 = (1 : Int)) then (
 let x14 := (Ef .u64 d.1.1.2.1)
 (D8 ((), ((x14, ()), ((4, ()), ())))).bind fun x15 =>
 bif decide (((d.1.2.1.length + x15.1.1.length) * 1 : Nat) <= 140737488355328) && decide (d.1.2.1.length + x15.1.1.length <= 9223372036854775807) then (
 let x16 := (d.1.2.1 ++ x15.1.1)
 let x17 := (Bm .i64 d.2.2.2.1.1 1)
 (T.1 ((d.1.1, (x16, ())), ((), ((), ((x17, ()), ()))))))
 else none)
 else (
 bif decide (d.2.2.2.1.1 = (2 : Int)) then (
 let x10 := (Ef .u64 d.1.1.2.2.1)
 (D8 ((), ((x10, ()), ((4, ()), ())))).bind fun x11 =>
 bif decide (((d.1.2.1.length + x11.1.1.length) * 1 : Nat) <= 140737488355328) && decide (d.1.2.1.length + x11.1.1.length <= 9223372036854775807) then (
 let x12 := (d.1.2.1 ++ x11.1.1)
 let x13 := (Bm .i64 d.2.2.2.1.1 1)
 (T.1 ((d.1.1, (x12, ())), ((), ((), ((x13, ()), ()))))))
 else none)
 else (
 bif decide (d.2.2.2.1.1 = (3 : Int)) then (
 let x6 := (Ef .u64 d.1.1.2.2.2.1)
 (D8 ((), ((x6, ()), ((4, ()), ())))).bind fun x7 =>
 bif decide (((d.1.2.1.length + x7.1.1.length) * 1 : Nat) <= 140737488355328) && decide (d.1.2.1.length + x7.1.1.length <= 9223372036854775807) then (
 let x8 := (d.1.2.1 ++ x7.1.1)
 let x9 := (Bm .i64 d.2.2.2.1.1 1)
 (T.1 ((d.1.1, (x8, ())), ((), ((), ((x9, ()), ()))))))
 else none)
 else (
 bif decide (d.2.2.2.1.1 = (4 : Int)) then (
 let x2 := (Ef .u64 d.1.1.2.2.2.2.1)
 (D8 ((), ((x2, ()), ((4, ()), ())))).bind fun x3 =>
 bif decide (((d.1.2.1.length + x3.1.1.length) * 1 : Nat) <= 140737488355328) && decide (d.1.2.1.length + x3.1.1.length <= 9223372036854775807) then (
 let x4 := (d.1.2.1 ++ x3.1.1)
 let x5 := (Bm .i64 d.2.2.2.1.1 1)
 (T.1 ((d.1.1, (x4, ())), ((), ((), ((x5, ()), ()))))))
 else none)
 else (
 none))))))
 else none)
 else (
 some (d.1.2, ((), ())))
def Gd : Nat -> Qi
 | 0 => (fun _ => none, ())
 | k + 1 => (L7 (Gd k), ())
theorem Aik (k : Nat) : Gd (k + 1) = (L7 (Gd k), ()) := rfl
def Su (T : Qi) (d : Y9) : Option (Yg) :=
 (T.1 ((d.2.1, (([] : List Int), ())), ((), ((), ((0, ()), ())))))
def Ku (d) := lim fun k => Su (Gd k) d
theorem Aeu : Em Tryz.prog ET0 24 Wi Wg Ku :=
 fnL (E := (E0.add 48 Aeg)) (pi := Wi) (po := Wg) (Aa Bc (Af Ac2)) (fn := Tryz.f24) Tryz.func24 (by kernel_rfl) (by kernel_rfl) [.tmp 2] (by kernel_rfl) rfl rfl rfl [] (fun k => [(4, ⟨Aln, (Gd k).1⟩)]) (fun _ => [])
 (.intro (fun _ => rfl) trivial) (fun k => (.intro (fun d => by kernel_rfl) trivial)) trivial (fun k => trivial) (fun k d => Su (Gd k) d) (fun k d => by kernel_rfl)
def Ag7 := Ah Wi Wg Ku
abbrev Aa1 : PSh := ⟨[], [kI, kI]⟩
abbrev Ab1 : PSh := ⟨[], [kS]⟩
abbrev Ta : Type := Y16
abbrev Ahm : Type := Unit × ((Int × Unit) × ((Int × Unit) × ((ByteArray × Unit) × Unit)))
abbrev Ahk : Type := Unit × ((Int × Unit) × ((ByteArray × Unit) × Unit))
abbrev U1 : Type := (((Ahm) -> Option (Ta)) × (((Ahk) -> Option (Ta)) × Unit))
abbrev Aqh : PSh := ⟨[], [kI, kI, .any, .any, .any, kS] ++ Q6 24⟩
abbrev Ap4 : PSh := ⟨[], [.any, kI, .any, .any, .any, kS] ++ Q6 24⟩
def Qe (T : U1) (d : Ahm) : Option (Ta) :=
 let x1 := (decide (d.2.1.1 > (0 : Int)))
 bif x1 then (
 let x2 := (Int.tmod d.2.1.1 (10 : Int))
 let x3 := (Bm .i64 (48 : Int) x2)
 let x4 := (Ef .u8 x3)
 let x5 := ([x4] : List Int)
 let x6 := (Ao x5)
 bif Hb x6 d.2.2.2.1.1 then (
 let x7 := (x6 ++ d.2.2.2.1.1)
 let x8 := (Nm .i64 d.2.1.1 (10 : Int))
 (T.1 ((), ((x8, ()), (d.2.2.1, ((x7, ()), ()))))))
 else none)
 else (
 (T.2.1 ((), d.2.2)))
def Lx (T : U1) (d : Ahk) : Option (Ta) :=
 let x9 := (d.2.2.1.1.size : Int)
 let x10 := (decide (x9 < d.2.1.1))
 bif x10 then (
 bif Hb (⟨#[48]⟩ : ByteArray) d.2.2.1.1 then (
 let x11 := ((⟨#[48]⟩ : ByteArray) ++ d.2.2.1.1)
 (T.2.1 ((), (d.2.1, ((x11, ()), ())))))
 else none)
 else (
 let x12 := (d.2.2.1.1.size : Int)
 let x13 := (x12 == (0 : Int))
 bif x13 then (
 bif Hb (⟨#[48]⟩ : ByteArray) d.2.2.1.1 then (
 let x14 := ((⟨#[48]⟩ : ByteArray) ++ d.2.2.1.1)
 (T.2.1 ((), (d.2.1, ((x14, ()), ())))))
 else none)
 else (
 some ((), d.2.2)))
def Dw : Nat -> U1
 | 0 => (fun _ => none, (fun _ => none, ()))
 | k + 1 => (Qe (Dw k), (Lx (Dw k), ()))
theorem T8 (k : Nat) : Dw (k + 1) = (Qe (Dw k), (Lx (Dw k), ())) := rfl
def X1 (T : U1) (d : Y4) : Option (Ta) :=
 (T.1 ((), (d.2.1, (d.2.2.1, (((⟨#[]⟩ : ByteArray), ()), ())))))
def Fh (d) := lim fun k => X1 (Dw k) d
theorem Ak5 : Em Tryz.prog ET0 45 Aa1 Ab1 Fh :=
 fnL (E := E0) (pi := Aa1) (po := Ab1) Bc (fn := Tryz.f45) Tryz.func45 (by kernel_rfl) (by kernel_rfl) [.tmp 4] (by kernel_rfl) rfl rfl rfl [] (fun k => [(3, ⟨Aqh, (Dw k).1⟩), (8, ⟨Ap4, (Dw k).2.1⟩)]) (fun _ => [])
 (.intro (fun _ => rfl) (.intro (fun _ => rfl) trivial)) (fun k => (.intro (fun d => by kernel_rfl) (.intro (fun d => by kernel_rfl) trivial))) trivial (fun k => trivial) (fun k d => X1 (Dw k) d) (fun k d => by kernel_rfl)
def Ane := Ah Aa1 Ab1 Fh
abbrev Agh : PSh := ⟨[], [kI, kI, kI]⟩
abbrev Afj : PSh := ⟨[], [kI]⟩
abbrev Akv : Type := Unit × ((Int × Unit) × ((Int × Unit) × ((Int × Unit) × ((Int × Unit) × Unit))))
abbrev Agc : Type := (((Akv) -> Option (Unit × ((Int × Unit) × Unit))) × Unit)
abbrev As8 : PSh := ⟨[], [kI, kI, .any, .any, .any, .any, .any, kI, kI] ++ Q6 16⟩
def Sg (T : Agc) (d : Akv) : Option (Unit × ((Int × Unit) × Unit)) :=
 let x4 := (decide (d.2.2.2.2.1.1 < d.2.2.1.1))
 bif x4 then (
 (I7 ((), (d.2.1, d.2.2.2.2))).bind fun x5 =>
 let x6 := (Bm .i64 d.2.2.2.1.1 x5.2.1.1)
 let x7 := (Bm .i64 d.2.2.2.2.1.1 1)
 (T.1 ((), (d.2.1, (d.2.2.1, ((x6, ()), ((x7, ()), ())))))))
 else (
 some ((), (d.2.2.2.1, ())))
def Kf : Nat -> Agc
 | 0 => (fun _ => none, ())
 | k + 1 => (Sg (Kf k), ())
theorem Arj (k : Nat) : Kf (k + 1) = (Sg (Kf k), ()) := rfl
def Abn (T : Agc) (d : Y6) : Option (Unit × ((Int × Unit) × Unit)) :=
 (La ((), (d.2.1, ()))).bind fun x1 =>
 let x2 := (Bm .i64 x1.2.1.1 d.2.2.2.1.1)
 let x3 := (H3 .i64 x2 1)
 (T.1 ((), (d.2.1, (d.2.2.1, ((x3, ()), ((1, ()), ()))))))
def Si (d) := lim fun k => Abn (Kf k) d
theorem Anw : Em Tryz.prog ET0 46 Agh Afj Si :=
 fnL (E := ((E0.add 42 Zg).add 78 Ahd)) (pi := Agh) (po := Afj) (Aa (Aa Bc (Af Wo)) (Af Aen)) (fn := Tryz.f46) Tryz.func46 (by kernel_rfl) (by kernel_rfl) [.tmp 6] (by kernel_rfl) rfl rfl rfl [] (fun k => [(4, ⟨As8, (Kf k).1⟩)]) (fun _ => [])
 (.intro (fun _ => rfl) trivial) (fun k => (.intro (fun d => by kernel_rfl) trivial)) trivial (fun k => trivial) (fun k d => Abn (Kf k) d) (fun k d => by kernel_rfl)
def Asl := Ah Agh Afj Si
abbrev Acs : PSh := Bu
abbrev Abf : PSh := Aw
abbrev Af3 : Type := Y3
abbrev Agu : Type := ((List Int) × Unit) × (((List Int) × Unit) × (Unit × Unit))
abbrev Aav : Type := (((Agu) -> Option (Af3)) × Unit)
abbrev Aqb : PSh := ⟨[.row 5 (.int .u8)], [.mk false [.v (.sl (.int .u8))], .any, .any, .mk false [.osl 0]] ++ Q6 20⟩
def Qg (T : Aav) (d : Agu) : Option (Af3) :=
 let x5 := (d.1.1.length : Int)
 let x6 := (Int.tmod x5 (64 : Int))
 let x7 := (x6 != (56 : Int))
 bif x7 then (
 let x8 := ([(0 : Int)] : List Int)
 bif decide (((d.1.1.length + x8.length) * 1 : Nat) <= 140737488355328) && decide (d.1.1.length + x8.length <= 9223372036854775807) then (
 let x9 := (d.1.1 ++ x8)
 (T.1 ((x9, ()), (d.2.1, ((), ())))))
 else none)
 else (
 let x10 := (d.2.1.1.length : Int)
 let x11 := (Ef .u64 x10)
 let x12 := (Qq .u64 x11 8)
 (D8 ((), ((x12, ()), ((8, ()), ())))).bind fun x13 =>
 bif decide (((d.1.1.length + x13.1.1.length) * 1 : Nat) <= 140737488355328) && decide (d.1.1.length + x13.1.1.length <= 9223372036854775807) then (
 let x14 := (d.1.1 ++ x13.1.1)
 some ((x14, ()), ((), ())))
 else none)
def Ja : Nat -> Aav
 | 0 => (fun _ => none, ())
 | k + 1 => (Qg (Ja k), ())
theorem Anq (k : Nat) : Ja (k + 1) = (Qg (Ja k), ()) := rfl
def Yz (T : Aav) (d : Y7) : Option (Af3) :=
 let x1 := ([] : List Int)
 bif decide (((x1.length + d.2.1.1.length) * 1 : Nat) <= 140737488355328) && decide (x1.length + d.2.1.1.length <= 9223372036854775807) then (
 let x2 := (x1 ++ d.2.1.1)
 let x3 := ([(128 : Int)] : List Int)
 bif decide (((x2.length + x3.length) * 1 : Nat) <= 140737488355328) && decide (x2.length + x3.length <= 9223372036854775807) then (
 let x4 := (x2 ++ x3)
 (T.1 ((x4, ()), (d.2.1, ((), ())))))
 else none)
 else none
def Za (d) := lim fun k => Yz (Ja k) d
theorem Avh : Em Tryz.prog ET0 79 Acs Abf Za :=
 fnL (E := (E0.add 48 Aeg)) (pi := Acs) (po := Abf) (Aa Bc (Af Ac2)) (fn := Tryz.f79) Tryz.func79 (by kernel_rfl) (by kernel_rfl) [.tmp 2] (by kernel_rfl) rfl rfl rfl [] (fun k => [(4, ⟨Aqb, (Ja k).1⟩)]) (fun _ => [])
 (.intro (fun _ => rfl) trivial) (fun k => (.intro (fun d => by kernel_rfl) trivial)) trivial (fun k => trivial) (fun k d => Yz (Ja k) d) (fun k d => by kernel_rfl)
def Ax2 := Ah Acs Abf Za
abbrev Vs : PSh := Bu
abbrev Vp : PSh := ⟨[], [.mk false [.v (.int .u64)]]⟩
abbrev Ace : Type := Unit × (((List Int) × Unit) × ((Int × Unit) × ((Int × Unit) × Unit)))
abbrev Vu : Type := (((Ace) -> Option (Unit × ((Int × Unit) × Unit))) × Unit)
abbrev Ama : PSh := ⟨[], [.mk false [.v (.sl (.int .u8))], .any, .any, .mk false [.v (.int .u64)], kI] ++ Q6 15⟩
def Mo (T : Vu) (d : Ace) : Option (Unit × ((Int × Unit) × Unit)) :=
 let x1 := (d.2.1.1.length : Int)
 let x2 := (decide (d.2.2.2.1.1 < x1))
 bif x2 then (
 let x3 := (Qq .u64 d.2.2.1.1 256)
 bif decide ((0 : Int) <= d.2.2.2.1.1) && decide (d.2.2.2.1.1 < (d.2.1.1.length : Int)) then (
 let x4 := (Ef .u64 (gd (.int .u8) d.2.1.1 d.2.2.2.1.1))
 let x5 := (Bm .u64 x3 x4)
 let x6 := (Bm .i64 d.2.2.2.1.1 1)
 (T.1 ((), (d.2.1, ((x5, ()), ((x6, ()), ()))))))
 else none)
 else (
 some ((), (d.2.2.1, ())))
def F6 : Nat -> Vu
 | 0 => (fun _ => none, ())
 | k + 1 => (Mo (F6 k), ())
theorem Agl (k : Nat) : F6 (k + 1) = (Mo (F6 k), ()) := rfl
def Aar (T : Vu) (d : Y7) : Option (Unit × ((Int × Unit) × Unit)) :=
 (T.1 ((), (d.2.1, ((0, ()), ((0, ()), ())))))
def R4 (d) := lim fun k => Aar (F6 k) d
theorem Ap7 : Em Tryz.prog ET0 103 Vs Vp R4 :=
 fnL (E := E0) (pi := Vs) (po := Vp) Bc (fn := Tryz.f103) Tryz.func103 (by kernel_rfl) (by kernel_rfl) [.tmp 2] (by kernel_rfl) rfl rfl rfl [] (fun k => [(4, ⟨Ama, (F6 k).1⟩)]) (fun _ => [])
 (.intro (fun _ => rfl) trivial) (fun k => (.intro (fun d => by kernel_rfl) trivial)) trivial (fun k => trivial) (fun k d => Aar (F6 k) d) (fun k d => by kernel_rfl)
def Auf := Ah Vs Vp R4
abbrev Z3 : PSh := Ez
abbrev Z4 : PSh := E3
def Aed (T : Unit) (d : Y4) : Option (Unit × ((Int × Unit) × Unit)) :=
 let x1 := (Ef .u64 d.2.2.1.1)
 bif decide (x1 < 0) then (
 none)
 else (
 let x2 := (Au0 .u32 d.2.1.1 x1)
 let x3 := (H3 .i64 (32 : Int) d.2.2.1.1)
 let x4 := (Ef .u64 x3)
 bif decide (x4 < 0) then (
 none)
 else (
 let x5 := (A3g .u32 d.2.1.1 x4)
 let x6 := (ior .u32 x2 x5)
 some ((), ((x6, ()), ()))))
def J9 := Aed ()
theorem Aur : Em Tryz.prog ET0 104 Z3 Z4 J9 :=
 fn0 (E := E0) (pi := Z3) (po := Z4) Bc (fn := Tryz.f104) Tryz.func104 (by kernel_rfl) (by kernel_rfl) [.tmp 4] (by kernel_rfl) rfl rfl rfl [] fun d => by kernel_rfl
def Axs := Ah Z3 Z4 J9
abbrev Yy : PSh := ⟨[], [.mk true [.v (.int .u32), .v (.int .u32), .v (.int .u32), .v (.int .u32), .v (.int .u32)], .mk false [.v (.sl (.int .u8))]]⟩
abbrev X3 : PSh := Hm
abbrev Hn : Type := Y9
abbrev Aeo : Type := ((Int × (Int × (Int × (Int × (Int × Unit))))) × ((Int × (Int × (Int × (Int × (Int × Unit))))) × ((List Int) × Unit))) × (((List Int) × Unit) × (Unit × (Unit × (Unit × ((Int × Unit) × Unit)))))
abbrev Ab3 : Type := ((Int × (Int × (Int × (Int × (Int × Unit))))) × ((Int × (Int × (Int × (Int × (Int × Unit))))) × ((List Int) × Unit))) × (Unit × (Unit × (Unit × ((Int × Unit) × Unit))))
abbrev Ac5 : Type := ((Int × (Int × (Int × (Int × (Int × Unit))))) × ((Int × (Int × (Int × (Int × (Int × Unit))))) × ((List Int) × Unit))) × (Unit × (Unit × (Unit × ((Int × Unit) × ((Int × Unit) × ((Int × Unit) × ((Int × Unit) × ((Int × Unit) × ((Int × Unit) × Unit)))))))))
abbrev Ab0 : Type := ((Int × (Int × (Int × (Int × (Int × Unit))))) × ((Int × (Int × (Int × (Int × (Int × Unit))))) × ((List Int) × Unit))) × (Unit × (Unit × (Unit × ((Int × Unit) × ((Int × Unit) × ((Int × Unit) × ((Int × Unit) × ((Int × Unit) × ((Int × Unit) × ((Int × Unit) × ((Int × Unit) × Unit)))))))))))
abbrev Kx : Type := (((Aeo) -> Option (Hn)) × (((Ab3) -> Option (Hn)) × (((Ac5) -> Option (Hn)) × (((Ab0) -> Option (Hn)) × Unit))))
abbrev Aoz : PSh := ⟨[.var 36 [.v (.int .u32), .v (.int .u32), .v (.int .u32), .v (.int .u32), .v (.int .u32)], .var 36 [.v (.int .u32), .v (.int .u32), .v (.int .u32), .v (.int .u32), .v (.int .u32)], .row 35 (.int .u32)], [.any, .mk false [.v (.sl (.int .u8))], .mk false [.ref 0 0], .any, .mk false [.ref 1 0], .mk false [.osl 2], kI] ++ Q6 146⟩
abbrev Aly : PSh := ⟨[.var 36 [.v (.int .u32), .v (.int .u32), .v (.int .u32), .v (.int .u32), .v (.int .u32)], .var 36 [.v (.int .u32), .v (.int .u32), .v (.int .u32), .v (.int .u32), .v (.int .u32)], .row 35 (.int .u32)], [.any, .any, .mk false [.ref 0 0], .any, .mk false [.ref 1 0], .mk false [.osl 2], .any, kI] ++ Q6 145⟩
abbrev Alo : PSh := ⟨[.var 36 [.v (.int .u32), .v (.int .u32), .v (.int .u32), .v (.int .u32), .v (.int .u32)], .var 36 [.v (.int .u32), .v (.int .u32), .v (.int .u32), .v (.int .u32), .v (.int .u32)], .row 35 (.int .u32)], [.any, .any, .mk false [.ref 0 0], .any, .mk false [.ref 1 0], .mk false [.osl 2], .any, .any, .mk false [.v (.int .u32)], .mk false [.v (.int .u32)], .mk false [.v (.int .u32)], .mk false [.v (.int .u32)], .mk false [.v (.int .u32)], kI] ++ Q6 139⟩
abbrev Al9 : PSh := ⟨[.var 36 [.v (.int .u32), .v (.int .u32), .v (.int .u32), .v (.int .u32), .v (.int .u32)], .var 36 [.v (.int .u32), .v (.int .u32), .v (.int .u32), .v (.int .u32), .v (.int .u32)], .row 35 (.int .u32)], [.any, .any, .mk false [.ref 0 0], .any, .mk false [.ref 1 0], .mk false [.osl 2], .any, .any, .mk false [.v (.int .u32)], .mk false [.v (.int .u32)], .mk false [.v (.int .u32)], .mk false [.v (.int .u32)], .mk false [.v (.int .u32)], kI, .mk false [.v (.int .u32)], .mk false [.v (.int .u32)]] ++ Q6 137⟩
def O1 (T : Kx) (d : Aeo) : Option (Hn) :=
 let x1 := (decide (d.2.2.2.2.2.1.1 < (16 : Int)))
 bif x1 then (
 let x2 := (Qq .i64 (4 : Int) d.2.2.2.2.2.1.1)
 let x3 := (Qq .i64 (4 : Int) d.2.2.2.2.2.1.1)
 let x4 := (Bm .i64 x3 4)
 bif decide ((0 : Int) <= x2) && decide (x2 <= x4) && decide (x4 <= (d.2.1.1.length : Int)) then (
 let x5 := (List.drop (Int.toNat x2) (List.take (Int.toNat x4) d.2.1.1))
 (R4 ((), ((x5, ()), ()))).bind fun x6 =>
 let x7 := (Ef .u32 x6.2.1.1)
 let x8 := ([x7] : List Int)
 bif decide (((d.1.2.2.1.length + x8.length) * 4 : Nat) <= 140737488355328) && decide (d.1.2.2.1.length + x8.length <= 9223372036854775807) then (
 let x9 := (d.1.2.2.1 ++ x8)
 let x10 := (Bm .i64 d.2.2.2.2.2.1.1 1)
 (T.1 ((d.1.1, (d.1.2.1, (x9, ()))), (d.2.1, ((), ((), ((), ((x10, ()), ()))))))))
 else none)
 else none)
 else (
 (T.2.1 (d.1, ((), ((), ((), ((16, ()), ())))))))
def Mb (T : Kx) (d : Ab3) : Option (Hn) :=
 let x11 := (decide (d.2.2.2.2.1.1 < (80 : Int)))
 bif x11 then (
 let x12 := (H3 .i64 d.2.2.2.2.1.1 3)
 bif decide ((0 : Int) <= x12) && decide (x12 < (d.1.2.2.1.length : Int)) then (
 let x13 := (H3 .i64 d.2.2.2.2.1.1 8)
 bif decide ((0 : Int) <= x13) && decide (x13 < (d.1.2.2.1.length : Int)) then (
 let x14 := (Adt .u32 (gd (.int .u32) d.1.2.2.1 x12) (gd (.int .u32) d.1.2.2.1 x13))
 let x15 := (H3 .i64 d.2.2.2.2.1.1 14)
 bif decide ((0 : Int) <= x15) && decide (x15 < (d.1.2.2.1.length : Int)) then (
 let x16 := (Adt .u32 x14 (gd (.int .u32) d.1.2.2.1 x15))
 let x17 := (H3 .i64 d.2.2.2.2.1.1 16)
 bif decide ((0 : Int) <= x17) && decide (x17 < (d.1.2.2.1.length : Int)) then (
 let x18 := (Adt .u32 x16 (gd (.int .u32) d.1.2.2.1 x17))
 (J9 ((), ((x18, ()), ((1, ()), ())))).bind fun x19 =>
 let x20 := ([x19.2.1.1] : List Int)
 bif decide (((d.1.2.2.1.length + x20.length) * 4 : Nat) <= 140737488355328) && decide (d.1.2.2.1.length + x20.length <= 9223372036854775807) then (
 let x21 := (d.1.2.2.1 ++ x20)
 let x22 := (Bm .i64 d.2.2.2.2.1.1 1)
 (T.2.1 ((d.1.1, (d.1.2.1, (x21, ()))), ((), ((), ((), ((x22, ()), ())))))))
 else none)
 else none)
 else none)
 else none)
 else none)
 else (
 (T.2.2.1 (d.1, ((), ((), ((), ((d.1.1.1, ()), ((d.1.1.2.1, ()), ((d.1.1.2.2.1, ()), ((d.1.1.2.2.2.1, ()), (d.1.1.2.2.2.2, ((0, ()), ()))))))))))))
def L6 (T : Kx) (d : Ac5) : Option (Hn) :=
 let x23 := (decide (d.2.2.2.2.2.2.2.2.2.1.1 < (80 : Int)))
 bif x23 then (
 let x24 := (decide (d.2.2.2.2.2.2.2.2.2.1.1 <= (19 : Int)))
 bif x24 then (
 let x25 := (Ak7 .u32 d.2.2.2.2.2.1.1 d.2.2.2.2.2.2.1.1)
 let x26 := (Be3 .u32 d.2.2.2.2.2.1.1)
 let x27 := (Ak7 .u32 x26 d.2.2.2.2.2.2.2.1.1)
 let x28 := (ior .u32 x25 x27)
 (T.2.2.2.1 (d.1, ((), ((), ((), (d.2.2.2.2.1, (d.2.2.2.2.2.1, (d.2.2.2.2.2.2.1, (d.2.2.2.2.2.2.2.1, (d.2.2.2.2.2.2.2.2.1, (d.2.2.2.2.2.2.2.2.2.1, ((x28, ()), ((1518500249, ()), ()))))))))))))))
 else (
 let x29 := (decide (d.2.2.2.2.2.2.2.2.2.1.1 <= (39 : Int)))
 bif x29 then (
 let x30 := (Adt .u32 d.2.2.2.2.2.1.1 d.2.2.2.2.2.2.1.1)
 let x31 := (Adt .u32 x30 d.2.2.2.2.2.2.2.1.1)
 (T.2.2.2.1 (d.1, ((), ((), ((), (d.2.2.2.2.1, (d.2.2.2.2.2.1, (d.2.2.2.2.2.2.1, (d.2.2.2.2.2.2.2.1, (d.2.2.2.2.2.2.2.2.1, (d.2.2.2.2.2.2.2.2.2.1, ((x31, ()), ((1859775393, ()), ()))))))))))))))
 else (
 let x32 := (decide (d.2.2.2.2.2.2.2.2.2.1.1 <= (59 : Int)))
 bif x32 then (
 let x33 := (Ak7 .u32 d.2.2.2.2.2.1.1 d.2.2.2.2.2.2.1.1)
 let x34 := (Ak7 .u32 d.2.2.2.2.2.1.1 d.2.2.2.2.2.2.2.1.1)
 let x35 := (ior .u32 x33 x34)
 let x36 := (Ak7 .u32 d.2.2.2.2.2.2.1.1 d.2.2.2.2.2.2.2.1.1)
 let x37 := (ior .u32 x35 x36)
 (T.2.2.2.1 (d.1, ((), ((), ((), (d.2.2.2.2.1, (d.2.2.2.2.2.1, (d.2.2.2.2.2.2.1, (d.2.2.2.2.2.2.2.1, (d.2.2.2.2.2.2.2.2.1, (d.2.2.2.2.2.2.2.2.2.1, ((x37, ()), ((2400959708, ()), ()))))))))))))))
 else (
 let x38 := (Adt .u32 d.2.2.2.2.2.1.1 d.2.2.2.2.2.2.1.1)
 let x39 := (Adt .u32 x38 d.2.2.2.2.2.2.2.1.1)
 (T.2.2.2.1 (d.1, ((), ((), ((), (d.2.2.2.2.1, (d.2.2.2.2.2.1, (d.2.2.2.2.2.2.1, (d.2.2.2.2.2.2.2.1, (d.2.2.2.2.2.2.2.2.1, (d.2.2.2.2.2.2.2.2.2.1, ((x39, ()), ((3395469782, ()), ())))))))))))))))))
 else (
 let x40 := (Bm .u32 d.1.1.1 d.2.2.2.2.1.1)
 let x41 := (Bm .u32 d.1.1.2.1 d.2.2.2.2.2.1.1)
 let x42 := (Bm .u32 d.1.1.2.2.1 d.2.2.2.2.2.2.1.1)
 let x43 := (Bm .u32 d.1.1.2.2.2.1 d.2.2.2.2.2.2.2.1.1)
 let x44 := (Bm .u32 d.1.1.2.2.2.2.1 d.2.2.2.2.2.2.2.2.1.1)
 some ((), ((x40, (x41, (x42, (x43, (x44, ()))))), ())))
def Q9 (T : Kx) (d : Ab0) : Option (Hn) :=
 (J9 ((), (d.2.2.2.2.1, ((5, ()), ())))).bind fun x45 =>
 let x46 := (Bm .u32 x45.2.1.1 d.2.2.2.2.2.2.2.2.2.2.1.1)
 let x47 := (Bm .u32 x46 d.2.2.2.2.2.2.2.2.1.1)
 let x48 := (Bm .u32 x47 d.2.2.2.2.2.2.2.2.2.2.2.1.1)
 bif decide ((0 : Int) <= d.2.2.2.2.2.2.2.2.2.1.1) && decide (d.2.2.2.2.2.2.2.2.2.1.1 < (d.1.2.2.1.length : Int)) then (
 let x49 := (Bm .u32 x48 (gd (.int .u32) d.1.2.2.1 d.2.2.2.2.2.2.2.2.2.1.1))
 (J9 ((), (d.2.2.2.2.2.1, ((30, ()), ())))).bind fun x50 =>
 let x51 := (Bm .i64 d.2.2.2.2.2.2.2.2.2.1.1 1)
 (T.2.2.1 (d.1, ((), ((), ((), ((x49, ()), (d.2.2.2.2.1, (x50.2.1, (d.2.2.2.2.2.2.1, (d.2.2.2.2.2.2.2.1, ((x51, ()), ()))))))))))))
 else none
def A8 : Nat -> Kx
 | 0 => (fun _ => none, (fun _ => none, (fun _ => none, (fun _ => none, ()))))
 | k + 1 => (O1 (A8 k), (Mb (A8 k), (L6 (A8 k), (Q9 (A8 k), ()))))
theorem Kn (k : Nat) : A8 (k + 1) = (O1 (A8 k), (Mb (A8 k), (L6 (A8 k), (Q9 (A8 k), ())))) := rfl
def V1 (T : Kx) (d : Unit × ((Int × (Int × (Int × (Int × (Int × Unit))))) × (((List Int) × Unit) × Unit))) : Option (Hn) :=
 (T.1 ((d.2.1, (((0 : Int), ((0 : Int), ((0 : Int), ((0 : Int), (0, ()))))), (([] : List Int), ()))), (d.2.2.1, ((), ((), ((), ((0, ()), ())))))))
def Vc (d) := lim fun k => V1 (A8 k) d
theorem Atb : Em Tryz.prog ET0 80 Yy X3 Vc :=
 fnL (E := ((E0.add 103 Auf).add 104 Axs)) (pi := Yy) (po := X3) (Aa (Aa Bc (Af Ap7)) (Af Aur)) (fn := Tryz.f80) Tryz.func80 (by kernel_rfl) (by kernel_rfl) [.cell 4 36] (by kernel_rfl) rfl rfl rfl [22] (fun k => [(4, ⟨Aoz, (A8 k).1⟩), (10, ⟨Aly, (A8 k).2.1⟩), (17, ⟨Alo, (A8 k).2.2.1⟩), (22, ⟨Al9, (A8 k).2.2.2.1⟩)]) (fun _ => [])
 (.intro (fun _ => rfl) (.intro (fun _ => rfl) (.intro (fun _ => rfl) (.intro (fun _ => rfl) trivial)))) (fun k => (.intro (fun d => by kernel_rfl) (.intro (fun d => by kernel_rfl) (.intro (fun d => by kernel_rfl) (.intro (fun d => by kernel_rfl) trivial))))) trivial (fun k => trivial) (fun k d => V1 (A8 k) d) (fun k d => by kernel_rfl)
def Avl := Ah Yy X3 Vc
abbrev Wc : PSh := Bu
abbrev Wl : PSh := Hm
abbrev Ze : Type := Y9
abbrev Abw : Type := ((Int × (Int × (Int × (Int × (Int × Unit))))) × ((Int × (Int × (Int × (Int × (Int × Unit))))) × Unit)) × (Unit × (((List Int) × Unit) × (Unit × ((Int × Unit) × Unit))))
abbrev Vk : Type := (((Abw) -> Option (Ze)) × Unit)
abbrev Al3 : PSh := ⟨[.var 36 [.v (.int .u32), .v (.int .u32), .v (.int .u32), .v (.int .u32), .v (.int .u32)], .var 36 [.v (.int .u32), .v (.int .u32), .v (.int .u32), .v (.int .u32), .v (.int .u32)]], [.any, .any, .mk false [.ref 0 0], .mk false [.v (.sl (.int .u8))], .mk false [.ref 1 0], kI] ++ Q6 17⟩
def Mh (T : Vk) (d : Abw) : Option (Ze) :=
 let x2 := (d.2.2.1.1.length : Int)
 let x3 := (decide (d.2.2.2.2.1.1 < x2))
 bif x3 then (
 let x4 := (Bm .i64 d.2.2.2.2.1.1 64)
 bif decide ((0 : Int) <= d.2.2.2.2.1.1) && decide (d.2.2.2.2.1.1 <= x4) && decide (x4 <= (d.2.2.1.1.length : Int)) then (
 let x5 := (List.drop (Int.toNat d.2.2.2.2.1.1) (List.take (Int.toNat x4) d.2.2.1.1))
 (Vc ((), (d.1.2.1, ((x5, ()), ())))).bind fun x6 =>
 let x7 := (Bm .i64 d.2.2.2.2.1.1 64)
 (T.1 ((d.1.1, x6.2), ((), (d.2.2.1, ((), ((x7, ()), ())))))))
 else none)
 else (
 some ((), d.1.2))
def Gf : Nat -> Vk
 | 0 => (fun _ => none, ())
 | k + 1 => (Mh (Gf k), ())
theorem Aig (k : Nat) : Gf (k + 1) = (Mh (Gf k), ()) := rfl
def Ts (T : Vk) (d : Y7) : Option (Ze) :=
 (Za ((), d.2)).bind fun x1 =>
 (T.1 ((((0 : Int), ((0 : Int), ((0 : Int), ((0 : Int), (0, ()))))), (((1732584193 : Int), ((4023233417 : Int), ((2562383102 : Int), ((271733878 : Int), (3285377520, ()))))), ())), ((), (x1.1, ((), ((0, ()), ()))))))
def R6 (d) := lim fun k => Ts (Gf k) d
theorem Apz : Em Tryz.prog ET0 49 Wc Wl R6 :=
 fnL (E := (((E0.add 79 Ax2).add 80 Avl).fr [(1000006, [1000003, 1000010])])) (pi := Wc) (po := Wl) (Aht (Aa (Aa Bc (Af Avh)) (Af Atb))) (fn := Tryz.f49) Tryz.func49 (by kernel_rfl) (by kernel_rfl) [.cell 2 36] (by kernel_rfl) rfl rfl rfl [] (fun k => [(5, ⟨Al3, (Gf k).1⟩)]) (fun _ => [])
 (.intro (fun _ => rfl) trivial) (fun k => (.intro (fun d => by kernel_rfl) trivial)) trivial (fun k => trivial) (fun k d => Ts (Gf k) d) (fun k d => by kernel_rfl)
def Auj := Ah Wc Wl R6
abbrev Tp : PSh := F0
abbrev Tk : PSh := Hm
abbrev Wp : Type := Y9
abbrev Z6 : Type := (((List (Int × Int)) × (Int × (Int × Unit))) × ((Int × (Int × (Int × (Int × (Int × Unit))))) × Unit)) × (Unit × (Unit × ((ByteArray × Unit) × ((Int × Unit) × Unit))))
abbrev Sq : Type := (((Z6) -> Option (Wp)) × Unit)
abbrev Ajs : PSh := ⟨[.var 30 [.v (.sl (.pair (.int .i64) (.int .i64))), vI, vI], .var 36 [.v (.int .u32), .v (.int .u32), .v (.int .u32), .v (.int .u32), .v (.int .u32)]], [.any, .mk false [.ref 0 0], .mk false [.ref 1 0], kS, kI] ++ Q6 37⟩
def Lc (T : Sq) (d : Z6) : Option (Wp) :=
 let x4 := (d.1.1.1.length : Int)
 let x5 := (decide (d.2.2.2.2.1.1 < x4))
 bif x5 then (
 bif decide ((0 : Int) <= d.2.2.2.2.1.1) && decide (d.2.2.2.2.1.1 < (d.1.1.1.length : Int)) then (
 (Si ((), ((1900, ()), ((1, ()), ((1, ()), ()))))).bind fun x6 =>
 let x7 := (H3 .i64 (Ac d.1.1.1 d.2.2.2.2.1.1).1 x6.2.1.1)
 let x8 := (Qq .i64 x7 86400)
 (Fh ((), ((x8, ()), ((0, ()), ())))).bind fun x9 =>
 bif decide ((0 : Int) <= d.2.2.2.2.1.1) && decide (d.2.2.2.2.1.1 < (d.1.1.1.length : Int)) then (
 (Fh ((), (((Ac d.1.1.1 d.2.2.2.2.1.1).2, ()), ((0, ()), ())))).bind fun x10 =>
 bif Hb x9.2.1.1 x10.2.1.1 then (
 let x11 := (x9.2.1.1 ++ x10.2.1.1)
 bif Hb d.2.2.2.1.1 x11 then (
 let x12 := (d.2.2.2.1.1 ++ x11)
 let x13 := (Bm .i64 d.2.2.2.2.1.1 1)
 (T.1 (d.1, ((), ((), ((x12, ()), ((x13, ()), ())))))))
 else none)
 else none)
 else none)
 else none)
 else (
 bif decide ((d.2.2.2.1.1.size : Int) <= 9223372036854775807) then (
 let x14 := (bytesOf d.2.2.2.1.1)
 (R6 ((), ((x14, ()), ()))).bind fun x15 =>
 some ((), x15.2))
 else none)
def Fp : Nat -> Sq
 | 0 => (fun _ => none, ())
 | k + 1 => (Lc (Fp k), ())
theorem Aeh (k : Nat) : Fp (k + 1) = (Lc (Fp k), ()) := rfl
def Rp (T : Sq) (d : Y27) : Option (Wp) :=
 (Fh ((), ((d.2.1.2.1, ()), ((0, ()), ())))).bind fun x1 =>
 (Fh ((), (d.2.1.2.2, ((0, ()), ())))).bind fun x2 =>
 bif Hb x1.2.1.1 x2.2.1.1 then (
 let x3 := (x1.2.1.1 ++ x2.2.1.1)
 (T.1 ((d.2.1, (((0 : Int), ((0 : Int), ((0 : Int), ((0 : Int), (0, ()))))), ())), ((), ((), ((x3, ()), ((0, ()), ())))))))
 else none
def Js (d) := lim fun k => Rp (Fp k) d
theorem Acc : Em Tryz.prog ET0 25 Tp Tk Js :=
 fnL (E := (((E0.add 45 Ane).add 46 Asl).add 49 Auj)) (pi := Tp) (po := Tk) (Aa (Aa (Aa Bc (Af Ak5)) (Af Anw)) (Af Apz)) (fn := Tryz.f25) Tryz.func25 (by kernel_rfl) (by kernel_rfl) [.cell 2 36] (by kernel_rfl) rfl rfl rfl [] (fun k => [(4, ⟨Ajs, (Fp k).1⟩)]) (fun _ => [])
 (.intro (fun _ => rfl) trivial) (fun k => (.intro (fun d => by kernel_rfl) trivial)) trivial (fun k => trivial) (fun k d => Rp (Fp k) d) (fun k d => by kernel_rfl)
def Ad8 := Ah Tp Tk Js
abbrev Abd : PSh := Bu
abbrev Acb : PSh := ⟨[], [kS]⟩
abbrev Agg : Type := Y16
abbrev Aih : Type := Unit × (((List Int) × Unit) × ((ByteArray × Unit) × ((ByteArray × Unit) × ((Int × Unit) × Unit))))
abbrev Aas : Type := (((Aih) -> Option (Agg)) × Unit)
abbrev Aqa : PSh := ⟨[], [.mk false [.v (.sl (.int .u8))], .any, .any, kS, kS, kI] ++ Q6 36⟩
def Qd (T : Aas) (d : Aih) : Option (Agg) :=
 let x1 := (d.2.1.1.length : Int)
 let x2 := (decide (d.2.2.2.2.1.1 < x1))
 bif x2 then (
 bif decide ((0 : Int) <= d.2.2.2.2.1.1) && decide (d.2.2.2.2.1.1 < (d.2.1.1.length : Int)) then (
 let x3 := (Nm .u8 (gd (.int .u8) d.2.1.1 d.2.2.2.2.1.1) (16 : Int))
 bif decide ((0 : Int) <= d.2.2.2.2.1.1) && decide (d.2.2.2.2.1.1 < (d.2.1.1.length : Int)) then (
 let x4 := (Nm .u8 (gd (.int .u8) d.2.1.1 d.2.2.2.2.1.1) (16 : Int))
 let x5 := (Bm .u8 x4 1)
 bif decide ((0 : Int) <= x3) && decide (x3 <= x5) && decide (x5 <= (d.2.2.1.1.size : Int)) then (
 let x6 := (d.2.2.1.1.extract (Int.toNat x3) (Int.toNat x5))
 bif decide ((0 : Int) <= d.2.2.2.2.1.1) && decide (d.2.2.2.2.1.1 < (d.2.1.1.length : Int)) then (
 let x7 := (Int.tmod (gd (.int .u8) d.2.1.1 d.2.2.2.2.1.1) (16 : Int))
 bif decide ((0 : Int) <= d.2.2.2.2.1.1) && decide (d.2.2.2.2.1.1 < (d.2.1.1.length : Int)) then (
 let x8 := (Int.tmod (gd (.int .u8) d.2.1.1 d.2.2.2.2.1.1) (16 : Int))
 let x9 := (Bm .u8 x8 1)
 bif decide ((0 : Int) <= x7) && decide (x7 <= x9) && decide (x9 <= (d.2.2.1.1.size : Int)) then (
 let x10 := (d.2.2.1.1.extract (Int.toNat x7) (Int.toNat x9))
 bif Hb x6 x10 then (
 let x11 := (x6 ++ x10)
 bif Hb d.2.2.2.1.1 x11 then (
 let x12 := (d.2.2.2.1.1 ++ x11)
 let x13 := (Bm .i64 d.2.2.2.2.1.1 1)
 (T.1 ((), (d.2.1, (d.2.2.1, ((x12, ()), ((x13, ()), ())))))))
 else none)
 else none)
 else none)
 else none)
 else none)
 else none)
 else none)
 else none)
 else (
 some ((), (d.2.2.2.1, ())))
def Je : Nat -> Aas
 | 0 => (fun _ => none, ())
 | k + 1 => (Qd (Je k), ())
theorem Apj (k : Nat) : Je (k + 1) = (Qd (Je k), ()) := rfl
def Yt (T : Aas) (d : Y7) : Option (Agg) :=
 (T.1 ((), (d.2.1, (((⟨#[48, 49, 50, 51, 52, 53, 54, 55, 56, 57, 97, 98, 99, 100, 101, 102]⟩ : ByteArray), ()), (((⟨#[]⟩ : ByteArray), ()), ((0, ()), ()))))))
def Xx (d) := lim fun k => Yt (Je k) d
theorem Avs : Em Tryz.prog ET0 47 Abd Acb Xx :=
 fnL (E := E0) (pi := Abd) (po := Acb) Bc (fn := Tryz.f47) Tryz.func47 (by kernel_rfl) (by kernel_rfl) [.tmp 2] (by kernel_rfl) rfl rfl rfl [] (fun k => [(5, ⟨Aqa, (Je k).1⟩)]) (fun _ => [])
 (.intro (fun _ => rfl) trivial) (fun k => (.intro (fun d => by kernel_rfl) trivial)) trivial (fun k => trivial) (fun k d => Yt (Je k) d) (fun k d => by kernel_rfl)
def Ay2 := Ah Abd Acb Xx
abbrev Acv : PSh := F0
abbrev Aco : PSh := ⟨[], [kS]⟩
abbrev T1 : Type := Y16
abbrev Ail : Type := (((List (Int × Int)) × (Int × (Int × Unit))) × Unit) × (Unit × ((ByteArray × Unit) × ((Int × Unit) × Unit)))
abbrev Aef : Type := ((Int × (Int × (Int × (Int × (Int × Unit))))) × Unit) × ((ByteArray × Unit) × (Unit × ((Int × Unit) × Unit)))
abbrev Ut : Type := (((Ail) -> Option (T1)) × (((Aef) -> Option (T1)) × Unit))
abbrev Aqi : PSh := ⟨[.var 30 [.v (.sl (.pair (.int .i64) (.int .i64))), vI, vI]], [.any, .mk false [.ref 0 0], .any, kS, kI] ++ Q6 63⟩
abbrev Aow : PSh := ⟨[.var 36 [.v (.int .u32), .v (.int .u32), .v (.int .u32), .v (.int .u32), .v (.int .u32)]], [.any, .any, .any, kS, .any, .mk false [.ref 0 0], kI] ++ Q6 61⟩
def Qj (T : Ut) (d : Ail) : Option (T1) :=
 let x7 := (d.1.1.1.length : Int)
 let x8 := (decide (d.2.2.2.1.1 < x7))
 bif x8 then (
 bif decide ((0 : Int) <= d.2.2.2.1.1) && decide (d.2.2.2.1.1 < (d.1.1.1.length : Int)) then (
 (Si ((), ((1900, ()), ((1, ()), ((1, ()), ()))))).bind fun x9 =>
 let x10 := (H3 .i64 (Ac d.1.1.1 d.2.2.2.1.1).1 x9.2.1.1)
 let x11 := (Qq .i64 x10 86400)
 (Fh ((), ((x11, ()), ((0, ()), ())))).bind fun x12 =>
 bif Hb x12.2.1.1 (⟨#[9]⟩ : ByteArray) then (
 let x13 := (x12.2.1.1 ++ (⟨#[9]⟩ : ByteArray))
 bif decide ((0 : Int) <= d.2.2.2.1.1) && decide (d.2.2.2.1.1 < (d.1.1.1.length : Int)) then (
 (Fh ((), (((Ac d.1.1.1 d.2.2.2.1.1).2, ()), ((0, ()), ())))).bind fun x14 =>
 bif Hb x13 x14.2.1.1 then (
 let x15 := (x13 ++ x14.2.1.1)
 bif Hb x15 (⟨#[10]⟩ : ByteArray) then (
 let x16 := (x15 ++ (⟨#[10]⟩ : ByteArray))
 bif Hb d.2.2.1.1 x16 then (
 let x17 := (d.2.2.1.1 ++ x16)
 let x18 := (Bm .i64 d.2.2.2.1.1 1)
 (T.1 (d.1, ((), ((x17, ()), ((x18, ()), ()))))))
 else none)
 else none)
 else none)
 else none)
 else none)
 else none)
 else (
 bif Hb d.2.2.1.1 (⟨#[35, 104]⟩ : ByteArray) then (
 let x19 := (d.2.2.1.1 ++ (⟨#[35, 104]⟩ : ByteArray))
 (Js ((), d.1)).bind fun x20 =>
 (T.2.1 (x20.2, ((x19, ()), ((), ((0, ()), ()))))))
 else none)
def No (T : Ut) (d : Aef) : Option (T1) :=
 let x21 := (decide (d.2.2.2.1.1 < (5 : Int)))
 bif x21 then (
 (Ku ((), d.1)).bind fun x22 =>
 (Xx ((), (x22.1, ()))).bind fun x23 =>
 let x24 := (Qq .i64 (8 : Int) d.2.2.2.1.1)
 let x25 := (Qq .i64 (8 : Int) d.2.2.2.1.1)
 let x26 := (Bm .i64 x25 8)
 bif decide ((0 : Int) <= x24) && decide (x24 <= x26) && decide (x26 <= (x23.2.1.1.size : Int)) then (
 let x27 := (x23.2.1.1.extract (Int.toNat x24) (Int.toNat x26))
 bif Hb (⟨#[32]⟩ : ByteArray) x27 then (
 let x28 := ((⟨#[32]⟩ : ByteArray) ++ x27)
 bif Hb d.2.1.1 x28 then (
 let x29 := (d.2.1.1 ++ x28)
 let x30 := (Bm .i64 d.2.2.2.1.1 1)
 (T.2.1 (d.1, ((x29, ()), ((), ((x30, ()), ()))))))
 else none)
 else none)
 else none)
 else (
 bif Hb d.2.1.1 (⟨#[10]⟩ : ByteArray) then (
 let x31 := (d.2.1.1 ++ (⟨#[10]⟩ : ByteArray))
 some ((), ((x31, ()), ())))
 else none)
def Eg : Nat -> Ut
 | 0 => (fun _ => none, (fun _ => none, ()))
 | k + 1 => (Qj (Eg k), (No (Eg k), ()))
theorem Zp (k : Nat) : Eg (k + 1) = (Qj (Eg k), (No (Eg k), ())) := rfl
def X8 (T : Ut) (d : Y27) : Option (T1) :=
 (Fh ((), ((d.2.1.2.1, ()), ((0, ()), ())))).bind fun x1 =>
 bif Hb (⟨#[35, 36, 9]⟩ : ByteArray) x1.2.1.1 then (
 let x2 := ((⟨#[35, 36, 9]⟩ : ByteArray) ++ x1.2.1.1)
 bif Hb x2 (⟨#[10, 35, 64, 9]⟩ : ByteArray) then (
 let x3 := (x2 ++ (⟨#[10, 35, 64, 9]⟩ : ByteArray))
 (Fh ((), (d.2.1.2.2, ((0, ()), ())))).bind fun x4 =>
 bif Hb x3 x4.2.1.1 then (
 let x5 := (x3 ++ x4.2.1.1)
 bif Hb x5 (⟨#[10]⟩ : ByteArray) then (
 let x6 := (x5 ++ (⟨#[10]⟩ : ByteArray))
 (T.1 (d.2, ((), ((x6, ()), ((0, ()), ()))))))
 else none)
 else none)
 else none)
 else none
def So (d) := lim fun k => X8 (Eg k) d
theorem Au6 : Em Tryz.prog ET0 22 Acv Aco So :=
 fnL (E := (((((E0.add 24 Ag7).add 25 Ad8).add 45 Ane).add 46 Asl).add 47 Ay2)) (pi := Acv) (po := Aco) (Aa (Aa (Aa (Aa (Aa Bc (Af Aeu)) (Af Acc)) (Af Ak5)) (Af Anw)) (Af Avs)) (fn := Tryz.f22) Tryz.func22 (by kernel_rfl) (by kernel_rfl) [.tmp 2] (by kernel_rfl) rfl rfl rfl [] (fun k => [(4, ⟨Aqi, (Eg k).1⟩), (12, ⟨Aow, (Eg k).2.1⟩)]) (fun _ => [])
 (.intro (fun _ => rfl) (.intro (fun _ => rfl) trivial)) (fun k => (.intro (fun d => by kernel_rfl) (.intro (fun d => by kernel_rfl) trivial))) trivial (fun k => trivial) (fun k d => X8 (Eg k) d) (fun k d => by kernel_rfl)
def Ay8 := Ah Acv Aco So
abbrev Yi : PSh := ⟨[], [.mk false [.v (.sl (.int .u8))], .mk false [.v (.sl (.int .u8))]]⟩
abbrev X9 : PSh := ⟨[], [kB]⟩
def Aeb (T : Unit) (d : Y8) : Option (Unit × ((Bool × Unit) × Unit)) :=
 let x1 := (Ao d.2.1.1)
 let x2 := (Ao d.2.2.1.1)
 let x3 := (x1.toList == x2.toList)
 some ((), ((x3, ()), ()))
def Ng := Aeb ()
theorem Aty : Em Tryz.prog ET0 23 Yi X9 Ng :=
 fn0 (E := E0) (pi := Yi) (po := X9) Bc (fn := Tryz.f23) Tryz.func23 (by kernel_rfl) (by kernel_rfl) [.tmp 4] (by kernel_rfl) rfl rfl rfl [] fun d => by kernel_rfl
def Avo := Ah Yi X9 Ng
abbrev Xo : PSh := F0
abbrev Xs : PSh := ⟨[], [kB]⟩
def Aie (T : Unit) (d : Y27) : Option (Unit × ((Bool × Unit) × Unit)) :=
 (K6 ((), ())).bind fun x1 =>
 let x2 := (!x1.2.1.1)
 bif x2 then (
 some ((), ((false, ()), ())))
 else (
 (M9 ((), d.2)).bind fun x3 =>
 bif x3.2.1.1 then (
 some ((), ((true, ()), ())))
 else (
 (F4 ((), (((none : Option ((List (Int × Int)) × (Int × Int))), ()), ()))).bind fun x4 =>
 (B8 ((), (((none : Option ((List (Int × Int)) × (Int × Int))), ()), ()))).bind fun x5 =>
 let x6 := (!(x4.2.1.1.toList == (⟨#[]⟩ : ByteArray).toList))
 bif x6 then (
 some ((), ((false, ()), ())))
 else (
 let x7 := (!((x5.2.1.1 == (0 : Int)) && ((x5.2.1.2.1 == (0 : Int)) && ((x5.2.1.2.2.1 == (0 : Int)) && ((x5.2.1.2.2.2.1 == (0 : Int)) && ((x5.2.1.2.2.2.2.1 == (0 : Int)) && ((x5.2.1.2.2.2.2.2.1 == (0 : Int)) && ((x5.2.1.2.2.2.2.2.2.1 == (0 : Int)) && ((x5.2.1.2.2.2.2.2.2.2.1 == (0 : Int)) && ((x5.2.1.2.2.2.2.2.2.2.2.1 == (0 : Int)) && ((x5.2.1.2.2.2.2.2.2.2.2.2.1 == (0 : Int)) && ((x5.2.1.2.2.2.2.2.2.2.2.2.2.1 == (0 : Int)) && ((x5.2.1.2.2.2.2.2.2.2.2.2.2.2.1 == (0 : Int)) && ((x5.2.1.2.2.2.2.2.2.2.2.2.2.2.2.1 == (0 : Int)) && ((x5.2.1.2.2.2.2.2.2.2.2.2.2.2.2.2.1 == (0 : Int)) && ((x5.2.1.2.2.2.2.2.2.2.2.2.2.2.2.2.2.1 == (0 : Int)) && ((x5.2.1.2.2.2.2.2.2.2.2.2.2.2.2.2.2.2.1 == (0 : Int)) && ((x5.2.1.2.2.2.2.2.2.2.2.2.2.2.2.2.2.2.2.1 == (0 : Int)) && ((x5.2.1.2.2.2.2.2.2.2.2.2.2.2.2.2.2.2.2.2.1 == (0 : Int)) && ((x5.2.1.2.2.2.2.2.2.2.2.2.2.2.2.2.2.2.2.2.2.1 == (0 : Int)) && ((x5.2.1.2.2.2.2.2.2.2.2.2.2.2.2.2.2.2.2.2.2.2.1 == (0 : Int)) && true)))))))))))))))))))))
 bif x7 then (
 some ((), ((false, ()), ())))
 else (
 (Ql ((), (x4.2.2.1, ((8, ()), ())))).bind fun x8 =>
 let x9 := (!x8.2.1.1)
 bif x9 then (
 some ((), ((false, ()), ())))
 else (
 (Ql ((), (x5.2.2.1, ((8, ()), ())))).bind fun x10 =>
 let x11 := (!x10.2.1.1)
 bif x11 then (
 some ((), ((false, ()), ())))
 else (
 (M8 ((), d.2)).bind fun x12 =>
 let x13 := (!x12.2.2.2.1.1)
 bif x13 then (
 (K5 ((), ((x12.1.1, x12.2.2.1), ()))).bind fun x14 =>
 let x15 := (x14.2.1.1 != (0 : Int))
 some ((), ((x15, ()), ())))
 else (
 (F4 ((), (x12.2.1, ()))).bind fun x16 =>
 (B8 ((), (x12.2.1, ()))).bind fun x17 =>
 let x18 := (x17.2.1.1, (x17.2.1.2.1, (x17.2.1.2.2.1, (x17.2.1.2.2.2.1, (x17.2.1.2.2.2.2.1, (x17.2.1.2.2.2.2.2.1, (x17.2.1.2.2.2.2.2.2.1, (x17.2.1.2.2.2.2.2.2.2.1, (x17.2.1.2.2.2.2.2.2.2.2.1, (x17.2.1.2.2.2.2.2.2.2.2.2.1, (x17.2.1.2.2.2.2.2.2.2.2.2.2.1, (x17.2.1.2.2.2.2.2.2.2.2.2.2.2.1, (x17.2.1.2.2.2.2.2.2.2.2.2.2.2.2.1, (x17.2.1.2.2.2.2.2.2.2.2.2.2.2.2.2.1, (x17.2.1.2.2.2.2.2.2.2.2.2.2.2.2.2.2.1, (x17.2.1.2.2.2.2.2.2.2.2.2.2.2.2.2.2.2.1, (x17.2.1.2.2.2.2.2.2.2.2.2.2.2.2.2.2.2.2.1, (x17.2.1.2.2.2.2.2.2.2.2.2.2.2.2.2.2.2.2.2.1, (x17.2.1.2.2.2.2.2.2.2.2.2.2.2.2.2.2.2.2.2.2.1, x17.2.1.2.2.2.2.2.2.2.2.2.2.2.2.2.2.2.2.2.2.2.1)))))))))))))))))))
 bif x16.2.2.1.1.isNone then (
 bif x17.2.2.1.1.isNone then (
 (So ((), ((x12.1.1, x12.2.2.1), ()))).bind fun x19 =>
 let x20 := (x16.2.1.1.toList == x19.2.1.1.toList)
 bif x20 then (
 let x21 := ([x18.1, x18.2.1, x18.2.2.1, x18.2.2.2.1, x18.2.2.2.2.1, x18.2.2.2.2.2.1, x18.2.2.2.2.2.2.1, x18.2.2.2.2.2.2.2.1, x18.2.2.2.2.2.2.2.2.1, x18.2.2.2.2.2.2.2.2.2.1, x18.2.2.2.2.2.2.2.2.2.2.1, x18.2.2.2.2.2.2.2.2.2.2.2.1, x18.2.2.2.2.2.2.2.2.2.2.2.2.1, x18.2.2.2.2.2.2.2.2.2.2.2.2.2.1, x18.2.2.2.2.2.2.2.2.2.2.2.2.2.2.1, x18.2.2.2.2.2.2.2.2.2.2.2.2.2.2.2.1, x18.2.2.2.2.2.2.2.2.2.2.2.2.2.2.2.2.1, x18.2.2.2.2.2.2.2.2.2.2.2.2.2.2.2.2.2.1, x18.2.2.2.2.2.2.2.2.2.2.2.2.2.2.2.2.2.2.1, x18.2.2.2.2.2.2.2.2.2.2.2.2.2.2.2.2.2.2.2] : List Int)
 (Js ((), ((x12.1.1, x12.2.2.1), ()))).bind fun x22 =>
 (Ku ((), x22.2)).bind fun x23 =>
 (Ng ((), ((x21, ()), (x23.1, ())))).bind fun x24 =>
 some ((), x24.2))
 else (
 some ((), ((false, ()), ()))))
 else (
 some ((), ((false, ()), ()))))
 else (
 some ((), ((false, ()), ()))))))))))
def Rq := Aie ()
theorem ok_law11_ListPuts : Em Tryz.prog ET0 5 Xo Xs Rq :=
 fn0 (E := ((((((((((((E0.add 7 Ato).add 16 Awv).add 17 Aqr).add 18 P1).add 19 A6h).add 20 Axd).add 21 Aha).add 22 Ay8).add 23 Avo).add 24 Ag7).add 25 Ad8).fr [(1000014, [5])])) (pi := Xo) (po := Xs) (Aht (Aa (Aa (Aa (Aa (Aa (Aa (Aa (Aa (Aa (Aa (Aa Bc (Af Aqo)) (Af Auu)) (Af Aon)) (Af N6)) (Af A28)) (Af Auo)) (Af Aea)) (Af Au6)) (Af Aty)) (Af Aeu)) (Af Acc))) (fn := Tryz.f5) Tryz.func5 (by kernel_rfl) (by kernel_rfl) [.tmp 2] (by kernel_rfl) rfl rfl rfl [] fun d => by kernel_rfl
end
set_option linter.unusedVariables false
set_option linter.unusedSimpArgs false
def vl : List Int -> Int
 | [] => 0
 | x :: l => x + 65536 * vl l
def dg (n : Nat) : List Int := if h : n = 0 then [] else ((n % 65536 : Nat) : Int) :: dg (n / 65536)
termination_by n
decreasing_by omega
def isF (x : Int) : Prop := 48 <= x /\ x <= 57
instance (x : Int) : Decidable (isF x) := by unfold isF; infer_instance
def Sr : List Int -> Nat
 | [] => 0
 | x :: l => if isF x then Sr l + 1 else 0
theorem Ai7 : ∀ l : List Int, Sr l <= l.length
 | [] => Nat.le_refl _
 | x :: l => by
  unfold Sr
  have := Ai7 l
  split <;> simp only [List.length_cons] <;> omega
theorem Aux : ∀ {l : List Int} {i : Nat}, i < Sr l -> isF (l.getD i 0)
 | [], i, h => by simp [Sr] at h
 | x :: l, i, h => by
  unfold Sr at h
  split at h
  ·rename_i c
   cases i with
   | zero => exact c
   | succ i => exact Aux (l := l) (by omega)
  ·omega
theorem Axk : ∀ {l : List Int}, Sr l < l.length -> ¬ isF (l.getD (Sr l) 0)
 | [], h => by simp [Sr] at h
 | x :: l, h => by
  unfold Sr at h ⊢
  split
  ·rename_i c
   rw [if_pos c] at h
   exact Axk (l := l) (by simp only [List.length_cons] at h; omega)
  ·rename_i c; exact c
theorem Ba5 (x : Int) : Qs ((), ((x, ()), ())) = some ((), ((decide (isF x), ()), ())) := by
 simp only [Qs, Aei, Ae, Option.bind_some, Option.isNone_none, Option.isNone_some, Option.isSome_none, Option.isSome_some, Bool.not_true, Bool.not_false, cond_true, cond_false, Ab, Al, Ak, Ai, ge_iff_le]
 unfold isF
 by_cases h : 48 <= x <;> simp [h]
theorem Be0 (s : ByteArray) (hs : s.size <= 1000000) (most : Int) (hm : 0 <= most /\ most <= 1000000) : ∀ (k i : Nat), i + k = min s.size most.toNat -> (∀ j, j < i -> isF ((bytesOf s).getD j 0)) -> i <= Sr (bytesOf s) ->
  Evn (fun j => (F5 j).1 ((), ((s, ()), ((most, ()), (((i : Int), ()), ()))))) ((), ((((min (Sr (bytesOf s)) most.toNat : Nat) : Int), ()), ())) := by
 have hl := Ai7 (bytesOf s)
 rw [Va] at hl
 intro k; induction k with
 | zero =>
  intro i h hp hi
  rw [show ((min (Sr (bytesOf s)) most.toNat : Nat) : Int) = (i : Int) by omega]
  refine Evn.some 1 fun j => ?_
  simp only [Yq, Jj, Ae, Option.bind_some, Option.isNone_none, Option.isNone_some, Option.isSome_none, Option.isSome_some, Bool.not_true, Bool.not_false, cond_true, cond_false, Ab, Al, Ak, Ai]
  rw [if_neg (by split <;> omega)]
 | succ k ih =>
  intro i h hp hi
  have hb := Axy s (i := (i : Int)) (by omega) (by omega)
  rw [Int.toNat_natCast] at hb
  by_cases c : isF ((bytesOf s).getD i 0)
  ·have hi' : i + 1 <= Sr (bytesOf s) := by
    by_cases q : i = Sr (bytesOf s)
    ·subst q
     exact absurd c (Axk (by rw [Va]; omega))
    ·omega
   refine (ih (i + 1) (by omega) (fun j hj => ?_) hi').step fun j => ?_
   ·by_cases q : j = i
    ·subst q; exact c
    ·exact hp j (by omega)
   ·simp only [Yq, Jj, Ae, Option.bind_some, Option.isNone_none, Option.isNone_some, Option.isSome_none, Option.isSome_some, Bool.not_true, Bool.not_false, cond_true, cond_false, Ab, Al, Ak, Ai, A4, hb, Ba5]
    rw [if_pos (by split <;> omega), if_pos (by omega), if_pos c, Aq (by omega)]; rfl
  ·have : Sr (bytesOf s) = i := by
    by_cases q : i < Sr (bytesOf s)
    ·exact absurd (Aux q) c
    ·omega
   rw [show ((min (Sr (bytesOf s)) most.toNat : Nat) : Int) = (i : Int) by omega]
   refine Evn.some 1 fun j => ?_
   simp only [Yq, Jj, Ae, Option.bind_some, Option.isNone_none, Option.isNone_some, Option.isSome_none, Option.isSome_some, Bool.not_true, Bool.not_false, cond_true, cond_false, Ab, Al, Ak, Ai, A4, hb, Ba5]
   rw [if_pos (by split <;> omega), if_pos (by omega), if_neg c]
theorem Bbo (s : ByteArray) (hs : s.size <= 1000000) (most : Int) (hm : 0 <= most /\ most <= 1000000) : R3 ((), ((s, ()), ((most, ()), ()))) = some ((), ((((min (Sr (bytesOf s)) most.toNat : Nat) : Int), ()), ())) := by
 refine ((Be0 s hs most hm (min s.size most.toNat) 0 (by omega) (fun j hj => by omega) (Nat.zero_le _)).cast fun j => ?_).lim
 simp only [T3]; rfl
def Sv (l : List Int) : Int := l.foldl (fun n x => n * 10 + (x - 48)) 0
theorem Wv (l : List Int) (x : Int) : Sv (l ++ [x]) = Sv l * 10 + (x - 48) := by simp [Sv]
theorem Zo : ∀ (n : Nat) (l : List Int), l.length = n -> (∀ x ∈ l, isF x) -> 0 <= Sv l /\ Sv l < 10 ^ n
 | 0, [], _, _ => by simp [Sv]
 | n + 1, l, hl, h => by
  obtain ⟨m, x, rfl⟩ : ∃ m x, l = m ++ [x] := ⟨l.dropLast, l.getLast (by intro e; rw [e] at hl; cases hl), (List.dropLast_concat_getLast _).symm⟩
  have := Zo n m (by simpa using hl) (fun y hy => h y (by simp [hy]))
  have hx := h x (by simp)
  unfold isF at hx
  rw [Wv, Int.pow_succ]; omega
theorem A3d (l : List Int) (h : ∀ x ∈ l, isF x) : ∀ (k i : Nat), i + k = l.length -> Sv (l.take i) <= Sv l := by
 intro k; induction k with
 | zero => intro i hi; rw [List.take_of_length_le (by omega)]; exact Int.le_refl _
 | succ k ih =>
  intro i hi
  have h1 := ih (i + 1) (by omega)
  rw [List.take_succ_eq_append_getElem (by omega), Wv] at h1
  have hx := h (l[i]'(by omega)) (List.getElem_mem _)
  unfold isF at hx
  have := (Zo _ (l.take i) rfl (fun y hy => h y (List.mem_of_mem_take hy))).1
  omega
theorem A83 (s : ByteArray) (limit : Int) (hs : s.size <= 1000) (hf : ∀ x ∈ bytesOf s, isF x) (hlm : 9 <= limit /\ limit <= 10000000000000000000) : ∀ (k i : Nat), i + k = s.size -> Sv ((bytesOf s).take i) <= limit ->
  Evn (fun j => (Et j).1 ((), ((s, ()), ((limit, ()), ((Sv ((bytesOf s).take i), ()), (((s.size : Int), ()), (((i : Int), ()), ()))))))) ((), ((if Sv (bytesOf s) <= limit then Sv (bytesOf s) else 0, ()), ((if Sv (bytesOf s) <= limit then none else some 5, ()), ()))) := by
 have hlen := Va s
 intro k; induction k with
 | zero =>
  intro i h hv
  rw [List.take_of_length_le (by omega)] at hv ⊢
  rw [if_pos hv, if_pos hv]
  refine Evn.some 1 fun j => ?_
  simp only [S7, Hr, Ae, Option.bind_some, Option.isNone_none, Option.isNone_some, Option.isSome_none, Option.isSome_some, Bool.not_true, Bool.not_false, cond_true, cond_false, Ab, Al, Ak, Ai]
  rw [if_neg (by omega)]
 | succ k ih =>
  intro i h hv
  have hi : i < (bytesOf s).length := by omega
  have hb := Axy s (i := (i : Int)) (by omega) (by omega)
  rw [Int.toNat_natCast] at hb
  have hg : (bytesOf s).getD i 0 = (bytesOf s)[i] := by rw [List.getD_eq_getElem?_getD, List.getElem?_eq_getElem hi]; rfl
  have hx := hf _ (List.getElem_mem hi)
  unfold isF at hx
  have h0 := (Zo _ ((bytesOf s).take i) rfl (fun y hy => hf y (List.mem_of_mem_take hy))).1
  have hmono := A3d (bytesOf s) hf k (i + 1) (by omega)
  rw [List.take_succ_eq_append_getElem hi, Wv] at hmono
  generalize hv0 : Sv ((bytesOf s).take i) = v at *
  generalize hx0 : (bytesOf s)[i] = x at *
  have e1 : H3 .u8 x 48 = x - 48 := by unfold H3; rw [wrap_u8]; omega
  have e2 : Ef .u64 (x - 48) = x - 48 := by rw [L0]; omega
  have e3 : H3 .u64 limit (x - 48) = limit - (x - 48) := by rw [A8j]; omega
  have e4 : Nm .u64 (limit - (x - 48)) 10 = (limit - (x - 48)) / 10 := by
   unfold Nm
   rw [Int.tdiv_eq_ediv_of_nonneg (by omega), Yk]; omega
  by_cases c : (limit - (x - 48)) / 10 < v
  ·rw [if_neg (by omega), if_neg (by omega)]
   refine Evn.some 1 fun j => ?_
   simp only [S7, Hr, Ae, Option.bind_some, Option.isNone_none, Option.isNone_some, Option.isSome_none, Option.isSome_some, Bool.not_true, Bool.not_false, cond_true, cond_false, Ab, Al, Ak, Ai, A4, hb, hg, gt_iff_lt, e1, e2, e3, e4]
   rw [if_pos (by omega), if_pos (by omega), if_pos c]
  ·have := ih (i + 1) (by omega) (by rw [List.take_succ_eq_append_getElem hi, Wv, hx0, hv0]; omega)
   rw [List.take_succ_eq_append_getElem hi, Wv, hx0, hv0] at this
   refine this.step fun j => ?_
   simp only [S7, Hr, Ae, Option.bind_some, Option.isNone_none, Option.isNone_some, Option.isSome_none, Option.isSome_some, Bool.not_true, Bool.not_false, cond_true, cond_false, Ab, Al, Ak, Ai, A4, hb, hg, gt_iff_lt, e1, e2, e3, e4]
   rw [if_pos (by omega), if_pos (by omega), if_neg c, Aml, A0d, Aq (by omega), show (v * 10 % 18446744073709551616 + (x - 48)) % 18446744073709551616 = v * 10 + (x - 48) by omega]; rfl
theorem A5f (s : ByteArray) (limit : Int) (hs : s.size <= 1000) (hf : ∀ x ∈ bytesOf s, isF x) (hlm : 9 <= limit /\ limit <= 10000000000000000000) :
  Oj ((), ((s, ()), ((limit, ()), ()))) = some ((), ((if Sv (bytesOf s) <= limit then Sv (bytesOf s) else 0, ()), ((if Sv (bytesOf s) <= limit then none else some 5, ()), ()))) := by
 refine ((A83 s limit hs hf hlm s.size 0 (by omega) (by simp [Sv]; omega)).cast fun j => ?_).lim
 simp only [Pu]; rfl
def Bas (s : ByteArray) (k : Nat) : Int := Sv ((bytesOf s).take k)
theorem Bag {s : ByteArray} {k : Nat} (h : k <= Sr (bytesOf s)) : ∀ x ∈ (bytesOf s).take k, isF x := by
 intro x hx
 obtain ⟨i, hi, rfl⟩ := List.getElem_of_mem hx
 have hl := Ai7 (bytesOf s)
 rw [List.length_take] at hi
 have := Aux (l := bytesOf s) (i := i) (by omega)
 rw [List.getElem_take]
 rwa [List.getD_eq_getElem?_getD, List.getElem?_eq_getElem (by omega)] at this
def A5l (s : ByteArray) (least most limit : Int) : Int :=
 if least < 1 \/ most < least \/ 20 < most then 1 else if ((min (Sr (bytesOf s)) most.toNat : Nat) : Int) < least then 2 else if Bas s (min (Sr (bytesOf s)) most.toNat) <= limit then 0 else 5
def A3e (s : ByteArray) (most : Int) : Nat := min (Sr (bytesOf s)) most.toNat
theorem A8h (s : ByteArray) (hs : s.size <= 1000000) (least most limit : Int) (hlm : 9 <= limit /\ limit <= 10000000000000000000) : Lv ((), ((s, ()), ((least, ()), ((most, ()), ((limit, ()), ()))))) =
  some ((), ((if A5l s least most limit = 0 then Bas s (A3e s most) else 0, ()), ((if A5l s least most limit = 0 then (A3e s most : Int) else 0, ()), ((Ajg (A5l s least most limit), ()), ())))) := by
 simp only [Lv, Aaa, Ae, Option.bind_some, Option.isNone_none, Option.isNone_some, Option.isSome_none, Option.isSome_some, Bool.not_true, Bool.not_false, cond_true, cond_false, Ab, Al, Ak, Ai, gt_iff_lt]
 unfold A5l
 by_cases c : least < 1 \/ most < least \/ 20 < most
 ·rw [if_pos c]
  simp only [show ((1 : Int) = 0) = False by simp, if_false]
  by_cases c1 : least < 1
  ·rw [if_pos c1]; rfl
  ·rw [if_neg c1]
   by_cases c2 : most < least
   ·rw [if_pos c2]; rfl
   ·rw [if_neg c2, if_pos (by omega)]; rfl
 ·rw [if_neg c, if_neg (by omega), if_neg (by omega), if_neg (by omega), Bbo s hs most (by omega)]
  simp only [Option.bind_some]
  have hl := Ai7 (bytesOf s)
  rw [Va] at hl
  by_cases c1 : ((min (Sr (bytesOf s)) most.toNat : Nat) : Int) < least
  ·rw [if_pos c1, if_pos c1]
   simp only [show ((2 : Int) = 0) = False by simp, if_false]; rfl
  ·rw [if_neg c1, if_neg c1]
   have hcut : bytesOf (s.extract 0 (min (Sr (bytesOf s)) most.toNat)) = (bytesOf s).take (min (Sr (bytesOf s)) most.toNat) := by rw [Asd, List.drop_zero]
   have hv := A5f (s.extract 0 (min (Sr (bytesOf s)) most.toNat)) limit (by rw [<- Va, hcut, List.length_take]; omega) (by rw [hcut]; exact Bag (Nat.min_le_left _ _)) hlm
   rw [hcut] at hv
   simp only [A4, Ab, Int.toNat_natCast, show (0 : Int).toNat = 0 from rfl]
   rw [if_pos (by omega), hv]
   simp only [Ae, Option.bind_some, Option.isNone_none, Option.isNone_some, Option.isSome_none, Option.isSome_some, Bool.not_true, Bool.not_false, cond_true, cond_false, Ab, Al, Ak, Ai]
   show _ = some ((), ((if (if Bas s (min (Sr (bytesOf s)) most.toNat) <= limit then (0 : Int) else 5) = 0 then Bas s (A3e s most) else 0, ()), ((if (if Bas s (min (Sr (bytesOf s)) most.toNat) <= limit then (0 : Int) else 5) = 0 then (A3e s most : Int) else 0, ()), ((Ajg (if Bas s (min (Sr (bytesOf s)) most.toNat) <= limit then 0 else 5), ()), ()))))
   unfold Bas A3e
   by_cases c2 : Sv ((bytesOf s).take (min (Sr (bytesOf s)) most.toNat)) <= limit
   ·simp only [c2, if_true, Ae, Option.bind_some, Option.isNone_none, Option.isNone_some, Option.isSome_none, Option.isSome_some, Bool.not_true, Bool.not_false, cond_true, cond_false, Ab, Al, Ak, Ai]; rfl
   ·simp only [c2, if_false, Ae, Option.bind_some, Option.isNone_none, Option.isNone_some, Option.isSome_none, Option.isSome_some, Bool.not_true, Bool.not_false, cond_true, cond_false, Ab, Al, Ak, Ai]; rfl
inductive X
 | good (l : List Int)
 | bad (i : Nat) (c : Int)
def X.at (n : Nat) : X -> Int
 | .good l => ((n - l.length : Nat) : Int)
 | .bad i _ => (i : Int)
def X.er : X -> Option Int
 | .good _ => none
 | .bad _ c => some c
def X.rest : X -> List Int
 | .good l => l
 | .bad _ _ => []
def X.wf (s : ByteArray) : X -> Prop
 | .good l => ∃ p, bytesOf s = p ++ l
 | .bad i _ => i <= s.size
@[reducible] def X.t (s : ByteArray) (x : X) : (ByteArray × (Int × (Option Int × Unit))) × Unit := ((s, (x.at s.size, (x.er, ()))), ())
@[reducible] def X.p (s : ByteArray) (x : X) : Option (ByteArray × (Int × Option Int)) := some (s, (x.at s.size, x.er))
theorem X.wf_good {s : ByteArray} {l : List Int} (h : X.wf s (.good l)) : Iw l /\ l.length <= s.size /\ (bytesOf s).drop (s.size - l.length) = l := by
 obtain ⟨p, hp⟩ := h
 have hl := Va s
 rw [hp, List.length_append] at hl
 refine ⟨fun x hx => Beo s x (by rw [hp]; exact List.mem_append_right _ hx), by omega, ?_⟩
 rw [hp, show s.size - l.length = p.length by omega, List.drop_left]
theorem X.at_range {s : ByteArray} {x : X} (h : x.wf s) : 0 <= x.at s.size /\ x.at s.size <= s.size := by
 cases x with
 | good l => simp only [X.at]; omega
 | bad i c => simp only [X.at, X.wf] at *; omega
theorem X.ok_rest {s : ByteArray} {x : X} (h : x.wf s) : Iw x.rest /\ x.rest.length <= s.size := by
 cases x with
 | good l => exact ⟨(X.wf_good h).1, (X.wf_good h).2.1⟩
 | bad i c => exact ⟨(fun x hx => by cases hx), Nat.zero_le _⟩
theorem X.wf_cut {s : ByteArray} {l : List Int} (h : X.wf s (.good l)) (k : Nat) : X.wf s (.good (l.drop k)) := by
 obtain ⟨p, hp⟩ := h
 exact ⟨p ++ l.take k, by rw [hp, List.append_assoc, List.take_append_drop]⟩
theorem Aev : (⟨#[]⟩ : ByteArray) = Ao [] := by kernel_rfl
theorem Bao (s : ByteArray) : C9 ((), ((s, ()), ())) = some ((X.good (bytesOf s)).t s, ((), ())) := by
 simp only [C9, Ud, X.t, X.at, X.er, Va, Nat.sub_self]; rfl
theorem Ac3 (s : ByteArray) (x : X) (h : x.wf s) : A6 ((), ((x.p s, ()), ())) = some ((), ((Ao x.rest, ()), ())) := by
 cases x with
 | good l =>
  obtain ⟨h1, h2, h3⟩ := X.wf_good h
  simp only [A6, Fx, X.p, X.at, X.er, X.rest, Ae, Option.bind_some, Option.isNone_none, Option.isNone_some, Option.isSome_none, Option.isSome_some, Bool.not_true, Bool.not_false, cond_true, cond_false, Ab, Al, Ak, Ai, A4, Int.toNat_natCast]
  rw [if_pos (by omega)]
  congr 4
  apply Arp
  rw [Asd, I3 h1]
  rw [show s.size = (bytesOf s).length from (Va s).symm, List.take_length, Va s, h3]
 | bad i c =>
  simp only [A6, Fx, X.p, X.at, X.er, X.rest, Ae, Option.bind_some, Option.isNone_none, Option.isNone_some, Option.isSome_none, Option.isSome_some, Bool.not_true, Bool.not_false, cond_true, cond_false, Ab, Al, Ak, Ai, Aev]
theorem Ai0 (l : List Int) : ((Ao l).toList == (Ao []).toList) = decide (l = []) := by
 cases l with
 | nil => simp
 | cons x l =>
  rw [A5d]
  have : (bytesOf (Ao (x :: l))).length ≠ 0 := by rw [Va, Br]; simp
  rw [decide_eq_decide]
  constructor
  ·intro q; rw [q] at this; exact absurd rfl this
  ·intro q; cases q
theorem A6k (s : ByteArray) (x : X) (h : x.wf s) : Df ((), ((x.p s, ()), ())) = some ((), ((x.rest.headD 0, ()), ((decide (x.rest ≠ []), ()), ()))) := by
 simp only [Df, J5, Ac3 s x h, Ae, Option.bind_some, Option.isNone_none, Option.isNone_some, Option.isSome_none, Option.isSome_some, Bool.not_true, Bool.not_false, cond_true, cond_false, Ab, Al, Ak, Ai, Aev, Ai0]
 have ho := (X.ok_rest h).1
 cases hr : x.rest with
 | nil => simp
 | cons a l =>
  rw [hr] at ho
  have hb := Axy (Ao (a :: l)) (i := 0) (by omega) (by rw [Br]; simp)
  rw [I3 ho] at hb
  simp only [hb, Br, A4, Ae, Option.bind_some, Option.isNone_none, Option.isNone_some, Option.isSome_none, Option.isSome_some, Bool.not_true, Bool.not_false, cond_true, cond_false, Ab, Al, Ak, Ai, List.length_cons]
  rw [if_neg (by simp), if_pos (by omega)]
  simp
theorem Aju (s : ByteArray) (x : X) : B2 ((), ((x.p s, ()), ())) = some ((), ((x.er.isNone, ()), ())) := by
 simp only [B2, Jg, X.p, Ae, Option.bind_some, Option.isNone_none, Option.isNone_some, Option.isSome_none, Option.isSome_some, Bool.not_true, Bool.not_false, cond_true, cond_false, Ab, Al, Ak, Ai]
theorem A9c (s : ByteArray) (x : X) : Dq ((), ((x.p s, ()), ())) = some ((), ((x.er, ()), ())) := by
 simp only [Dq, Kl, X.p, Ae, Option.bind_some, Option.isNone_none, Option.isNone_some, Option.isSome_none, Option.isSome_some, Bool.not_true, Bool.not_false, cond_true, cond_false, Ab, Al, Ak, Ai]
theorem Am3 (s : ByteArray) (x : X) (h : x.wf s) : B4 ((), ((x.p s, ()), ())) = some ((), (((x.rest.length : Int), ()), ())) := by
 simp only [B4, J2, Ac3 s x h, Ae, Option.bind_some, Option.isNone_none, Option.isNone_some, Option.isSome_none, Option.isSome_some, Bool.not_true, Bool.not_false, cond_true, cond_false, Ab, Al, Ak, Ai, Br]
def X.end : X -> Option Int
 | .good l => if l = [] then none else some 2
 | .bad _ c => some c
theorem Ag1 (s : ByteArray) (x : X) (h : x.wf s) : Bl ((), ((x.p s, ()), ())) = some ((), ((x.end, ()), ())) := by
 simp only [Bl, J7, A9c, Am3 s x h, Ae, Option.bind_some, Option.isNone_none, Option.isNone_some, Option.isSome_none, Option.isSome_some, Bool.not_true, Bool.not_false, cond_true, cond_false, Ab, Al, Ak, Ai]
 cases x with
 | good l =>
  cases l with
  | nil => simp [X.er, X.rest, X.end]
  | cons a l => simp [X.er, X.rest, X.end]
 | bad i c => simp [X.er, X.end]
theorem Ban (l : List Int) (h : l.length <= 1000000) : Ij ((), ((Ao l, ()), ())) = some ((), ((Ao l, ()), ())) := by
 have : D5 ((), ((Ao l, ()), ())) = some ((), ((Ao l, ()), ())) := by
  show Abi _ = _
  unfold Abi
  rw [if_pos (by simp only [Br]; omega)]
 simp only [Ij, Xa, this, Ae, Option.bind_some, Option.isNone_none, Option.isNone_some, Option.isSome_none, Option.isSome_some, Bool.not_true, Bool.not_false, cond_true, cond_false, Ab, Al, Ak, Ai]
def Eo (k : Nat) : X -> X
 | .good l => .good (l.drop k)
 | .bad i c => .bad i c
theorem U0 {s : ByteArray} {x : X} (h : x.wf s) (k : Nat) : (Eo k x).wf s := by
 cases x with
 | good l => exact X.wf_cut h k
 | bad i c => exact h
theorem Ag9 (s : ByteArray) (x : X) (h : x.wf s) (hs : s.size <= 1000000) (k : Nat) (hk : k <= x.rest.length) : A5 (x.t s, ((), (((k : Int), ()), ()))) = some ((Eo k x).t s, ((Ao (x.rest.take k), ()), ((), ()))) := by
 have ho := X.ok_rest h
 have hr := X.at_range h
 have hc := Ban (x.rest.take k) (by rw [List.length_take]; omega)
 simp only [A5, Io, X.t, Ac3 s x h, Ae, Option.bind_some, Option.isNone_none, Option.isNone_some, Option.isSome_none, Option.isSome_some, Bool.not_true, Bool.not_false, cond_true, cond_false, Ab, Al, Ak, Ai, Br, Ajz, List.drop_zero, Int.toNat_natCast, show (0 : Int).toNat = 0 from rfl, A4, hc, gt_iff_lt]
 rw [if_pos (by omega)]
 by_cases c : k = 0
 ·subst c
  rw [if_neg (by omega)]
  cases x <;> simp only [Eo, List.drop_zero]
 ·rw [if_pos (by omega)]
  cases x with
  | good l =>
   simp only [Eo, X.at, X.er, X.rest, List.length_drop] at *
   rw [Aq (by omega)]
   congr 5
   omega
  | bad i q => simp only [X.rest, List.length_nil] at hk; omega
def Bec (c : Int) (x : X) : Bool := decide (x.rest.head? = some c)
theorem A67 (s : ByteArray) (x : X) (h : x.wf s) (hs : s.size <= 1000000) (c : Int) : Cq (x.t s, ((), ((c, ()), ()))) = some ((if Bec c x then Eo 1 x else x).t s, ((Bec c x, ()), ((), ()))) := by
 simp only [Cq, Ir, X.t, A6k s x h, Ae, Option.bind_some, Option.isNone_none, Option.isNone_some, Option.isSome_none, Option.isSome_some, Bool.not_true, Bool.not_false, cond_true, cond_false, Ab, Al, Ak, Ai]
 unfold Bec
 cases hr : x.rest with
 | nil => simp
 | cons a l =>
  have ht := Ag9 s x h hs 1 (by rw [hr]; simp)
  simp only [X.t] at ht
  by_cases e : a = c
  ·subst e
   simp only [List.headD_cons, List.head?_cons, ne_eq, reduceCtorEq, not_false_eq_true, decide_true, not_true_eq_false, if_false, if_true]
   rw [show (1 : Int) = ((1 : Nat) : Int) from rfl, ht]
   simp only [Option.bind_some]
  ·have e2 : ¬ (some a = some c) := fun q => e (Option.some.inj q)
   simp only [List.headD_cons, List.head?_cons, ne_eq, reduceCtorEq, not_false_eq_true, decide_true, not_true_eq_false, if_false, e, if_true, e2, decide_false, Bool.false_eq_true]
def A3y (n : Nat) (c : Int) : X -> X
 | .good l => .bad (n - l.length) c
 | .bad i q => .bad i q
theorem A0l {s : ByteArray} {x : X} (h : x.wf s) (c : Int) : (A3y s.size c x).wf s := by
 cases x with
 | good l => exact Nat.sub_le _ _
 | bad i q => exact h
theorem Avr (s : ByteArray) (x : X) (c : Int) : Bs (x.t s, ((), ((some c, ()), ()))) = some ((A3y s.size c x).t s, ((), ())) := by
 simp only [Bs, Im, X.t, Aju, Ae, Option.bind_some, Option.isNone_none, Option.isNone_some, Option.isSome_none, Option.isSome_some, Bool.not_true, Bool.not_false, cond_true, cond_false, Ab, Al, Ak, Ai]
 cases x with
 | good l => simp [X.er, A3y, X.at]
 | bad i q => simp [X.er, A3y, X.at]
def Apx (n a b : Nat) : X -> X × Int
 | .good l => if a <= min (Sr l) b then (.good (l.drop (min (Sr l) b)), Sv (l.take (min (Sr l) b))) else (.bad (n - l.length) 2, 0)
 | .bad i c => (.bad i c, 0)
theorem Azy {s : ByteArray} {x : X} (h : x.wf s) (a b : Nat) : (Apx s.size a b x).1.wf s := by
 cases x with
 | good l =>
  simp only [Apx]
  split
  ·exact X.wf_cut h _
  ·exact Nat.sub_le _ _
 | bad i q => exact h
theorem Aws {l : List Int} {k : Nat} (h : k <= Sr l) : ∀ x ∈ l.take k, isF x := by
 intro x hx
 obtain ⟨i, hi, rfl⟩ := List.getElem_of_mem hx
 have hl := Ai7 l
 rw [List.length_take] at hi
 have := Aux (l := l) (i := i) (by omega)
 rw [List.getElem_take]
 rwa [List.getD_eq_getElem?_getD, List.getElem?_eq_getElem (by omega)] at this
theorem A1p (n a b : Nat) (hb : b <= 18) (x : X) : 0 <= (Apx n a b x).2 /\ (Apx n a b x).2 < 10 ^ b := by
 have p1 : (0 : Int) < 10 ^ b := Int.pow_pos (by decide)
 cases x with
 | good l =>
  simp only [Apx]
  split
  ·have := Zo _ (l.take (min (Sr l) b)) rfl (Aws (Nat.min_le_left _ _))
   refine ⟨this.1, Int.lt_of_lt_of_le this.2 ?_⟩
   have h2 : (l.take (min (Sr l) b)).length <= b := by rw [List.length_take]; omega
   have : 10 ^ (l.take (min (Sr l) b)).length <= 10 ^ b := Nat.pow_le_pow_right (by omega) h2
   exact_mod_cast this
  ·exact ⟨Int.le_refl _, p1⟩
 | bad i q => exact ⟨Int.le_refl _, p1⟩
theorem Bcn (l : List Int) (ho : Iw l) (hs : l.length <= 1000000) (a b : Nat) (h : 1 <= a /\ a <= b /\ b <= 18) : L2 ((), ((Ao l, ()), (((a : Int), ()), (((b : Int), ()), ())))) =
  if a <= min (Sr l) b then some ((), ((Sv (l.take (min (Sr l) b)), ()), ((((min (Sr l) b : Nat) : Int), ()), ((none, ()), ())))) else some ((), ((0, ()), ((0, ()), ((some 2, ()), ())))) := by
 have hf := A8h (Ao l) (by rw [Br]; exact hs) a b 9223372036854775807 (by omega)
 have hv := A1p 0 a b h.2.2 (.good l)
 have hp : (10 : Int) ^ b <= 10 ^ 18 := by
  have : 10 ^ b <= 10 ^ 18 := Nat.pow_le_pow_right (by omega) h.2.2
  exact_mod_cast this
 simp only [L2, Z8, hf, Option.bind_some]
 unfold A5l A3e Bas
 simp only [I3 ho, Int.toNat_natCast]
 simp only [Apx] at hv
 by_cases c : a <= min (Sr l) b
 ·rw [if_pos c] at hv
  simp only at hv
  rw [if_neg (show ¬((a : Int) < 1 \/ (b : Int) < a \/ 20 < (b : Int)) by omega), if_neg (show ¬(((min (Sr l) b : Nat) : Int) < a) by omega), if_pos (show Sv (l.take (min (Sr l) b)) <= 9223372036854775807 by omega), if_pos c, if_pos rfl, if_pos rfl, A5t (by omega)]; rfl
 ·rw [if_neg (show ¬((a : Int) < 1 \/ (b : Int) < a \/ 20 < (b : Int)) by omega), if_pos (show ((min (Sr l) b : Nat) : Int) < a by omega), if_neg c, if_neg (by decide), if_neg (by decide)]; rfl
theorem Ab8 (s : ByteArray) (x : X) (h : x.wf s) (hs : s.size <= 1000000) (a b : Nat) (hab : 1 <= a /\ a <= b /\ b <= 18) : Ax (x.t s, ((), (((a : Int), ()), (((b : Int), ()), ())))) = some ((Apx s.size a b x).1.t s, (((Apx s.size a b x).2, ()), ((), ()))) := by
 simp only [Ax, Gz, X.t, Aju, Ac3 s x h, Ae, Option.bind_some, Option.isNone_none, Option.isNone_some, Option.isSome_none, Option.isSome_some, Bool.not_true, Bool.not_false, cond_true, cond_false, Ab, Al, Ak, Ai]
 cases x with
 | good l =>
  obtain ⟨h1, h2, h3⟩ := X.wf_good h
  have hf := Bcn l h1 (by omega) a b hab
  have hll := Ai7 l
  simp only [X.er, X.rest, Option.isNone_none, Bool.not_true, cond_false, hf]
  by_cases c : a <= min (Sr l) b
  ·have ht := Ag9 s (.good l) h hs (min (Sr l) b) (by simp only [X.rest]; omega)
   simp only [X.t, X.er] at ht
   simp only [if_pos c, Option.bind_some, Option.isNone_none, Bool.not_true, cond_false, ht, Apx, X.er]; simp [Eo, X.er]
  ·simp only [if_neg c, Option.bind_some, Apx, X.er, X.at]; simp
 | bad i c => simp [X.er, Apx, X.at]
theorem Bfd : ∀ (l : List UInt8) (c : UInt8), (0 <= Lib.indexByte l c) ↔ c ∈ l := by
 intro l c
 induction l with
 | nil => simp [Lib.indexByte]
 | cons b l ih =>
  have hg := Lib.indexByte_ge l c
  simp only [Lib.indexByte, List.mem_cons]
  by_cases h : b = c
  ·subst h; simp
  ·have h' : ¬ c = b := fun q => h q.symm
   simp only [beq_iff_eq, h, if_false, h', false_or]
   rw [<- ih]
   by_cases q : Lib.indexByte l c = -1
   ·rw [if_pos q, q]
   ·rw [if_neg q]; omega
theorem A17 (S : List Int) (hS : Iw S) (c : Int) (hc : 0 <= c /\ c < 256) : ∃ v : Int, Eu ((), ((Ao S, ()), ((c, ()), ()))) = some ((), ((v, ()), ())) /\ (0 <= v ↔ c ∈ S) := by
 refine ⟨_, rfl, ?_⟩
 rw [Bfd]
 have e : bytesOf (Ao S) = S := I3 hS
 constructor
 ·intro h
  rw [<- e]
  have : ((c.toNat.toUInt8.toNat : Nat) : Int) = c := by
   rw [show c.toNat.toUInt8.toNat = c.toNat % 256 from rfl]; omega
  rw [<- this]
  exact List.mem_map_of_mem (f := fun b : UInt8 => (b.toNat : Int)) h
 ·intro h
  rw [<- e] at h
  obtain ⟨b, hb, hbc⟩ := List.mem_map.1 h
  have : c.toNat.toUInt8 = b := by
   rw [<- hbc]; simp
  simp only [this]; exact hb
def Ia (S : List Int) : List Int -> Nat
 | [] => 0
 | x :: l => if x ∈ S then Ia S l + 1 else 0
theorem Ai5 (S : List Int) : ∀ l : List Int, Ia S l <= l.length
 | [] => Nat.le_refl _
 | x :: l => by
  unfold Ia
  have := Ai5 S l
  split <;> simp only [List.length_cons] <;> omega
theorem Azi {S : List Int} : ∀ {l : List Int} {i : Nat}, i < Ia S l -> l.getD i 0 ∈ S
 | [], i, h => by simp [Ia] at h
 | x :: l, i, h => by
  unfold Ia at h
  split at h
  ·rename_i c
   cases i with
   | zero => exact c
   | succ i => exact Azi (l := l) (by omega)
  ·omega
theorem Awd {S : List Int} : ∀ {l : List Int}, Ia S l < l.length -> ¬ l.getD (Ia S l) 0 ∈ S
 | [], h => by simp [Ia] at h
 | x :: l, h => by
  unfold Ia at h ⊢
  split
  ·rename_i c
   rw [if_pos c] at h
   exact Awd (l := l) (by simp only [List.length_cons] at h; omega)
  ·rename_i c; exact c
theorem Ay4 (s : ByteArray) (x : X) (h : x.wf s) (hs : s.size <= 1000000) (S : List Int) (hS : Iw S) : ∀ (k i : Nat), i + k = x.rest.length -> i <= Ia S x.rest ->
  Evn (fun f => (A7 f).1 (x.t s, ((), ((Ao S, ()), ((Ao x.rest, ()), (((i : Int), ()), ())))))) ((Eo (Ia S x.rest) x).t s, ((Ao (x.rest.take (Ia S x.rest)), ()), ((), ()))) := by
 have ho := X.ok_rest h
 have hl := Ai5 S x.rest
 have fin : ∀ i : Nat, i = Ia S x.rest -> (i < x.rest.length -> ¬ x.rest.getD i 0 ∈ S) -> Evn (fun f => (A7 f).1 (x.t s, ((), ((Ao S, ()), ((Ao x.rest, ()), (((i : Int), ()), ())))))) ((Eo (Ia S x.rest) x).t s, ((Ao (x.rest.take (Ia S x.rest)), ()), ((), ()))) := by
  intro i hi hn
  subst hi
  have ht := Ag9 s x h hs _ hl
  simp only [X.t] at ht
  refine Evn.some 1 fun f => ?_
  simp only [Jy, Db, X.t, Ae, Option.bind_some, Option.isNone_none, Option.isNone_some, Option.isSome_none, Option.isSome_some, Bool.not_true, Bool.not_false, cond_true, cond_false, Ab, Al, Ak, Ai, Br, A4]
  by_cases c : Ia S x.rest < x.rest.length
  ·have hb := Axy (Ao x.rest) (i := ((Ia S x.rest : Nat) : Int)) (by omega) (by rw [Br]; omega)
   rw [I3 ho.1, Int.toNat_natCast] at hb
   have hc := Ax9 ho.1 (Ia S x.rest)
   obtain ⟨v, hv1, hv2⟩ := A17 S hS (x.rest.getD (Ia S x.rest) 0) hc
   rw [if_pos (by omega), if_pos (by omega), hb, hv1]
   simp only [Option.bind_some, Ab, ge_iff_le]
   rw [if_neg (fun q => hn c (hv2.1 q)), ht]; rfl
  ·rw [if_neg (by omega), ht]; rfl
 intro k; induction k with
 | zero =>
  intro i hi hr
  exact fin i (by omega) (fun q => by omega)
 | succ k ih =>
  intro i hi hr
  by_cases q : i = Ia S x.rest
  ·exact fin i q (fun q2 => by rw [q]; exact Awd (by omega))
  ·refine (ih (i + 1) (by omega) (by omega)).step fun f => ?_
   have hb := Axy (Ao x.rest) (i := (i : Int)) (by omega) (by rw [Br]; omega)
   rw [I3 ho.1, Int.toNat_natCast] at hb
   have hc := Ax9 ho.1 i
   obtain ⟨v, hv1, hv2⟩ := A17 S hS (x.rest.getD i 0) hc
   simp only [Jy, Db, X.t, Ae, Option.bind_some, Option.isNone_none, Option.isNone_some, Option.isSome_none, Option.isSome_some, Bool.not_true, Bool.not_false, cond_true, cond_false, Ab, Al, Ak, Ai, Br, A4]
   rw [if_pos (by omega), if_pos (by omega), hb, hv1]
   simp only [Option.bind_some, Ab, ge_iff_le]
   rw [if_pos (hv2.2 (Azi (by omega))), Aq (by omega)]; rfl
theorem Zk (s : ByteArray) (x : X) (h : x.wf s) (hs : s.size <= 1000000) (S : List Int) (hS : Iw S) : Bf (x.t s, ((), ((Ao S, ()), ()))) = some ((Eo (Ia S x.rest) x).t s, ((Ao (x.rest.take (Ia S x.rest)), ()), ((), ()))) := by
 refine ((Ay4 s x h hs S hS x.rest.length 0 (by omega) (Nat.zero_le _)).cast fun f => ?_).lim
 simp only [E8, X.t, Ac3 s x h, Option.bind_some]; rfl
def A6f (l c : List Int) (i : Nat) : Prop := c.length = l.length /\ ∀ k : Nat, k < l.length -> c.getD k 0 = if k < i \/ l.length - i <= k then l.getD (l.length - 1 - k) 0 else l.getD k 0
theorem A13 (l : List Int) (i k : Nat) (x : Int) (hi : i < l.length) : (l.set i x).getD k 0 = if k = i then x else l.getD k 0 := by
 simp only [List.getD_eq_getElem?_getD, List.getElem?_set]
 by_cases h : i = k
 ·subst h; simp [hi]
 ·rw [if_neg h, if_neg (Ne.symm h)]
theorem Art {l c : List Int} {i : Nat} (h : A6f l c i) (hi : l.length <= 2 * i + 1) : c = l.reverse := by
 refine List.ext_getElem (by rw [h.1, List.length_reverse]) fun k h1 h2 => ?_
 have hk : k < l.length := by rw [<- h.1]; exact h1
 have := h.2 k hk
 rw [List.getElem_reverse]
 simp only [List.getD_eq_getElem?_getD, List.getElem?_eq_getElem h1, Option.getD_some] at this
 rw [this]
 by_cases c1 : k < i \/ l.length - i <= k
 ·rw [if_pos c1, List.getElem?_eq_getElem (by omega)]; rfl
 ·rw [if_neg c1, List.getElem?_eq_getElem hk]
  simp only [Option.getD_some]
  congr 1
  omega
theorem A3l (l : List Int) (hl : l.length <= 1000000) : ∀ (m i : Nat) (c : List Int), l.length <= 2 * i + m -> A6f l c i -> i <= l.length ->
  Evn (fun k => (Bi k).1 ((c, ()), ((), (((i : Int), ()), (((l.length : Int) - 1 - i, ()), ()))))) ((l.reverse, ()), ((), ())) := by
 intro m; induction m with
 | zero =>
  intro i c h ht hi
  rw [<- Art ht (by omega)]
  refine Evn.some 1 fun k => ?_
  simp only [Fk, Ck, Ae, Option.bind_some, Option.isNone_none, Option.isNone_some, Option.isSome_none, Option.isSome_some, Bool.not_true, Bool.not_false, cond_true, cond_false, Ab, Al, Ak, Ai]
  rw [if_neg (by omega)]
 | succ m ih =>
  intro i c h ht hi
  by_cases e : l.length <= 2 * i + 1
  ·rw [<- Art ht e]
   refine Evn.some 1 fun k => ?_
   simp only [Fk, Ck, Ae, Option.bind_some, Option.isNone_none, Option.isNone_some, Option.isSome_none, Option.isSome_some, Bool.not_true, Bool.not_false, cond_true, cond_false, Ab, Al, Ak, Ai]
   rw [if_neg (by omega)]
  ·obtain ⟨h1, h2⟩ := ht
   have e1 : (((l.length : Int) - 1 - i).toNat) = l.length - 1 - i := by omega
   have hT : A6f l ((c.set i (c.getD (l.length - 1 - i) 0)).set (l.length - 1 - i) (c.getD i 0)) (i + 1) := by
    refine ⟨by simp [h1], fun k hk => ?_⟩
    have hki := h2 i (by omega)
    have hkj := h2 (l.length - 1 - i) (by omega)
    have hkk := h2 k hk
    rw [if_neg (by omega)] at hki
    rw [if_neg (by omega)] at hkj
    rw [A13 _ _ _ _ (by simp; omega), A13 _ _ _ _ (by omega), hki, hkj]
    by_cases k1 : k = l.length - 1 - i
    ·subst k1
     rw [if_pos rfl, if_pos (by omega)]
     congr 1
     omega
    ·rw [if_neg k1]
     by_cases k2 : k = i
     ·subst k2
      rw [if_pos rfl, if_pos (by omega)]
     ·rw [if_neg k2, hkk]
      by_cases k3 : k < i \/ l.length - i <= k
      ·rw [if_pos k3, if_pos (by omega)]
      ·rw [if_neg k3, if_neg (by omega)]
   have := ih (i + 1) _ (by omega) hT (by omega)
   refine this.step fun k => ?_
   simp only [Fk, Ck, Ae, Option.bind_some, Option.isNone_none, Option.isNone_some, Option.isSome_none, Option.isSome_some, Bool.not_true, Bool.not_false, cond_true, cond_false, Ab, Al, Ak, Ai, A4, A46, e1, Int.toNat_natCast, List.length_set]
   rw [if_pos (by omega), if_pos (by omega), if_pos (by omega), if_pos (by omega), if_pos (by omega), Aq (by omega), Bb (by omega)]
   rw [show (l.length : Int) - 1 - ((i + 1 : Nat) : Int) = (l.length : Int) - 1 - i - 1 by omega]
   rfl
theorem A47 (l : List Int) (hl : l.length <= 1000000) : Dx ((l, ()), ((), ())) = some ((l.reverse, ()), ((), ())) := by
 have := A3l l hl l.length 0 l (by omega) ⟨rfl, fun k hk => by rw [if_neg (by omega)]⟩ (by omega)
 refine (this.cast fun k => ?_).lim
 simp only [Ep]
 rw [Bb (by omega)]
 simp only [Int.natCast_zero, Int.sub_zero]
def Aac (n : Nat) : List Int := if h : n = 0 then [] else (48 + (n % 10 : Nat) : Int) :: Aac (n / 10)
termination_by n
decreasing_by omega
theorem Lt : Aac 0 = [] := by rw [Aac]; rfl
theorem Vg {n : Nat} (h : n ≠ 0) : Aac n = (48 + (n % 10 : Nat) : Int) :: Aac (n / 10) := by rw [Aac, dif_neg h]
theorem Amk : ∀ (k n : Nat), n < 10 ^ k -> (Aac n).length <= k
 | 0, n, h => by
  have : n = 0 := by simpa using h
  subst this; rw [Lt]; exact Nat.le_refl _
 | k + 1, n, h => by
  by_cases c : n = 0
  ·subst c; rw [Lt]; exact Nat.zero_le _
  ·rw [Vg c, List.length_cons]
   have := Amk k (n / 10) (by rw [Nat.pow_succ] at h; omega)
   omega
theorem Bbs (n : Nat) : ∀ x ∈ Aac n, 48 <= x /\ x <= 57 := by
 induction n using Nat.strongRecOn with
 | _ n ih =>
  intro x hx
  by_cases c : n = 0
  ·subst c; rw [Lt] at hx; cases hx
  ·rw [Vg c] at hx
   rcases List.mem_cons.1 hx with rfl | hx
   ·omega
   ·exact ih (n / 10) (by omega) x hx
def Axu (n w : Nat) : List Int := List.replicate (max w 1 - (Aac n).length) 48 ++ (Aac n).reverse
theorem u64_in {x : Int} (h : 0 <= x /\ x <= 18446744073709551615) : IntKind.u64.wrap x = x := IntWalk.u64_in x h
theorem Bew {x : Int} (h : 0 <= x /\ x <= 255) : IntKind.u8.wrap x = x := by rw [wrap_u8]; omega
theorem A8t (n : Nat) : Bm .u8 48 (Ef .u8 (Int.tmod (n : Int) 10)) = 48 + ((n % 10 : Nat) : Int) := by
 rw [Ajq (by omega)]
 unfold Bm Ef
 rw [Bew (x := (n : Int) % 10) (by omega), Bew (by omega)]; omega
theorem Bai {a c : Int} (hc : 0 < c) (h : 0 <= a /\ a <= 18446744073709551615) : Nm .u64 a c = a / c := by
 unfold Nm
 rw [Int.tdiv_eq_ediv_of_nonneg h.1]
 exact u64_in ⟨Int.ediv_nonneg h.1 (by omega), Int.le_trans (Int.ediv_le_self _ h.1) h.2⟩
theorem Bfl (w : Int) (hw : w <= 100) : ∀ (k : Nat) (n : Nat) (out : List Int), n < 18446744073709551616 -> (Aac n).length + (max w 1 - out.length - (Aac n).length).toNat <= k -> out.length + k <= 1000 ->
  Evn (fun j => (F9 j).1 ((out, ()), (((n : Int), ()), ((w, ()), ((), ()))))) ((), ((Ao (List.replicate (max w 1 - out.length - (Aac n).length).toNat 48 ++ (out ++ Aac n).reverse), ()), ())) := by
 intro k; induction k with
 | zero =>
  intro n out hn hk hl
  have hf : (Aac n).length = 0 := by omega
  have hn0 : n = 0 := by
   by_cases c : n = 0
   ·exact c
   ·rw [Vg c] at hf; simp at hf
  subst hn0
  rw [Lt, List.append_nil, show (max w 1 - out.length - ([] : List Int).length).toNat = 0 by rw [Lt] at hk; omega]
  refine Evn.some 1 fun j => ?_
  simp only [R2, Hg, A47 out (by omega), Ae, Option.bind_some, Option.isNone_none, Option.isNone_some, Option.isSome_none, Option.isSome_some, Bool.not_true, Bool.not_false, cond_true, cond_false, Ab, Al, Ak, Ai, gt_iff_lt]
  rw [if_neg (by omega), if_neg (by rw [Lt] at hk; simp only [List.length_nil] at hk; split <;> omega)]
  simp
 | succ k ih =>
  intro n out hn hk hl
  have hlen : (out ++ [48 + ((n % 10 : Nat) : Int)]).length = out.length + 1 := by simp
  by_cases c : n = 0
  ·subst c
   rw [Lt] at hk ⊢
   simp only [List.length_nil] at hk ⊢
   by_cases c2 : (out.length : Int) < max w 1
   ·have := ih 0 (out ++ [48]) (by omega) (by rw [Lt]; simp; omega) (by simp; omega)
    rw [Lt, List.append_nil] at this
    rw [List.append_nil]
    have e : List.replicate (max w 1 - out.length - 0).toNat (48 : Int) ++ out.reverse = List.replicate (max w 1 - (out ++ [48]).length - ([] : List Int).length).toNat 48 ++ (out ++ [48]).reverse := by
     rw [show (max w 1 - (out.length : Int) - 0).toNat = (max w 1 - ((out ++ [(48 : Int)]).length : Int) - (([] : List Int).length : Int)).toNat + 1 by simp; omega]
     rw [List.replicate_succ', List.append_assoc, List.reverse_append]
     rfl
    have e' : ((0 : Int)) = (([] : List Int).length : Int) := rfl
    rw [show (max w 1 - (out.length : Int) - ((0 : Nat) : Int)) = (max w 1 - (out.length : Int) - 0) from rfl, e]
    refine this.step fun j => ?_
    simp only [R2, Hg, Ae, Option.bind_some, Option.isNone_none, Option.isNone_some, Option.isSome_none, Option.isSome_some, Bool.not_true, Bool.not_false, cond_true, cond_false, Ab, Al, Ak, Ai, gt_iff_lt, A4, List.length_cons, List.length_nil]
    rw [if_neg (by omega), if_pos (by split <;> omega), if_pos (by omega)]
    rfl
   ·have e : (max w 1 - (out.length : Int) - ((0 : Nat) : Int)).toNat = 0 := by omega
    rw [e, List.append_nil]
    refine Evn.some 1 fun j => ?_
    simp only [R2, Hg, A47 out (by omega), Ae, Option.bind_some, Option.isNone_none, Option.isNone_some, Option.isSome_none, Option.isSome_some, Bool.not_true, Bool.not_false, cond_true, cond_false, Ab, Al, Ak, Ai, gt_iff_lt]
    rw [if_neg (by omega), if_neg (by split <;> omega)]
    simp
  ·have hfl : (Aac n).length = (Aac (n / 10)).length + 1 := by rw [Vg c]; rfl
   have := ih (n / 10) (out ++ [48 + ((n % 10 : Nat) : Int)]) (by omega) (by rw [hlen]; omega) (by rw [hlen]; omega)
   rw [hlen, show (max w 1 - ((out.length + 1 : Nat) : Int) - ((Aac (n / 10)).length : Int)).toNat = (max w 1 - (out.length : Int) - ((Aac n).length : Int)).toNat by omega,
    show (out ++ [48 + ((n % 10 : Nat) : Int)]) ++ Aac (n / 10) = out ++ Aac n by rw [Vg c]; simp] at this
   refine this.step fun j => ?_
   simp only [R2, Hg, Ae, Option.bind_some, Option.isNone_none, Option.isNone_some, Option.isSome_none, Option.isSome_some, Bool.not_true, Bool.not_false, cond_true, cond_false, Ab, Al, Ak, Ai, gt_iff_lt, A4, A8t, List.length_cons, List.length_nil]
   rw [if_pos (by omega), if_pos (by omega), Bai (by omega) (by omega)]
   rfl
theorem A6n (n : Nat) (w : Int) (hn : n < 18446744073709551616) (hw : w <= 100) : Nt ((), (((n : Int), ()), ((w, ()), ()))) = some ((), ((Ao (Axu n w.toNat), ()), ())) := by
 have hl := Amk 20 n (by omega)
 have := Bfl w hw 200 n [] hn (by simp only [List.length_nil]; omega) (by simp)
 rw [List.nil_append] at this
 have e : List.replicate (max w 1 - (([] : List Int).length : Int) - ((Aac n).length : Int)).toNat (48 : Int) ++ (Aac n).reverse = Axu n w.toNat := by
  unfold Axu
  congr 2
  simp only [List.length_nil]; omega
 rw [e] at this
 refine (this.cast fun j => ?_).lim
 simp only [Tl]
def Bc1 (a : Int) : Prop := -9223372036854775808 <= a /\ a <= 9223372036854775807
theorem Asv (x : Int) (l : List Int) : Ao [x] ++ Ao l = Ao (x :: l) := by rw [Vq]; rfl
theorem Bee : (⟨#[48]⟩ : ByteArray) = Ao [48] := by kernel_rfl
theorem Be6 : (⟨#[45]⟩ : ByteArray) = Ao [45] := by kernel_rfl
theorem A4r : (⟨#[]⟩ : ByteArray) = Ao [] := by kernel_rfl
theorem A8r {k : Nat} (hk : 0 < k) (l : List Int) : List.replicate k (48 : Int) ++ l = List.replicate (k - 1) 48 ++ 48 :: l := by
 obtain ⟨k, rfl⟩ : ∃ m, k = m + 1 := ⟨k - 1, by omega⟩
 rw [Nat.add_sub_cancel, List.replicate_succ', List.append_assoc]; rfl
theorem Bfy (w : Int) (hw : w <= 100) : ∀ (k : Nat) (l : List Int), l.length <= 100 -> (max w 1 - l.length).toNat <= k ->
  Evn (fun j => (Dw j).2.1 ((), ((w, ()), ((Ao l, ()), ())))) ((), ((Ao (List.replicate (max w 1 - l.length).toNat 48 ++ l), ()), ())) := by
 have e1 : (Ao [48]).size = 1 := Br _
 intro k; induction k with
 | zero =>
  intro l hl hk
  have h0 : (max w 1 - (l.length : Int)).toNat = 0 := by omega
  rw [h0]
  refine Evn.some 1 fun j => ?_
  simp only [T8, Lx, Ae, Option.bind_some, Option.isNone_none, Option.isNone_some, Option.isSome_none, Option.isSome_some, Bool.not_true, Bool.not_false, cond_true, cond_false, Ab, Al, Ak, Ai, Br]
  rw [if_neg (by omega), if_neg (by omega)]; rfl
 | succ k ih =>
  intro l hl hk
  by_cases c : (max w 1 - (l.length : Int)).toNat = 0
  ·rw [c]
   refine Evn.some 1 fun j => ?_
   simp only [T8, Lx, Ae, Option.bind_some, Option.isNone_none, Option.isNone_some, Option.isSome_none, Option.isSome_some, Bool.not_true, Bool.not_false, cond_true, cond_false, Ab, Al, Ak, Ai, Br]
   rw [if_neg (by omega), if_neg (by omega)]; rfl
  ·by_cases cl : l.length = 100
   ·omega
   ·have := ih (48 :: l) (by simp; omega) (by simp; omega)
    rw [A8r (by omega)]
    rw [show (max w 1 - ((48 :: l : List Int).length : Int)).toNat = (max w 1 - (l.length : Int)).toNat - 1 by simp; omega] at this
    refine this.step fun j => ?_
    simp only [T8, Lx, Ae, Option.bind_some, Option.isNone_none, Option.isNone_some, Option.isSome_none, Option.isSome_some, Bool.not_true, Bool.not_false, cond_true, cond_false, Ab, Al, Ak, Ai, Bee, Br, Asv, List.length_cons, List.length_nil]
    by_cases c1 : (l.length : Int) < w
    ·rw [if_pos c1, if_pos (by omega)]
    ·rw [if_neg c1, if_pos (by omega), if_pos (by omega)]
theorem Bby (w : Int) (hw : w <= 100) : ∀ (k : Nat) (n : Nat) (l : List Int), n < 9223372036854775808 -> (Aac n).length <= k -> l.length + k <= 100 ->
  Evn (fun j => (Dw j).1 ((), (((n : Int), ()), ((w, ()), ((Ao l, ()), ()))))) ((), ((Ao (List.replicate (max w 1 - (Aac n).length - l.length).toNat 48 ++ ((Aac n).reverse ++ l)), ()), ())) := by
 have e1 : (Ao [48]).size = 1 := Br _
 have stop : ∀ l : List Int, l.length <= 100 -> Evn (fun j => (Dw j).1 ((), ((((0 : Nat) : Int), ()), ((w, ()), ((Ao l, ()), ()))))) ((), ((Ao (List.replicate (max w 1 - (Aac 0).length - l.length).toNat 48 ++ ((Aac 0).reverse ++ l)), ()), ())) := by
  intro l hl
  rw [Lt]
  have := Bfy w hw (max w 1 - (l.length : Int)).toNat l hl (Nat.le_refl _)
  rw [show (max w 1 - (([] : List Int).length : Int) - (l.length : Int)).toNat = (max w 1 - (l.length : Int)).toNat by simp]
  refine this.step fun j => ?_
  simp only [T8, Qe, Ae, Option.bind_some, Option.isNone_none, Option.isNone_some, Option.isSome_none, Option.isSome_some, Bool.not_true, Bool.not_false, cond_true, cond_false, Ab, Al, Ak, Ai, gt_iff_lt]
  rw [if_neg (by omega)]
 intro k; induction k with
 | zero =>
  intro n l hn hk hl
  have hn0 : n = 0 := by
   by_cases c : n = 0
   ·exact c
   ·rw [Vg c] at hk; simp at hk
  subst hn0
  exact stop l (by omega)
 | succ k ih =>
  intro n l hn hk hl
  by_cases c : n = 0
  ·subst c; exact stop l (by omega)
  ·have hfl : (Aac n).length = (Aac (n / 10)).length + 1 := by rw [Vg c]; rfl
   have := ih (n / 10) ((48 + (n % 10 : Nat) : Int) :: l) (by omega) (by omega) (by simp; omega)
   rw [show (max w 1 - ((Aac (n / 10)).length : Int) - (((48 + (n % 10 : Nat) : Int) :: l).length : Int)).toNat = (max w 1 - ((Aac n).length : Int) - (l.length : Int)).toNat by simp; omega,
    show (Aac (n / 10)).reverse ++ (48 + (n % 10 : Nat) : Int) :: l = (Aac n).reverse ++ l by rw [Vg c]; simp] at this
   have e2 : Ef .u8 (Bm .i64 48 (Int.tmod (n : Int) 10)) = 48 + ((n % 10 : Nat) : Int) := by
    rw [Ajq (by omega), Aq (by omega), Ami]; omega
   have e3 : Nm .i64 (n : Int) 10 = ((n / 10 : Nat) : Int) := by rw [Ss (by omega) (by omega)]; omega
   refine this.step fun j => ?_
   simp only [T8, Qe, Ae, Option.bind_some, Option.isNone_none, Option.isNone_some, Option.isSome_none, Option.isSome_some, Bool.not_true, Bool.not_false, cond_true, cond_false, Ab, Al, Ak, Ai, gt_iff_lt, e2, e3, Br, Asv, List.length_cons, List.length_nil]
   rw [if_pos (by omega), if_pos (by omega)]
theorem A9x (n : Nat) (w : Int) : List.replicate (max w 1 - ((Aac n).length : Int)).toNat (48 : Int) ++ (Aac n).reverse = Axu n w.toNat := by
 unfold Axu
 congr 2
 omega
theorem A5q (n : Nat) (w : Int) (hn : n < 9223372036854775808) (hw : w <= 100) : Fh ((), (((n : Int), ()), ((w, ()), ()))) = some ((), ((Ao (Axu n w.toNat), ()), ())) := by
 have hl := Amk 20 n (by omega)
 have := Bby w hw 20 n [] hn hl (by simp)
 rw [List.append_nil, show (max w 1 - ((Aac n).length : Int) - (([] : List Int).length : Int)) = max w 1 - ((Aac n).length : Int) by simp, A9x] at this
 refine (this.cast fun j => ?_).lim
 simp only [X1, A4r]
theorem A1k (n : Nat) (w : Nat) (hn : n < 18446744073709551616) (hw : w <= 20) : (Axu n w).length <= 20 := by
 have hl := Amk 20 n (by omega)
 unfold Axu
 simp only [List.length_append, List.length_replicate, List.length_reverse]
 omega
def Bgl (v w : Int) : List Int := if v < 0 then 45 :: Axu v.natAbs w.toNat else Axu v.natAbs w.toNat
def Bf8 (w : Int) : Int := if w < 0 \/ 20 < w then 1 else 0
theorem Bc8 (v w : Int) (hv : Bc1 v) : K8 ((), ((v, ()), ((w, ()), ()))) = some ((), ((if Bf8 w = 0 then Ao (Bgl v w) else Ao [], ()), ((Ajg (Bf8 w), ()), ()))) := by
 unfold Bc1 at hv
 simp only [K8, Abe, Ae, Option.bind_some, Option.isNone_none, Option.isNone_some, Option.isSome_none, Option.isSome_some, Bool.not_true, Bool.not_false, cond_true, cond_false, Ab, Al, Ak, Ai, gt_iff_lt, A4r]
 unfold Bf8 Bgl
 by_cases c : w < 0 \/ 20 < w
 ·simp only [c, if_true, show ((1 : Int) = 0) = False by simp, if_false]
  by_cases c1 : w < 0
  ·rw [if_pos c1]; rfl
  ·rw [if_neg c1, if_pos (by omega)]; rfl
 ·simp only [c, if_false, if_true]
  rw [if_neg (by omega), if_neg (by omega)]
  by_cases c2 : v < 0
  ·have e : Bgv .u64 (Ef .u64 v) = (v.natAbs : Int) := by
    unfold Bgv; rw [L0, Yk]; omega
   have hl := A1k v.natAbs w.toNat (by omega) (by omega)
   rw [if_pos c2, if_pos c2, e, A6n _ _ (by omega) (by omega)]
   simp only [Ae, Option.bind_some, Option.isNone_none, Option.isNone_some, Option.isSome_none, Option.isSome_some, Bool.not_true, Bool.not_false, cond_true, cond_false, Ab, Al, Ak, Ai, Be6, Br, Asv, List.length_cons, List.length_nil]
   rw [if_pos (by omega)]; rfl
  ·rw [if_neg c2, if_neg c2, L0, show v % 18446744073709551616 = ((v.natAbs : Nat) : Int) by omega, A6n _ _ (by omega) (by omega)]
   rfl
theorem A2p {l : List Int} (h : ∀ x ∈ l, isF x) : Iw l := fun x hx => by
 have := h x hx
 unfold isF at this; omega
theorem A8i (n w : Nat) : ∀ x ∈ Axu n w, isF x := by
 intro x hx
 unfold Axu at hx
 rcases List.mem_append.1 hx with h | h
 ·rw [(List.mem_replicate.1 h).2]; unfold isF; omega
 ·exact Bbs n x (List.mem_reverse.1 h)
theorem Bc6 (n w : Nat) : Iw (Axu n w) := A2p (A8i n w)
theorem A34 (v w : Int) (h : 0 <= v /\ v <= 9223372036854775807) (hw : 0 <= w /\ w <= 20) : K8 ((), ((v, ()), ((w, ()), ()))) = some ((), ((Ao (Axu v.toNat w.toNat), ()), ((none, ()), ()))) := by
 have e : Bf8 w = 0 := if_neg (by omega)
 rw [Bc8 v w (by unfold Bc1; omega), e, if_pos rfl]
 unfold Bgl
 rw [if_neg (by omega), show v.natAbs = v.toNat by omega]; rfl
theorem Gr (l m : List Int) (h : l.length + m.length <= 1000000) : Hb (Ao l) (Ao m) = true := by
 rw [Ae, Br, Br]; exact decide_eq_true (by omega)
theorem At3 (l m : List Int) (hl : Iw l) (hm : Iw m) : ((Ao l).toList == (Ao m).toList) = decide (l = m) := by
 rw [A5d, I3 hl, I3 hm]
theorem Amx : Iw [] := fun x h => by cases h
@[reducible] def gL : List Int := [32, 9]
@[reducible] def hxL : List Int := [48, 49, 50, 51, 52, 53, 54, 55, 56, 57, 97, 98, 99, 100, 101, 102, 65, 66, 67, 68, 69, 70]
@[reducible] def hxS : List Int := [48, 49, 50, 51, 52, 53, 54, 55, 56, 57, 97, 98, 99, 100, 101, 102]
theorem Avm : (⟨#[32, 9]⟩ : ByteArray) = Ao gL := by kernel_rfl
theorem A5n : (⟨#[48, 49, 50, 51, 52, 53, 54, 55, 56, 57, 97, 98, 99, 100, 101, 102, 65, 66, 67, 68, 69, 70]⟩ : ByteArray) = Ao hxL := by kernel_rfl
theorem Bbb : (⟨#[48, 49, 50, 51, 52, 53, 54, 55, 56, 57, 97, 98, 99, 100, 101, 102]⟩ : ByteArray) = Ao hxS := by kernel_rfl
theorem A9s : Iw gL := by unfold Iw; decide
theorem A4j : Iw hxL := by unfold Iw; decide
theorem Atd (S l : List Int) : l.take (Ia S l) = [] ↔ Ia S l = 0 := by
 have := Ai5 S l
 rw [List.take_eq_nil_iff]
 constructor
 ·rintro (h | h)
  ·exact h
  ·subst h; rfl
 ·exact .inl
def Ad3 (n : Nat) (x : X) : X := if Ia gL x.rest = 0 then A3y n 2 x else Eo (Ia gL x.rest) x
theorem Arz (x : X) : Eo 0 x = x := by cases x <;> simp [Eo]
theorem Ae6 {s : ByteArray} {x : X} (h : x.wf s) : (Ad3 s.size x).wf s := by
 unfold Ad3
 split
 ·exact A0l h 2
 ·exact U0 h _
theorem Agi (s : ByteArray) (x : X) (h : x.wf s) (hs : s.size <= 1000000) : Da (x.t s, ((), ())) = some ((Ad3 s.size x).t s, ((), ())) := by
 simp only [Da, Sz, Avm, Zk s x h hs gL A9s, Option.bind_some, Aev, Ai0, Ab, Atd]
 unfold Ad3
 by_cases c : Ia gL x.rest = 0
 ·rw [if_pos c, if_pos c, c, Arz]
  have := Avr s x 2
  rw [this]; rfl
 ·rw [if_neg c, if_neg c]
def Aqg (x : X) : Option Int := (Eo (Ia gL x.rest) x).end
theorem A7b (s : ByteArray) (x : X) (h : x.wf s) (hs : s.size <= 1000000) : D1 (x.t s, ((), ())) = some ((Eo (Ia gL x.rest) x).t s, ((Aqg x, ()), ((), ()))) := by
 have he := Ag1 s (Eo (Ia gL x.rest) x) (U0 h _)
 simp only [X.p] at he
 simp only [D1, Tv, Avm, Zk s x h hs gL A9s, Option.bind_some, X.t, he]; rfl
def A0h (x : Int) : Int := if 65 <= x /\ x <= 90 then x + 32 else x
def A0y (x : Int) : Int := if x <= 57 then x - 48 else if x <= 70 then x - 55 else x - 87
def A2r (l : List Int) : Int := l.foldl (fun n x => n * 16 + A0y x) 0
theorem Bhc (b : UInt8) : ((Lib.lowerB b).toNat : Int) = A0h (b.toNat : Int) := by
 have e : Lib.isUpperB b = true ↔ (65 <= b.toNat /\ b.toNat <= 90) := by
  simp [Lib.isUpperB, UInt8.le_iff_toNat_le]
 have hb := b.toNat_lt
 unfold Lib.lowerB A0h
 by_cases c : 65 <= b.toNat /\ b.toNat <= 90
 ·rw [if_pos (e.2 c), if_pos (by omega), UInt8.toNat_add, show (32 : UInt8).toNat = 32 from rfl]; omega
 ·rw [if_neg (fun q => c (e.1 q)), if_neg (by omega)]
theorem A5y (l : List Int) (ho : Iw l) (hl : l.length <= 1000000) (h : ∀ x ∈ l, x < 128) : Kv ((), ((Ao l, ()), ())) = some ((), ((Ao (l.map A0h), ()), ())) := by
 show Ug _ = _
 unfold Ug
 simp only
 have hb : bytesOf (Ao l) = l := I3 ho
 rw [if_pos]
 ·congr 4
  apply Arp
  rw [I3]
  ·unfold bytesOf at hb ⊢
   simp only [List.toList_toArray, Lib.toLowerA, List.map_map]
   conv => rhs; rw [<- hb]
   rw [List.map_map]
   exact List.map_congr_left fun b _ => Bhc b
  ·intro x hx
   obtain ⟨y, hy, rfl⟩ := List.mem_map.1 hx
   have := ho y hy
   have := h y hy
   unfold A0h
   split <;> omega
 ·refine ⟨by rw [Br]; omega, ?_⟩
  rw [List.all_eq_true]
  intro b hbm
  have : ((b.toNat : Int)) ∈ l := by
   rw [<- hb]; unfold bytesOf
   exact List.mem_map_of_mem (f := fun b : UInt8 => (b.toNat : Int)) hbm
  have := h _ this
  rw [decide_eq_true_eq]; omega
theorem A5c : ∀ c ∈ hxS, Eu ((), ((Ao hxS, ()), ((c, ()), ()))) = some ((), ((A0y c, ()), ())) := by
 intro c hc
 simp only [hxS, List.mem_cons, List.not_mem_nil, or_false] at hc
 rcases hc with rfl | rfl | rfl | rfl | rfl | rfl | rfl | rfl | rfl | rfl | rfl | rfl | rfl | rfl | rfl | rfl <;> kernel_rfl
theorem Axo : ∀ c ∈ hxS, 0 <= A0y c /\ A0y c < 16 := by decide
theorem Azx : ∀ c ∈ hxL, A0h c ∈ hxS /\ A0y (A0h c) = A0y c := by decide
theorem Bbt : ∀ c ∈ hxL, c < 128 := by decide
theorem A98 {n x : Int} (hn : 0 <= n) (h2 : n < 268435456) (h0 : 0 <= x) (h1 : x < 16) : ior .u32 (Au0 .u32 n 4) x = n * 16 + x := by
 obtain ⟨a, rfl⟩ := Int.eq_ofNat_of_zero_le hn
 obtain ⟨y, rfl⟩ := Int.eq_ofNat_of_zero_le h0
 have hy : y < 16 := by omega
 have ha : a < 268435456 := by omega
 have e1 : Au0 .u32 (a : Int) 4 = (a <<< 4 : Nat) := by
  unfold Au0
  rw [wrap_u32, show min (4 : Int).toNat (IntKind.bits .u32) = 4 from rfl, Nat.shiftLeft_eq]
  omega
 rw [e1]
 unfold ior
 have hlt : a <<< 4 < 2 ^ IntKind.bits .u32 := by rw [Nat.shiftLeft_eq]; simp only [IntKind.bits]; omega
 have e2 : (BitVec.ofInt (IntKind.bits .u32) ((a <<< 4 : Nat) : Int) ||| BitVec.ofInt (IntKind.bits .u32) (y : Int)).toNat = a <<< 4 + y := by
  rw [BitVec.toNat_or, BitVec.toNat_ofInt, BitVec.toNat_ofInt]
  have k1 : (((a <<< 4 : Nat) : Int) % ((2 ^ IntKind.bits .u32 : Nat) : Int)).toNat = a <<< 4 := by
   rw [<- Int.natCast_emod, Int.toNat_natCast, Nat.mod_eq_of_lt hlt]
  have k2 : ((y : Int) % ((2 ^ IntKind.bits .u32 : Nat) : Int)).toNat = y := by
   rw [<- Int.natCast_emod, Int.toNat_natCast, Nat.mod_eq_of_lt (by simp only [IntKind.bits]; omega)]
  rw [k1, k2, Nat.shiftLeft_add_eq_or_of_lt (by omega)]
 rw [e2, wrap_u32, Nat.shiftLeft_eq]
 omega
theorem Awu (l : List Int) (x : Int) : A2r (l ++ [x]) = A2r l * 16 + A0y x := by simp [A2r]
theorem Aj8 : ∀ (n : Nat) (l : List Int), l.length = n -> (∀ x ∈ l, x ∈ hxS) -> 0 <= A2r l /\ A2r l < 16 ^ n
 | 0, l, h, _ => by rw [List.eq_nil_of_length_eq_zero h]; decide
 | n + 1, l, h, hf => by
  have hne : l ≠ [] := by intro e; rw [e] at h; cases h
  rw [<- List.dropLast_concat_getLast hne, Awu]
  have h1 := Aj8 n l.dropLast (by rw [List.length_dropLast]; omega) (fun x hx => hf x (List.dropLast_subset l hx))
  have h2 := Axo _ (hf _ (List.getLast_mem hne))
  rw [Int.pow_succ]
  omega
theorem Bdl (x : X) (s : ByteArray) (t : List Int) (ht : ∀ c ∈ t, c ∈ hxS) (hl : t.length <= 8) (ho : Iw t) : ∀ (k i : Nat), i + k = t.length ->
  Evn (fun f => (Dk f).1 (x.t s, ((), ((Ao t, ()), ((A2r (t.take i), ()), (((t.length : Int), ()), (((i : Int), ()), ()))))))) (x.t s, ((A2r t, ()), ((), ()))) := by
 intro k
 induction k with
 | zero =>
  intro i hi
  refine Evn.some 1 fun f => ?_
  simp only [Uu, Hk, X.t, Ae, Option.bind_some, Option.isNone_none, Option.isNone_some, Option.isSome_none, Option.isSome_some, Bool.not_true, Bool.not_false, cond_true, cond_false, Ab, Al, Ak, Ai]
  rw [if_neg (by omega), List.take_of_length_le (by omega)]
 | succ k ih =>
  intro i hi
  refine (ih (i + 1) (by omega)).step fun f => ?_
  have hb := Axy (Ao t) (i := (i : Int)) (by omega) (by rw [Br]; omega)
  rw [I3 ho, Int.toNat_natCast] at hb
  have hmem : t.getD i 0 ∈ t := by
   rw [List.getD_eq_getElem?_getD, List.getElem?_eq_getElem (by omega)]; exact List.getElem_mem _
  have hc := ht _ hmem
  have hr := Aj8 i (t.take i) (by rw [List.length_take]; omega) (fun x hx => ht x (List.mem_of_mem_take hx))
  have hd := Axo _ hc
  have hp : (16 : Int) ^ i <= 16 ^ 7 := by
   have : 16 ^ i <= 16 ^ 7 := Nat.pow_le_pow_right (by omega) (by omega)
   exact_mod_cast this
  have e1 : A2r (t.take (i + 1)) = A2r (t.take i) * 16 + A0y (t.getD i 0) := by
   rw [List.take_add_one, <- Awu]
   congr 2
   rw [List.getD_eq_getElem?_getD, List.getElem?_eq_getElem (by omega)]; rfl
  have e2 : Ef .u32 (A0y (t.getD i 0)) = A0y (t.getD i 0) := by rw [Api]; omega
  simp only [Uu, Hk, X.t, Ae, Option.bind_some, Option.isNone_none, Option.isNone_some, Option.isSome_none, Option.isSome_some, Bool.not_true, Bool.not_false, cond_true, cond_false, Ab, Al, Ak, Ai, Br, A4, hb, Bbb, A5c _ hc, e2]
  rw [if_pos (by omega), if_pos (by omega), A98 hr.1 (by omega) hd.1 hd.2, <- e1, Aq (by omega)]; rfl
def wdY (n : Nat) (x : X) : X × Int :=
 if Ia hxL x.rest = 0 \/ 8 < Ia hxL x.rest then (A3y n 2 (Eo (Ia hxL x.rest) x), 0) else (Eo (Ia hxL x.rest) x, A2r (x.rest.take (Ia hxL x.rest)))
theorem Ave {s : ByteArray} {x : X} (h : x.wf s) : (wdY s.size x).1.wf s := by
 unfold wdY
 split
 ·exact A0l (U0 h _) 2
 ·exact U0 h _
theorem A5z {S l : List Int} : ∀ c ∈ l.take (Ia S l), c ∈ S := by
 intro c hc
 obtain ⟨i, hi, rfl⟩ := List.getElem_of_mem hc
 have hl := Ai5 S l
 rw [List.length_take] at hi
 have := Azi (S := S) (l := l) (i := i) (by omega)
 rw [List.getElem_take]
 rwa [List.getD_eq_getElem?_getD, List.getElem?_eq_getElem (by omega)] at this
theorem A05 : ∀ {l : List Int}, (∀ c ∈ l, c ∈ hxL) -> A2r (l.map A0h) = A2r l := by
 intro l h
 unfold A2r
 rw [List.foldl_map]
 have : ∀ (l : List Int) (n : Int), (∀ c ∈ l, c ∈ hxL) -> l.foldl (fun n x => n * 16 + A0y (A0h x)) n = l.foldl (fun n x => n * 16 + A0y x) n := by
  intro l
  induction l with
  | nil => intro n _; rfl
  | cons a l ih =>
   intro n h
   simp only [List.foldl_cons]
   rw [(Azx a (h a (List.mem_cons_self ..))).2]
   exact ih _ fun c hc => h c (List.mem_cons_of_mem _ hc)
 exact this l 0 h
theorem Agt (s : ByteArray) (x : X) (h : x.wf s) (hs : s.size <= 1000000) : J4 (x.t s, ((), ())) = some ((wdY s.size x).1.t s, (((wdY s.size x).2, ()), ((), ()))) := by
 have hr := X.ok_rest h
 have hl := Ai5 hxL x.rest
 have hm : ∀ c ∈ x.rest.take (Ia hxL x.rest), c ∈ hxL := A5z
 have hlen : (x.rest.take (Ia hxL x.rest)).length = Ia hxL x.rest := by rw [List.length_take]; omega
 have hlow := A5y (x.rest.take (Ia hxL x.rest)) (Am2 hr.1 _) (by omega) (fun c hc => Bbt c (hm c hc))
 have hmap : (x.rest.take (Ia hxL x.rest)).map A0h = [] ↔ Ia hxL x.rest = 0 := by rw [List.map_eq_nil_iff, Atd]
 have hml : ((x.rest.take (Ia hxL x.rest)).map A0h).length = Ia hxL x.rest := by rw [List.length_map, hlen]
 have hf := Avr s (Eo (Ia hxL x.rest) x) 2
 unfold wdY
 by_cases c0 : Ia hxL x.rest = 0
 ·rw [if_pos (.inl c0)]
  refine (Evn.const fun f => ?_).lim
  simp only [Ft, A5n, Zk s x h hs hxL A4j, Option.bind_some, hlow, Aev, Ai0, Ab, hmap]
  rw [if_pos c0, hf]; rfl
 ·by_cases c8 : 8 < Ia hxL x.rest
  ·rw [if_pos (.inr c8)]
   refine (Evn.const fun f => ?_).lim
   simp only [Ft, A5n, Zk s x h hs hxL A4j, Option.bind_some, hlow, Aev, Ai0, Ab, hmap, Br, hml, gt_iff_lt]
   rw [if_neg c0, if_pos (by omega), hf]; rfl
  ·rw [if_neg (by omega)]
   have hS : ∀ c ∈ (x.rest.take (Ia hxL x.rest)).map A0h, c ∈ hxS := by
    intro c hc
    obtain ⟨y, hy, rfl⟩ := List.mem_map.1 hc
    exact (Azx y (hm y hy)).1
   have hoS : Iw ((x.rest.take (Ia hxL x.rest)).map A0h) := fun c hc => by
    have : ∀ c ∈ hxS, 0 <= c /\ c < 256 := by decide
    exact this c (hS c hc)
   have hw := Bdl (Eo (Ia hxL x.rest) x) s ((x.rest.take (Ia hxL x.rest)).map A0h) hS (by omega) hoS _ 0 (Nat.zero_add _)
   rw [A05 hm] at hw
   refine (hw.cast fun f => ?_).lim
   simp only [Ft, A5n, Zk s x h hs hxL A4j, Option.bind_some, hlow, Aev, Ai0, Ab, hmap, Br, hml, gt_iff_lt]
   rw [if_neg c0, if_neg (by omega)]; rfl
set_option maxRecDepth 4000
def Vn : List Int -> List Int -> List (List Int)
 | cur, [] => [cur]
 | cur, x :: l => if x = 10 then cur :: Vn [] l else Vn (cur ++ [x]) l
theorem Are : ∀ (l cur : List Int), 10 ∉ l -> Vn cur l = [cur ++ l]
 | [], cur, _ => by rw [Vn, List.append_nil]
 | x :: l, cur, h => by
  rw [Vn, if_neg (fun q => h (by rw [q]; simp)), Are l _ (fun q => h (by simp [q])), List.append_assoc]; rfl
theorem Au8 : ∀ (a cur b : List Int), 10 ∉ a -> Vn cur (a ++ 10 :: b) = (cur ++ a) :: Vn [] b
 | [], cur, b, _ => by rw [List.nil_append, Vn, if_pos rfl, List.append_nil]
 | x :: a, cur, b, h => by
  rw [List.cons_append, Vn, if_neg (fun q => h (by rw [q]; simp)), Au8 a _ b (fun q => h (by simp [q])), List.append_assoc]; rfl
theorem A26 : ∀ (n : Nat) (s : ByteArray), s.size <= n -> Lib.splitB ⟨#[10]⟩ 0 (Lib.countB s ⟨#[10]⟩) s = (Vn [] (bytesOf s)).map Ao := by
 intro n
 induction n with
 | zero =>
  intro s hs
  have hb : bytesOf s = [] := List.eq_nil_of_length_eq_zero (by rw [Va]; omega)
  have hm : Lib.indexB s ⟨#[10]⟩ = -1 := by
   rw [show Lib.indexB s ⟨#[10]⟩ = Lib.index s.data.toList [10] from rfl, Lib.index_one]
   have : s.data.toList = [] := by
    unfold bytesOf at hb
    exact List.map_eq_nil_iff.1 hb
   rw [this]; rfl
  rw [Lib.countB_miss s _ hm, Lib.splitB_zero, hb, Vn, <- hb]
  simp [A7d]
 | succ n ih =>
  intro s hs
  have hi : Lib.indexB s ⟨#[10]⟩ = Lib.indexByte s.data.toList 10 := by
   rw [show Lib.indexB s ⟨#[10]⟩ = Lib.index s.data.toList [10] from rfl, Lib.index_one]
  have conv : ∀ k : Nat, (bytesOf s)[k]? = some 10 ↔ s.data.toList[k]? = some 10 := fun k => by
   unfold bytesOf
   rw [List.getElem?_map]
   cases s.data.toList[k]? with
   | none => simp
   | some b =>
    simp only [Option.map_some, Option.some.injEq]
    constructor
    ·intro q; exact UInt8.toNat_inj.1 (by show b.toNat = 10; omega)
    ·rintro rfl; rfl
  rcases Lib.indexB_cases s ⟨#[10]⟩ with hm | ⟨i, hm, hr⟩
  ·have hn : 10 ∉ bytesOf s := fun q => by
    obtain ⟨k, hk⟩ := List.getElem?_of_mem q
    exact Lib.indexByte_none (hi ▸ hm) k ((conv k).1 hk)
   rw [Lib.countB_miss s _ hm, Lib.splitB_zero, Are _ _ hn, List.nil_append]
   simp [A7d]
  ·rw [show (⟨#[10]⟩ : ByteArray).size = 1 from rfl] at hr
   obtain ⟨h1, h2⟩ := Lib.indexByte_some (hi ▸ hm)
   have hl := Va s
   have h3 := (conv i).2 h1
   have hlt : i < (bytesOf s).length := by omega
   have e : bytesOf s = (bytesOf s).take i ++ 10 :: (bytesOf s).drop (i + 1) := by
    conv => lhs; rw [<- List.take_append_drop i (bytesOf s)]
    congr 1
    rw [List.drop_eq_getElem_cons hlt]
    congr 1
    rw [List.getElem?_eq_getElem hlt] at h3
    exact Option.some.inj h3
   have hn : 10 ∉ (bytesOf s).take i := fun q => by
    obtain ⟨k, hk⟩ := List.getElem?_of_mem q
    have hki : k < i := by
     have := (List.getElem?_eq_some_iff.1 hk).1
     rw [List.length_take] at this; omega
    rw [List.getElem?_take_of_lt hki] at hk
    exact h2 k hki ((conv k).1 hk)
   have hsz : (s.extract (i + 1) s.size).size <= n := by rw [ByteArray.size_extract]; omega
   have hb := Asd s (i + 1) s.size
   rw [<- hl, List.take_length] at hb
   rw [Lib.countB_hit s _ i (by decide) hm, Nat.add_comm, Lib.splitB_hit _ 0 _ s i hm, show (⟨#[10]⟩ : ByteArray).size = 1 from rfl, ih _ hsz]
   conv => rhs; rw [e, Au8 _ _ _ hn, List.nil_append, List.map_cons]
   rw [<- hl, hb]
   congr 1
   have h0 := Asd s 0 (i + 0)
   rw [Nat.add_zero, List.drop_zero] at h0
   rw [Nat.add_zero, <- A7d (s.extract 0 i), h0]
theorem A27 (s : ByteArray) (hs : s.size <= 1000000) : Nx ((), ((s, ()), (((⟨#[10]⟩ : ByteArray), ()), ()))) = some ((), (((Vn [] (bytesOf s)).map Ao, ()), ())) := by
 show Abq _ = _
 unfold Abq
 simp only
 rw [if_pos ⟨by omega, by decide⟩, A26 s.size s (Nat.le_refl _)]
theorem Ax5 (s p : ByteArray) : Ci ((), ((s, ()), ((p, ()), ()))) = some ((), ((decide ((bytesOf s).take p.size = bytesOf p), ()), ())) := by
 have hl := Va s
 have hp := Va p
 simp only [Ci, Gy, Ae, Option.bind_some, Option.isNone_none, Option.isNone_some, Option.isSome_none, Option.isSome_some, Bool.not_true, Bool.not_false, cond_true, cond_false, Ab, Al, Ak, Ai, A4, ge_iff_le]
 by_cases c : p.size <= s.size
 ·rw [if_pos (by omega), if_pos (by omega), A5d, Asd, Int.toNat_natCast]
  rfl
 ·rw [if_neg (by omega), decide_eq_false]
  intro q
  have := congrArg List.length q
  rw [List.length_take] at this; omega
theorem Ar5 (p : UInt8 -> Bool) : ∀ l : List UInt8, (∀ x ∈ l.dropWhile p, p x = true) -> ∀ x ∈ l, p x = true
 | [], _, x, hx => by cases hx
 | y :: l, h, x, hx => by
  rw [List.dropWhile_cons] at h
  cases hy : p y with
  | true =>
   rw [hy, if_pos rfl] at h
   rcases List.mem_cons.1 hx with rfl | hx
   ·exact hy
   ·exact Ar5 p l h x hx
  | false =>
   rw [hy, if_neg (by decide)] at h
   have := h y (by simp)
   rw [hy] at this; cases this
theorem Az8 (p : UInt8 -> Bool) : ∀ l : List UInt8, l.dropWhile p = [] ↔ ∀ x ∈ l, p x = true
 | [] => by simp
 | y :: l => by
  rw [List.dropWhile_cons]
  cases hy : p y with
  | true =>
   rw [if_pos rfl, Az8 p l]
   constructor
   ·intro h x hx
    rcases List.mem_cons.1 hx with rfl | hx
    ·exact hy
    ·exact h x hx
   ·intro h x hx; exact h x (by simp [hx])
  | false =>
   rw [if_neg (by decide)]
   constructor
   ·intro h; cases h
   ·intro h; have := h y (by simp); rw [hy] at this; cases this
theorem A6s (l cs : List UInt8) : Lib.trimS l cs = [] ↔ ∀ x ∈ l, cs.contains x = true := by
 unfold Lib.trimS Lib.trimLeftS Lib.trimRightS
 rw [Az8]
 constructor
 ·intro h x hx
  have := Ar5 (cs.contains ·) l.reverse (fun y hy => h y (List.mem_reverse.2 hy)) x (List.mem_reverse.2 hx)
  exact this
 ·intro h x hx
  exact h x (List.mem_reverse.1 ((List.dropWhile_sublist _).mem (List.mem_reverse.1 hx)))
theorem A2a (x : UInt8) : ([32, 9] : List UInt8).contains x = decide ((x.toNat : Int) ∈ gL) := by
 have key : ∀ n : Fin 256, ([32, 9] : List UInt8).contains (UInt8.ofNat n.val) = decide (n.val = 32 \/ n.val = 9) := by decide
 have := key ⟨x.toNat, x.toNat_lt⟩
 simp only [UInt8.ofNat_toNat] at this
 rw [this]
 congr 1
 simp only [gL, List.mem_cons, List.not_mem_nil, or_false]
 exact propext ⟨fun h => by omega, fun h => by omega⟩
theorem A7g (w : List Int) (hw : Iw w) (hl : w.length <= 1000000) : ∃ t : ByteArray, Qb ((), ((Ao w, ()), ((Ao gL, ()), ()))) = some ((), ((t, ()), ())) /\ ((t.toList == (Ao []).toList) = decide (∀ x ∈ w, x ∈ gL)) := by
 rw [<- Avm]
 refine ⟨⟨(Lib.trimS (Ao w).data.toList [32, 9]).toArray⟩, ?_, ?_⟩
 ·show Ag3 _ = _
  unfold Ag3
  simp only
  rw [if_pos ⟨by rw [Br]; omega, by decide, by decide⟩]
 ·rw [ByteArray.toList_eq, ByteArray.toList_eq]
  have e1 : (Lib.trimS (Ao w).data.toList [32, 9] = []) ↔ ∀ x ∈ w, x ∈ gL := by
   rw [A6s]
   have hb := I3 hw
   unfold bytesOf at hb
   constructor
   ·intro h x hx
    rw [<- hb] at hx
    obtain ⟨b, hb1, rfl⟩ := List.mem_map.1 hx
    have := h b hb1
    rw [A2a] at this
    exact of_decide_eq_true this
   ·intro h b hb1
    rw [A2a]
    refine decide_eq_true (h _ ?_)
    rw [<- hb]
    exact List.mem_map_of_mem hb1
  rw [show (Ao []).data.toList = [] from rfl, List.toList_toArray]
  by_cases c : ∀ x ∈ w, x ∈ gL
  ·rw [decide_eq_true c, e1.2 c]; rfl
  ·rw [decide_eq_false c]
   have := fun q => c (e1.1 q)
   cases hh : Lib.trimS (Ao w).data.toList [32, 9] with
   | nil => exact absurd hh this
   | cons _ _ => rfl
theorem Ajy (l p : List Int) (hl : Iw l) (hp : Iw p) : Dy ((), ((Ao l, ()), ((Ao p, ()), ()))) = some ((), ((decide (l.take p.length = p), ()), ())) := by
 simp only [Dy, Qv, Ax5, Option.bind_some, I3 hl, I3 hp, Br]
def A88 (l : List Int) : List Int := if l.getLast? = some 10 then l.dropLast else l
theorem A92 (l : List Int) (hl : Iw l) (hs : l.length <= 1000000) : Fs ((), ((Ao l, ()), ((Ao [10], ()), ()))) = some ((), ((Ao (A88 l), ()), ())) := by
 have hx : Cj ((), ((Ao l, ()), ((Ao [10], ()), ()))) = some ((), ((decide (l.getLast? = some 10), ()), ())) := by
  simp only [Cj, G0, Ae, Option.bind_some, Option.isNone_none, Option.isNone_some, Option.isSome_none, Option.isSome_some, Bool.not_true, Bool.not_false, cond_true, cond_false, Ab, Al, Ak, Ai, A4, ge_iff_le, Br, List.length_cons, List.length_nil, Ajz, List.take_length, Int.toNat_natCast]
  cases hc : l with
  | nil => simp
  | cons a t =>
   have hne : a :: t ≠ [] := by simp
   rw [<- hc] at hne ⊢
   have hpos : 0 < l.length := by rw [hc]; simp
   rw [if_pos (by omega), Bb (by omega), if_pos (by omega)]
   rw [show (((l.length : Int) - ((0 + 1 : Nat) : Int))).toNat = l.length - 1 by omega]
   rw [At3 _ _ (Ah9 hl _) (by intro x hx; rw [List.mem_singleton.1 hx]; decide)]
   have hd : l.drop (l.length - 1) = [l.getLast hne] := by
    rw [List.drop_eq_getElem_cons (by omega), List.drop_eq_nil_of_le (by omega), List.getLast_eq_getElem]
   rw [hd, List.getLast?_eq_some_getLast hne]
   simp
 simp only [Fs, Pc, Cx, Gq, hx, Ae, Option.bind_some, Option.isNone_none, Option.isNone_some, Option.isSome_none, Option.isSome_some, Bool.not_true, Bool.not_false, cond_true, cond_false, Ab, Al, Ak, Ai, A4, Br, List.length_cons, List.length_nil, Ajz, List.drop_zero, show (0 : Int).toNat = 0 from rfl]
 unfold A88
 by_cases c : l.getLast? = some 10
 ·rw [if_pos c, if_pos c]
  have hpos : 0 < l.length := by
   cases l with
   | nil => cases c
   | cons _ _ => simp
  rw [Bb (by omega), if_pos (by omega), show (((l.length : Int) - ((0 + 1 : Nat) : Int))).toNat = l.length - 1 by omega, <- List.dropLast_eq_take]
  rfl
 ·rw [if_neg c, if_neg c]; rfl
def R0 (y : Int) : Prop := y % 4 = 0 /\ (y % 100 ≠ 0 \/ y % 400 = 0)
instance (y : Int) : Decidable (R0 y) := by unfold R0; infer_instance
def Awx (y m : Int) : Int := if m = 2 then (if R0 y then 29 else 28) else if m = 4 \/ m = 6 \/ m = 9 \/ m = 11 then 30 else 31
def Aog (y : Int) : Int := if R0 y then 366 else 365
def Fv (y m d : Int) : Int :=
 if m <= 2 then 365 * (y - 1) + (y - 1) / 4 - (y - 1) / 100 + (y - 1) / 400 + (153 * (m + 9) + 2) / 5 + d - 1 - 719468
 else 365 * y + y / 4 - y / 100 + y / 400 + (153 * (m - 3) + 2) / 5 + d - 1 - 719468
theorem W8 (y m : Int) : 28 <= Awx y m /\ Awx y m <= 31 := by
 unfold Awx; split <;> (split <;> omega)
theorem As5 {a c : Int} : Int.tmod a c = 0 ↔ a % c = 0 :=
 ⟨fun h => Int.emod_eq_zero_of_dvd (Int.dvd_of_tmod_eq_zero h), fun h => Int.tmod_eq_zero_of_dvd (Int.dvd_of_emod_eq_zero h)⟩
theorem Ar1 (y : Int) : Nd ((), ((y, ()), ())) = some ((), ((decide (R0 y), ()), ())) := by
 simp only [Nd, Aem, Ae, Option.bind_some, Option.isNone_none, Option.isNone_some, Option.isSome_none, Option.isSome_some, Bool.not_true, Bool.not_false, cond_true, cond_false, Ab, Al, Ak, Ai, ne_eq, As5, R0]
 by_cases h1 : y % 4 = 0 <;> by_cases h2 : y % 100 = 0 <;> by_cases h3 : y % 400 = 0 <;> simp [h1, h2, h3]
 all_goals omega
theorem Ai2 (y : Int) : Kp ((), ((y, ()), ())) = some ((), ((Aog y, ()), ())) := by
 simp only [Kp, Ad5, Ae, Option.bind_some, Option.isNone_none, Option.isNone_some, Option.isSome_none, Option.isSome_some, Bool.not_true, Bool.not_false, cond_true, cond_false, Ab, Al, Ak, Ai, Ar1, Aog]
 split <;> rfl
theorem Apd (a c : Int) (hc : 0 < c) (h : -9223372036854775807 <= a /\ a <= 9223372036854775807) : Mz ((), ((a, ()), ((c, ()), ()))) = some ((), ((a / c, ()), ())) := by
 simp only [Mz, Ah8, Ae, Option.bind_some, Option.isNone_none, Option.isNone_some, Option.isSome_none, Option.isSome_some, Bool.not_true, Bool.not_false, cond_true, cond_false, Ab, Al, Ak, Ai]
 rw [if_neg (by omega), if_neg (by omega), A16 hc (by omega), A9h c hc]
 have hm : 0 <= a % c := Int.emod_nonneg _ (by omega)
 have hn : 0 <= (-a) % c := Int.emod_nonneg _ (by omega)
 by_cases h0 : 0 <= a
 ·rw [if_pos h0, if_pos h0, if_neg (by omega)]
 ·rw [if_neg h0, if_neg h0]
  have e1 := Int.mul_ediv_add_emod a c
  have e2 := Int.mul_ediv_add_emod (-a) c
  have l1 := Int.emod_lt_of_pos a hc
  have l2 := Int.emod_lt_of_pos (-a) hc
  have q0 : 0 <= (-a) / c := Int.ediv_nonneg (by omega) (by omega)
  have q1 : (-a) / c <= -a := Int.ediv_le_self _ (by omega)
  by_cases h1 : -(-a % c) < 0
  ·rw [if_pos h1, Bb (by omega)]
   have : a / c = -(-a / c) - 1 := ((Int.ediv_emod_unique (r := c - -a % c) hc).2 ⟨by rw [Int.mul_sub, Int.mul_neg]; omega, by omega, by omega⟩).1
   rw [this]
  ·rw [if_neg h1]
   have : a / c = -(-a / c) := ((Int.ediv_emod_unique (r := 0) hc).2 ⟨by rw [Int.mul_neg]; omega, by omega, by omega⟩).1
   rw [this]
theorem Arw (y m d : Int) (hy : -20000 <= y /\ y <= 20000) (hm : 1 <= m /\ m <= 12) (hd : 1 <= d /\ d <= 31) : M7 ((), ((y, ()), ((m, ()), ((d, ()), ())))) = some ((), ((Fv y m d, ()), ())) := by
 simp only [M7, Aet, Ae, Option.bind_some, Option.isNone_none, Option.isNone_some, Option.isSome_none, Option.isSome_some, Bool.not_true, Bool.not_false, cond_true, cond_false, Ab, Al, Ak, Ai, Fv]
 by_cases h : m <= 2
 ·rw [if_pos h, if_pos h]
  simp (disch := omega) only [Apd, Option.bind_some, Bb, Aq, Gs, Ss]
  rw [show y - 1 - (y - 1) / 400 * 400 = (y - 1) % 400 by omega]
  congr 4
  omega
 ·rw [if_neg h, if_neg h]
  simp (disch := omega) only [Apd, Option.bind_some, Bb, Aq, Gs, Ss]
  rw [show y - y / 400 * 400 = y % 400 by omega]
  congr 4
  omega
theorem Ah0 : M3 ((), ()) = some ((), ((-4371587, ()), ())) := by
 simp only [M3, Ahh, Arw (-9999) 1 1 (by omega) (by omega) (by omega)]; rfl
theorem Amy : P8 ((), ()) = some ((), ((2932896, ()), ())) := by
 simp only [P8, Akk, Arw 9999 12 31 (by omega) (by omega) (by omega)]; rfl
structure RS where
 up : Option Int
 ex : Option Int
 dg : Option (Int × (Int × (Int × (Int × Int))))
 rows : List (Int × Int)
@[reducible] def RS.t (r : RS) : ((Option Int) × ((Option Int) × ((Option (Int × (Int × (Int × (Int × Int))))) × Unit))) × ((List (Int × Int)) × Unit) := ((r.up, (r.ex, (r.dg, ()))), (r.rows, ()))
def Avu (l : List Int) : Int × Option Int :=
 ((Apx l.length 1 13 (Ad3 l.length (.good l))).2, Aqg (Apx l.length 1 13 (Ad3 l.length (.good l))).1)
theorem A84 (l : List Int) (hl : Iw l) (hs : l.length <= 1000000) : ∃ y z : X, Da ((X.good l).t (Ao l), ((), ())) = some (y.t (Ao l), ((), ())) /\
  Ax (y.t (Ao l), ((), (((1 : Int), ()), (((13 : Int), ()), ())))) = some (z.t (Ao l), (((Avu l).1, ()), ((), ()))) /\
  D1 (z.t (Ao l), ((), ())) = some ((Eo (Ia gL z.rest) z).t (Ao l), (((Avu l).2, ()), ((), ()))) := by
 have hz : (Ao l).size = l.length := Br l
 have w0 : X.wf (Ao l) (.good l) := ⟨[], by rw [I3 hl]; rfl⟩
 have w1 := Ae6 w0
 have h1 := Agi (Ao l) (.good l) w0 (by omega)
 have h2 := Ab8 (Ao l) _ w1 (by omega) 1 13 (by omega)
 have h3 := A7b (Ao l) _ (Azy w1 1 13) (by omega)
 rw [hz] at h1 h2 h3
 exact ⟨_, _, h1, h2, h3⟩
theorem Auz (l : List Int) (hl : Iw l) : C9 ((), ((Ao l, ()), ())) = some ((X.good l).t (Ao l), ((), ())) := by
 rw [Bao, I3 hl]
def Uq (n : Nat) : Nat -> X -> X × List Int
 | 0, x => (x, [])
 | k + 1, x => ((Uq n k (wdY n (Ad3 n x)).1).1, (wdY n (Ad3 n x)).2 :: (Uq n k (wdY n (Ad3 n x)).1).2)
@[reducible] def Bev (l : List Int) : Int × (Int × (Int × (Int × Int))) := (l.getD 0 0, (l.getD 1 0, (l.getD 2 0, (l.getD 3 0, l.getD 4 0))))
def Bgp (l : List Int) : List Int × Option Int := ((Uq l.length 5 (.good l)).2, Aqg (Uq l.length 5 (.good l)).1)
def A3h (r : RS) (l : List Int) : RS × Option Int :=
 match (Bgp l).2 with
 | some c => (r, some c)
 | none => if r.dg.isSome then (r, some 2) else ({ r with dg := some (Bev (Bgp l).1) }, none)
theorem Bdx (r : RS) (s : ByteArray) (hs : s.size <= 1000000) (x : X) (h : x.wf s) (a b c d e : Int) : Evn (fun f => (Av f).1 (((r.up, (r.ex, (r.dg, ()))), (r.rows, ((s, (x.at s.size, (x.er, ()))), ((a, (b, (c, (d, (e, ()))))), ())))), ((), ((), ((), ((5, ()), ()))))))
  (((match Aqg x with | some c => r | none => if r.dg.isSome then r else { r with dg := some (a, (b, (c, (d, e)))) }).t, (((match Aqg x with | some c => some c | none => if r.dg.isSome then some 2 else none), ()), ((), ())))) := by
 have he := A7b s x h hs
 simp only [X.t] at he
 refine Evn.some 1 fun f => ?_
 simp only [C6, Bo, he, Ae, Option.bind_some, Option.isNone_none, Option.isNone_some, Option.isSome_none, Option.isSome_some, Bool.not_true, Bool.not_false, cond_true, cond_false, Ab, Al, Ak, Ai]
 rw [if_neg (by decide)]
 cases Aqg x with
 | some c => rfl
 | none =>
  simp only [Option.isNone_none, Bool.not_true, cond_false]
  cases hd : r.dg with
  | some _ => simp [hd]
  | none => simp
theorem Bgw (r : RS) (s : ByteArray) (hs : s.size <= 1000000) (x : X) (h : x.wf s) (a b c d e : Int) : Evn (fun f => (Av f).1 (((r.up, (r.ex, (r.dg, ()))), (r.rows, ((s, (x.at s.size, (x.er, ()))), ((a, (b, (c, (d, (e, ()))))), ())))), ((), ((), ((), ((4, ()), ()))))))
  (((match Aqg (Uq s.size 1 x).1 with | some c => r | none => if r.dg.isSome then r else { r with dg := some (a, (b, (c, (d, (Uq s.size 1 x).2.getD 0 0)))) }).t, (((match Aqg (Uq s.size 1 x).1 with | some c => some c | none => if r.dg.isSome then some 2 else none), ()), ((), ())))) := by
 have hg := Agi s x h hs
 have w1 := Ae6 h
 have hw := Agt s _ w1 hs
 simp only [X.t] at hg hw
 have hn := Bdx r s hs _ (Ave w1) a b c d ((wdY s.size (Ad3 s.size x)).2)
 have e : Uq s.size 1 x = ((wdY s.size (Ad3 s.size x)).1, [(wdY s.size (Ad3 s.size x)).2]) := rfl
 rw [e]
 simp only [List.getD_cons_zero, List.getD_cons_succ]
 refine hn.step fun f => ?_
 simp only [C6, Bo, hg, hw, Option.bind_some, cond_true, cond_false, Bool.and_self, decide_true, decide_false, show decide ((4 : Int) < 5) = true from rfl, show decide ((0 : Int) <= 4) = true from rfl, show decide ((4 : Int) = 0) = false from rfl, show decide ((4 : Int) = 1) = false from rfl, show decide ((4 : Int) = 2) = false from rfl, show decide ((4 : Int) = 3) = false from rfl, show decide ((4 : Int) = 4) = true from rfl, show Bm .i64 (4 : Int) 1 = 5 from rfl]
theorem Bg2 (r : RS) (s : ByteArray) (hs : s.size <= 1000000) (x : X) (h : x.wf s) (a b c d e : Int) : Evn (fun f => (Av f).1 (((r.up, (r.ex, (r.dg, ()))), (r.rows, ((s, (x.at s.size, (x.er, ()))), ((a, (b, (c, (d, (e, ()))))), ())))), ((), ((), ((), ((3, ()), ()))))))
  (((match Aqg (Uq s.size 2 x).1 with | some c => r | none => if r.dg.isSome then r else { r with dg := some (a, (b, (c, ((Uq s.size 2 x).2.getD 0 0, (Uq s.size 2 x).2.getD 1 0)))) }).t, (((match Aqg (Uq s.size 2 x).1 with | some c => some c | none => if r.dg.isSome then some 2 else none), ()), ((), ())))) := by
 have hg := Agi s x h hs
 have w1 := Ae6 h
 have hw := Agt s _ w1 hs
 simp only [X.t] at hg hw
 have hn := Bgw r s hs _ (Ave w1) a b c ((wdY s.size (Ad3 s.size x)).2) e
 have e : Uq s.size 2 x = ((Uq s.size 1 (wdY s.size (Ad3 s.size x)).1).1, (wdY s.size (Ad3 s.size x)).2 :: (Uq s.size 1 (wdY s.size (Ad3 s.size x)).1).2) := rfl
 rw [e]
 simp only [List.getD_cons_zero, List.getD_cons_succ]
 refine hn.step fun f => ?_
 simp only [C6, Bo, hg, hw, Option.bind_some, cond_true, cond_false, Bool.and_self, decide_true, decide_false, show decide ((3 : Int) < 5) = true from rfl, show decide ((0 : Int) <= 3) = true from rfl, show decide ((3 : Int) = 0) = false from rfl, show decide ((3 : Int) = 1) = false from rfl, show decide ((3 : Int) = 2) = false from rfl, show decide ((3 : Int) = 3) = true from rfl, show Bm .i64 (3 : Int) 1 = 4 from rfl]
theorem Bgq (r : RS) (s : ByteArray) (hs : s.size <= 1000000) (x : X) (h : x.wf s) (a b c d e : Int) : Evn (fun f => (Av f).1 (((r.up, (r.ex, (r.dg, ()))), (r.rows, ((s, (x.at s.size, (x.er, ()))), ((a, (b, (c, (d, (e, ()))))), ())))), ((), ((), ((), ((2, ()), ()))))))
  (((match Aqg (Uq s.size 3 x).1 with | some c => r | none => if r.dg.isSome then r else { r with dg := some (a, (b, ((Uq s.size 3 x).2.getD 0 0, ((Uq s.size 3 x).2.getD 1 0, (Uq s.size 3 x).2.getD 2 0)))) }).t, (((match Aqg (Uq s.size 3 x).1 with | some c => some c | none => if r.dg.isSome then some 2 else none), ()), ((), ())))) := by
 have hg := Agi s x h hs
 have w1 := Ae6 h
 have hw := Agt s _ w1 hs
 simp only [X.t] at hg hw
 have hn := Bg2 r s hs _ (Ave w1) a b ((wdY s.size (Ad3 s.size x)).2) d e
 have e : Uq s.size 3 x = ((Uq s.size 2 (wdY s.size (Ad3 s.size x)).1).1, (wdY s.size (Ad3 s.size x)).2 :: (Uq s.size 2 (wdY s.size (Ad3 s.size x)).1).2) := rfl
 rw [e]
 simp only [List.getD_cons_zero, List.getD_cons_succ]
 refine hn.step fun f => ?_
 simp only [C6, Bo, hg, hw, Option.bind_some, cond_true, cond_false, Bool.and_self, decide_true, decide_false, show decide ((2 : Int) < 5) = true from rfl, show decide ((0 : Int) <= 2) = true from rfl, show decide ((2 : Int) = 0) = false from rfl, show decide ((2 : Int) = 1) = false from rfl, show decide ((2 : Int) = 2) = true from rfl, show Bm .i64 (2 : Int) 1 = 3 from rfl]
theorem Bgd (r : RS) (s : ByteArray) (hs : s.size <= 1000000) (x : X) (h : x.wf s) (a b c d e : Int) : Evn (fun f => (Av f).1 (((r.up, (r.ex, (r.dg, ()))), (r.rows, ((s, (x.at s.size, (x.er, ()))), ((a, (b, (c, (d, (e, ()))))), ())))), ((), ((), ((), ((1, ()), ()))))))
  (((match Aqg (Uq s.size 4 x).1 with | some c => r | none => if r.dg.isSome then r else { r with dg := some (a, ((Uq s.size 4 x).2.getD 0 0, ((Uq s.size 4 x).2.getD 1 0, ((Uq s.size 4 x).2.getD 2 0, (Uq s.size 4 x).2.getD 3 0)))) }).t, (((match Aqg (Uq s.size 4 x).1 with | some c => some c | none => if r.dg.isSome then some 2 else none), ()), ((), ())))) := by
 have hg := Agi s x h hs
 have w1 := Ae6 h
 have hw := Agt s _ w1 hs
 simp only [X.t] at hg hw
 have hn := Bgq r s hs _ (Ave w1) a ((wdY s.size (Ad3 s.size x)).2) c d e
 have e : Uq s.size 4 x = ((Uq s.size 3 (wdY s.size (Ad3 s.size x)).1).1, (wdY s.size (Ad3 s.size x)).2 :: (Uq s.size 3 (wdY s.size (Ad3 s.size x)).1).2) := rfl
 rw [e]
 simp only [List.getD_cons_zero, List.getD_cons_succ]
 refine hn.step fun f => ?_
 simp only [C6, Bo, hg, hw, Option.bind_some, cond_true, cond_false, Bool.and_self, decide_true, decide_false, show decide ((1 : Int) < 5) = true from rfl, show decide ((0 : Int) <= 1) = true from rfl, show decide ((1 : Int) = 0) = false from rfl, show decide ((1 : Int) = 1) = true from rfl, show Bm .i64 (1 : Int) 1 = 2 from rfl]
theorem Bgy (r : RS) (s : ByteArray) (hs : s.size <= 1000000) (x : X) (h : x.wf s) (a b c d e : Int) : Evn (fun f => (Av f).1 (((r.up, (r.ex, (r.dg, ()))), (r.rows, ((s, (x.at s.size, (x.er, ()))), ((a, (b, (c, (d, (e, ()))))), ())))), ((), ((), ((), ((0, ()), ()))))))
  (((match Aqg (Uq s.size 5 x).1 with | some c => r | none => if r.dg.isSome then r else { r with dg := some ((Uq s.size 5 x).2.getD 0 0, ((Uq s.size 5 x).2.getD 1 0, ((Uq s.size 5 x).2.getD 2 0, ((Uq s.size 5 x).2.getD 3 0, (Uq s.size 5 x).2.getD 4 0)))) }).t, (((match Aqg (Uq s.size 5 x).1 with | some c => some c | none => if r.dg.isSome then some 2 else none), ()), ((), ())))) := by
 have hg := Agi s x h hs
 have w1 := Ae6 h
 have hw := Agt s _ w1 hs
 simp only [X.t] at hg hw
 have hn := Bgd r s hs _ (Ave w1) ((wdY s.size (Ad3 s.size x)).2) b c d e
 have e : Uq s.size 5 x = ((Uq s.size 4 (wdY s.size (Ad3 s.size x)).1).1, (wdY s.size (Ad3 s.size x)).2 :: (Uq s.size 4 (wdY s.size (Ad3 s.size x)).1).2) := rfl
 rw [e]
 simp only [List.getD_cons_zero, List.getD_cons_succ]
 refine hn.step fun f => ?_
 simp only [C6, Bo, hg, hw, Option.bind_some, cond_true, cond_false, Bool.and_self, decide_true, decide_false, show decide ((0 : Int) < 5) = true from rfl, show decide ((0 : Int) <= 0) = true from rfl, show decide ((0 : Int) = 0) = true from rfl, show Bm .i64 (0 : Int) 1 = 1 from rfl]
theorem Bcj (r : RS) (l : List Int) (hl : Iw l) (hs : l.length <= 1000000) : Ff (r.t, ((), ((Ao l, ()), ()))) = some ((A3h r l).1.t, (((A3h r l).2, ()), ((), ()))) := by
 have hz : (Ao l).size = l.length := Br l
 have w0 : X.wf (Ao l) (.good l) := ⟨[], by rw [I3 hl]; rfl⟩
 have h := Bgy r (Ao l) (by omega) (.good l) w0 0 0 0 0 0
 rw [hz] at h
 have hn := Auz l hl
 simp only [X.t, hz] at hn
 unfold A3h Bgp
 generalize Uq l.length 5 (.good l) = p at h ⊢
 have e : (((match Aqg p.1 with | some c => r | none => if r.dg.isSome then r else { r with dg := some (Bev p.2) }).t, (((match Aqg p.1 with | some c => some c | none => if r.dg.isSome then some 2 else none), ()), ((), ())))) =
   (((match Aqg p.1 with | some c => ((r, some c) : RS × Option Int) | none => if r.dg.isSome then (r, some 2) else ({ r with dg := some (Bev p.2) }, none)).1.t, (((match Aqg p.1 with | some c => ((r, some c) : RS × Option Int) | none => if r.dg.isSome then (r, some 2) else ({ r with dg := some (Bev p.2) }, none)).2, ()), ((), ())))) := by
  cases Aqg p.1 with
  | some c => rfl
  | none =>
   simp only
   cases r.dg.isSome <;> rfl
 refine (Evn.cast (out := _) (e ▸ h) fun f => ?_).lim
 simp only [Hd, RS.t, hn, Option.bind_some]
theorem A76 : Ac4 ((), (((3 : Int), ()), (((0 : Int), ()), ()))) = some ((), ((-25567, ()), ((none, ()), ()))) := by
 have hz : Sn ((), (((3 : Int), ()), ())) = some ((), ((25567, ()), ((none, ()), ()))) := rfl
 simp only [Ac4, Ao1, hz, Ah0, Amy, Ae, Option.bind_some, Option.isNone_none, Option.isNone_some, Option.isSome_none, Option.isSome_some, Bool.not_true, Bool.not_false, cond_true, cond_false, Ab, Al, Ak, Ai]
 rw [Aq (by omega), Aq (by omega), Bb (by omega)]
 rfl
def A0n (n : Int) : Int × Option Int := if n % 86400 = 0 then (n / 86400 - 25567, none) else (0, some 1)
theorem A7l (n : Int) (h : 0 <= n /\ n < 10000000000000) : Fo ((), ((n, ()), ())) = some ((), (((A0n n).1, ()), (((A0n n).2, ()), ()))) := by
 have e1 : Int.tmod n 86400 = n % 86400 := Int.tmod_eq_emod_of_nonneg h.1
 have e2 : Nm .i64 n 86400 = n / 86400 := by
  unfold Nm
  rw [Int.tdiv_eq_ediv_of_nonneg h.1]
  exact IntWalk.i64_in _ (by omega)
 simp only [Fo, Vf, e1, e2, A76, Ae, Option.bind_some, Option.isNone_none, Option.isNone_some, Option.isSome_none, Option.isSome_some, Bool.not_true, Bool.not_false, cond_true, cond_false, Ab, Al, Ak, Ai]
 unfold A0n
 by_cases c : n % 86400 = 0
 ·rw [if_neg (not_not_intro c), if_pos c, Aq (by omega)]
  congr 4
  omega
 ·rw [if_pos c, if_neg c]
theorem Aua (s : ByteArray) (x : X) (h : x.wf s) (hs : s.size <= 1000000) : Cp (x.t s, ((), (((x.rest.length : Int), ()), ()))) = some ((Eo x.rest.length x).t s, ((), ())) := by
 have hg := Aju s x
 have hf := Am3 s x h
 have ht := Ag9 s x h hs x.rest.length (Nat.le_refl _)
 simp only [X.p] at hg hf
 simp only [X.t] at ht
 simp only [Cp, Ik, X.t, hg, hf, Ae, Option.bind_some, Option.isNone_none, Option.isNone_some, Option.isSome_none, Option.isSome_some, Bool.not_true, Bool.not_false, cond_true, cond_false, Ab, Al, Ak, Ai, gt_iff_lt, Int.lt_irrefl, ht]
 cases x with
 | good l =>
  simp only [X.er, Option.isNone_none, Bool.not_true, cond_false, Bool.false_eq_true, if_false, not_true_eq_false]
  rw [if_neg (by omega)]
 | bad i c => rfl
def Asy (x : X) : X :=
 if Ia gL x.rest = 0 then x else
  if Bec 35 (Eo (Ia gL x.rest) x) then Eo (Eo 1 (Eo (Ia gL x.rest) x)).rest.length (Eo 1 (Eo (Ia gL x.rest) x)) else Eo (Ia gL x.rest) x
def Bd5 (l : List Int) : X × (Int × Int) :=
 let n := l.length
 let a := Apx n 1 13 (Eo (Ia gL l) (.good l))
 let b := Apx n 1 4 (Ad3 n a.1)
 (Asy b.1, (a.2, b.2))
def A9z (l : List Int) : Option Int × List (Int × Int) :=
 match (Bd5 l).1.end with
 | some c => (some c, [])
 | none => match (A0n (Bd5 l).2.1).2 with
  | some c => (some c, [])
  | none => (none, [((A0n (Bd5 l).2.1).1, (Bd5 l).2.2)])
theorem Bdh (r : RS) (l : List Int) (hl : Iw l) (hs : l.length <= 1000000) (hr : r.rows.length <= 1000000) : D2 (r.t, ((), ((Ao l, ()), ()))) = some (({ r with rows := r.rows ++ (A9z l).2 } : RS).t, (((A9z l).1, ()), ((), ()))) := by
 have hz : (Ao l).size = l.length := Br l
 have w0 : X.wf (Ao l) (.good l) := ⟨[], by rw [I3 hl]; rfl⟩
 have hn := Auz l hl
 have h1 := Zk (Ao l) (.good l) w0 (by omega) gL A9s
 have w1 := U0 w0 (Ia gL l)
 have h2 := Ab8 (Ao l) _ w1 (by omega) 1 13 (by omega)
 have w2 := Azy w1 1 13
 have v2 := A1p l.length 1 13 (by omega) (Eo (Ia gL l) (.good l))
 have h3 := Agi (Ao l) _ w2 (by omega)
 have w3 := Ae6 w2
 have h4 := Ab8 (Ao l) _ w3 (by omega) 1 4 (by omega)
 have w4 := Azy w3 1 4
 rw [hz] at h2 h3 h4 w2 w3 w4
 have hrow : (Bd5 l) = (Asy (Apx l.length 1 4 (Ad3 l.length (Apx l.length 1 13 (Eo (Ia gL l) (.good l))).1)).1, ((Apx l.length 1 13 (Eo (Ia gL l) (.good l))).2, (Apx l.length 1 4 (Ad3 l.length (Apx l.length 1 13 (Eo (Ia gL l) (.good l))).1)).2)) := rfl
 generalize Apx l.length 1 13 (Eo (Ia gL l) (.good l)) = a at *
 generalize Apx l.length 1 4 (Ad3 l.length a.1) = b at *
 have h5 := Zk (Ao l) b.1 w4 (by omega) gL A9s
 have w5 := U0 w4 (Ia gL b.1.rest)
 have h6 := A67 (Ao l) _ w5 (by omega) 35
 have fin : ∀ z : X, z.wf (Ao l) -> z = Asy b.1 -> (Bl ((), ((z.p (Ao l), ()), ())) = some ((), ((z.end, ()), ()))) := fun z hz _ => Ag1 _ z hz
 have hday := A7l a.2 (by rw [show (10000000000000 : Int) = 10 ^ 13 from rfl]; exact v2)
 have he := Ai0 (b.1.rest.take (Ia gL b.1.rest))
 simp only [Atd] at he
 have room : ∀ x : Int × Int, decide (((r.rows.length + [x].length) * 16 : Nat) <= 140737488355328) = true /\ decide (r.rows.length + [x].length <= 9223372036854775807) = true := fun x => by
  simp only [List.length_cons, List.length_nil, decide_eq_true_eq]; omega
 have post : ∀ (o : Option Int) (x : Int × Int), o = (Bd5 l).1.end -> x = ((A0n a.2).1, b.2) -> (match o with
   | some c => (some (r.t, ((some c, ()), ((), ()))) : Option ((((Option Int) × ((Option Int) × ((Option (Int × (Int × (Int × (Int × Int))))) × Unit))) × ((List (Int × Int)) × Unit)) × (((Option Int) × Unit) × (Unit × Unit))))
   | none => match (A0n a.2).2 with
    | some c => some (r.t, ((some c, ()), ((), ())))
    | none => some (({ r with rows := r.rows ++ [x] } : RS).t, ((none, ()), ((), ())))) = some (({ r with rows := r.rows ++ (A9z l).2 } : RS).t, (((A9z l).1, ()), ((), ()))) := by
  intro o x ho hx
  subst hx
  unfold A9z
  rw [<- ho, hrow]
  cases o with
  | some c => simp
  | none =>
   simp only
   cases hq : (A0n a.2).2 with
   | some c => simp
   | none => simp
 have k1 : ((1 : Nat) : Int) = 1 := rfl
 have k13 : ((13 : Nat) : Int) = 13 := rfl
 have k4 : ((4 : Nat) : Int) = 4 := rfl
 rw [show (X.good l).rest = l from rfl] at h1
 rw [k1, k13] at h2
 rw [k1, k4] at h4
 simp only [X.t, hz] at hn h1 h2 h3 h4 h5 h6
 simp only [D2, Lf, Avm, RS.t, hn, h1, h2, h3, h4, h5, Option.bind_some, Aev, he, Ai, Ab]
 by_cases c0 : Ia gL b.1.rest = 0
 ·have ht : Asy b.1 = b.1 := by unfold Asy; rw [if_pos c0]
  have hend := Ag1 (Ao l) b.1 w4
  simp only [X.p, hz] at hend
  rw [if_neg (not_not_intro c0), c0, Arz]
  simp only [hend, hday, Option.bind_some]
  have hp := post b.1.end ((A0n a.2).1, b.2) (by rw [hrow, ht]) rfl
  cases hb : b.1.end with
  | some c => rw [hb] at hp; exact hp
  | none =>
   rw [hb] at hp
   cases hd : (A0n a.2).2 with
   | some c => rw [hd] at hp; simp only [Option.isNone_none, Option.isNone_some, Bool.not_true, Bool.not_false, cond_true, cond_false]; exact hp
   | none =>
    rw [hd] at hp
    simp only [Option.isNone_none, Bool.not_true, cond_false, (room _).1, (room _).2, Bool.and_self, cond_true]; exact hp
 ·rw [if_pos c0]
  simp only [h6, Option.bind_some]
  by_cases c1 : Bec 35 (Eo (Ia gL b.1.rest) b.1) = true
  ·have ht : Asy b.1 = Eo (Eo 1 (Eo (Ia gL b.1.rest) b.1)).rest.length (Eo 1 (Eo (Ia gL b.1.rest) b.1)) := by unfold Asy; rw [if_neg c0, if_pos c1]
   have w6 := U0 w5 1
   have hleft := Am3 (Ao l) _ w6
   have hskip := Aua (Ao l) _ w6 (by omega)
   have w7 := U0 w6 (Eo 1 (Eo (Ia gL b.1.rest) b.1)).rest.length
   have hend := Ag1 (Ao l) _ w7
   simp only [X.p, hz] at hleft hend
   simp only [X.t, hz] at hskip
   simp only [c1, if_true, cond_true, hleft, hskip, hend, hday, Option.bind_some]
   have hp := post _ ((A0n a.2).1, b.2) (show (Eo (Eo 1 (Eo (Ia gL b.1.rest) b.1)).rest.length (Eo 1 (Eo (Ia gL b.1.rest) b.1))).end = _ by rw [hrow, ht]) rfl
   cases hb : (Eo (Eo 1 (Eo (Ia gL b.1.rest) b.1)).rest.length (Eo 1 (Eo (Ia gL b.1.rest) b.1))).end with
   | some c => rw [hb] at hp; exact hp
   | none =>
    rw [hb] at hp
    cases hd : (A0n a.2).2 with
    | some c => rw [hd] at hp; simp only [Option.isNone_none, Option.isNone_some, Bool.not_true, Bool.not_false, cond_true, cond_false]; exact hp
    | none =>
     rw [hd] at hp
     simp only [Option.isNone_none, Bool.not_true, cond_false, (room _).1, (room _).2, Bool.and_self, cond_true]; exact hp
  ·have c1' : Bec 35 (Eo (Ia gL b.1.rest) b.1) = false := by simpa using c1
   have ht : Asy b.1 = Eo (Ia gL b.1.rest) b.1 := by unfold Asy; rw [if_neg c0, if_neg c1]
   have hend := Ag1 (Ao l) _ w5
   simp only [X.p, hz] at hend
   simp only [c1', Bool.false_eq_true, if_false, cond_false, hend, hday, Option.bind_some]
   have hp := post _ ((A0n a.2).1, b.2) (show (Eo (Ia gL b.1.rest) b.1).end = _ by rw [hrow, ht]) rfl
   cases hb : (Eo (Ia gL b.1.rest) b.1).end with
   | some c => rw [hb] at hp; exact hp
   | none =>
    rw [hb] at hp
    cases hd : (A0n a.2).2 with
    | some c => rw [hd] at hp; simp only [Option.isNone_none, Option.isNone_some, Bool.not_true, Bool.not_false, cond_true, cond_false]; exact hp
    | none =>
     rw [hd] at hp
     simp only [Option.isNone_none, Bool.not_true, cond_false, (room _).1, (room _).2, Bool.and_self, cond_true]; exact hp
def Alw (r : RS) (l : List Int) : RS × Option Int :=
 if ∀ x ∈ l, x ∈ gL then (r, none)
 else if l.take 2 = [35, 36] then (match (Avu (l.drop 2)).2 with
  | some c => (r, some c)
  | none => if r.up.isSome then (r, some 2) else ({ r with up := some (Avu (l.drop 2)).1 }, none))
 else if l.take 2 = [35, 64] then (match (Avu (l.drop 2)).2 with
  | some c => (r, some c)
  | none => if r.ex.isSome then (r, some 2) else ({ r with ex := some (Avu (l.drop 2)).1 }, none))
 else if l.take 2 = [35, 104] then A3h r (l.drop 2)
 else if l.head? = some 35 then (r, none)
 else ({ r with rows := r.rows ++ (A9z l).2 }, (A9z l).1)
theorem Bfs : (⟨#[35, 36]⟩ : ByteArray) = Ao [35, 36] := by kernel_rfl
theorem Bed : (⟨#[35, 64]⟩ : ByteArray) = Ao [35, 64] := by kernel_rfl
theorem A6c : (⟨#[35, 104]⟩ : ByteArray) = Ao [35, 104] := by kernel_rfl
theorem Azc {l : List Int} {a b : Int} (h : l.take 2 = [a, b]) : 2 <= l.length := by
 have := congrArg List.length h
 rw [List.length_take] at this
 simp only [List.length_cons, List.length_nil] at this
 omega
theorem A90 (r : RS) (l : List Int) (hl : Iw l) (hs : l.length <= 1000000) (hr : r.rows.length <= 1000000) : Do (r.t, ((), ((Ao l, ()), ()))) = some ((Alw r l).1.t, (((Alw r l).2, ()), ((), ()))) := by
 obtain ⟨t, ht1, ht2⟩ := A7g l hl hs
 have p1 := Ajy l [35, 36] hl (by unfold Iw; decide)
 have p2 := Ajy l [35, 64] hl (by unfold Iw; decide)
 have p3 := Ajy l [35, 104] hl (by unfold Iw; decide)
 simp only [List.length_cons, List.length_nil, Nat.zero_add, Nat.reduceAdd] at p1 p2 p3
 have hd := Ah9 hl 2
 have hdl : (l.drop 2).length <= 1000000 := by rw [List.length_drop]; omega
 have hn := Auz (l.drop 2) hd
 obtain ⟨y, z, q1, q2, q3⟩ := A84 (l.drop 2) hd hdl
 have hsum := Bcj r (l.drop 2) hd hdl
 have hrow := Bdh r l hl hs hr
 simp only [X.t, Br] at hn q1 q2 q3
 simp only [RS.t] at hsum hrow
 have cut : (Ao l).extract (Int.toNat 2) (Int.toNat (l.length : Int)) = Ao (l.drop 2) := by
  rw [Ajz, Int.toNat_natCast, List.take_length]; rfl
 simp only [Do, Km, Avm, Bfs, Bed, A6c, Aev, RS.t, ht1, ht2, Option.bind_some, Ab, p1, p2, p3, Br, A4, cut, hn, q1, q2, q3]
 unfold Alw
 by_cases c0 : ∀ x ∈ l, x ∈ gL
 ·rw [if_pos c0, if_pos c0]
 rw [if_neg c0, if_neg c0]
 by_cases c1 : l.take 2 = [35, 36]
 ·have := Azc c1
  rw [if_pos c1, if_pos c1, if_pos (by omega)]
  cases (Avu (l.drop 2)).2 with
  | some c => rfl
  | none =>
   simp only [Option.isNone_none, Bool.not_true, cond_false]
   cases hu : r.up with
   | some v => simp [hu]
   | none => simp
 rw [if_neg c1, if_neg c1]
 by_cases c2 : l.take 2 = [35, 64]
 ·have := Azc c2
  rw [if_pos c2, if_pos c2, if_pos (by omega)]
  cases (Avu (l.drop 2)).2 with
  | some c => rfl
  | none =>
   simp only [Option.isNone_none, Bool.not_true, cond_false]
   cases hu : r.ex with
   | some v => simp [hu]
   | none => simp
 rw [if_neg c2, if_neg c2]
 by_cases c3 : l.take 2 = [35, 104]
 ·have := Azc c3
  rw [if_pos c3, if_pos c3, if_pos (by omega), hsum]; rfl
 rw [if_neg c3, if_neg c3]
 have hne : l ≠ [] := fun e => c0 (by rw [e]; intro x hx; cases hx)
 have hpos : 0 < l.length := List.length_pos_iff.2 hne
 have hb := Axy (Ao l) (i := 0) (by omega) (by rw [Br]; omega)
 rw [I3 hl] at hb
 rw [if_pos (by omega), hb]
 cases l with
 | nil => exact absurd rfl hne
 | cons a t =>
  simp only [show (0 : Int).toNat = 0 from rfl, List.getD_cons_zero, List.head?_cons, Option.some.injEq, Al, Ab]
  by_cases c4 : a = 35
  ·rw [if_pos c4, if_pos c4]
  ·rw [if_neg c4, if_neg c4, hrow]; rfl
theorem A35 (r : RS) (l : List Int) : (Alw r l).1.rows.length <= r.rows.length + 1 := by
 unfold Alw A3h
 have hq : (A9z l).2.length <= 1 := by
  unfold A9z
  split
  ·simp
  ·split <;> simp
 repeat' split
 all_goals simp only [List.length_append]
 all_goals omega
def Au2 (r : RS) (i : Nat) : List (List Int) -> RS × (Int × Option Int)
 | [] => (r, (0, none))
 | l :: rest => match (Alw r l).2 with
  | some c => ((Alw r l).1, ((i : Int) + 1, some c))
  | none => Au2 (Alw r l).1 (i + 1) rest
theorem Bca (L : List (List Int)) (hL : ∀ l ∈ L, Iw l /\ l.length <= 1000000) (hn : L.length <= 500000) : ∀ (k i : Nat) (r : RS), i + k = L.length -> r.rows.length <= i ->
  Evn (fun f => (By f).1 (r.t, ((), ((L.map Ao, ()), (((L.length : Int), ()), (((i : Int), ()), ())))))) ((Au2 r i (L.drop i)).1.t, (((Au2 r i (L.drop i)).2.1, ()), (((Au2 r i (L.drop i)).2.2, ()), ((), ())))) := by
 intro k
 induction k with
 | zero =>
  intro i r hi hr
  refine Evn.some 1 fun f => ?_
  rw [List.drop_eq_nil_of_le (by omega)]
  simp only [H1, Cy, RS.t, Ab]
  rw [if_neg (by omega)]; rfl
 | succ k ih =>
  intro i r hi hr
  have hlt : i < L.length := by omega
  have hmem := hL _ (List.getElem_mem hlt)
  have hline := A90 r L[i] hmem.1 hmem.2 (by omega)
  have hrows := A35 r L[i]
  have hg : gd .str (L.map Ao) (i : Int) = Ao L[i] := by
   unfold gd
   rw [Int.toNat_natCast, List.getD_eq_getElem?_getD, List.getElem?_map, List.getElem?_eq_getElem hlt]; rfl
  rw [List.drop_eq_getElem_cons hlt]
  simp only [RS.t] at hline
  unfold Au2
  cases hq : (Alw r L[i]).2 with
  | some c =>
   refine Evn.some 1 fun f => ?_
   simp only [H1, Cy, RS.t, Ab, A4, hg, hline, hq, Option.bind_some, List.length_map]
   rw [if_pos (by omega), if_pos (by omega), Aq (by omega)]; rfl
  | none =>
   refine (ih (i + 1) (Alw r L[i]).1 (by omega) (by omega)).step fun f => ?_
   simp only [H1, Cy, RS.t, Ab, A4, hg, hline, hq, Option.bind_some, List.length_map]
   rw [if_pos (by omega), if_pos (by omega), Aq (by omega)]; rfl
def Acn (l : List Int) : RS × (Int × Option Int) := if 65535 < l.length then (⟨none, none, none, []⟩, (0, some 3)) else Au2 ⟨none, none, none, []⟩ 0 (Vn [] (A88 l))
theorem Att : ∀ {l cur : List Int}, Iw l -> Iw cur -> ∀ x ∈ Vn cur l, Iw x
 | [], cur, _, hc, x, hx => by
  rw [Vn] at hx
  rw [List.mem_singleton.1 hx]; exact hc
 | a :: l, cur, hl, hc, x, hx => by
  rw [Vn] at hx
  have hl' : Iw l := fun y hy => hl y (List.mem_cons_of_mem _ hy)
  split at hx
  ·rcases List.mem_cons.1 hx with rfl | hx
   ·exact hc
   ·exact Att hl' (fun y hy => by cases hy) x hx
  ·exact Att hl' (R7 hc (fun y hy => by rw [List.mem_singleton.1 hy]; exact hl a (List.mem_cons_self ..))) x hx
theorem Ao5 : ∀ (l cur : List Int), (∀ x ∈ Vn cur l, x.length <= cur.length + l.length) /\ (Vn cur l).length <= l.length + 1
 | [], cur => by
  rw [Vn]
  exact ⟨fun x hx => by rw [List.mem_singleton.1 hx]; simp, by simp⟩
 | a :: l, cur => by
  rw [Vn]
  split
  ·have := Ao5 l []
   refine ⟨fun x hx => ?_, by simp only [List.length_cons]; omega⟩
   rcases List.mem_cons.1 hx with rfl | hx
   ·omega
   ·have := this.1 x hx
    simp only [List.length_cons, List.length_nil] at *; omega
  ·have := Ao5 l (cur ++ [a])
   refine ⟨fun x hx => ?_, by simp only [List.length_cons]; omega⟩
   have := this.1 x hx
   simp only [List.length_append, List.length_cons, List.length_nil] at *; omega
theorem Bdj {l : List Int} (h : Iw l) : Iw (A88 l) /\ (A88 l).length <= l.length := by
 unfold A88
 split
 ·exact ⟨fun x hx => h x (List.dropLast_subset l hx), by rw [List.length_dropLast]; omega⟩
 ·exact ⟨h, Nat.le_refl _⟩
theorem U5 : (⟨#[10]⟩ : ByteArray) = Ao [10] := by kernel_rfl
theorem A8z (l : List Int) (hl : Iw l) : Dp ((⟨none, none, none, []⟩ : RS).t, ((), ((Ao l, ()), ()))) = some ((Acn l).1.t, (((Acn l).2.1, ()), (((Acn l).2.2, ()), ((), ())))) := by
 unfold Acn
 by_cases c : 65535 < l.length
 ·rw [if_pos c]
  refine (Evn.const fun f => ?_).lim
  simp only [Ei, Br, gt_iff_lt, Ab]
  rw [if_pos (by omega)]
 ·rw [if_neg c]
  have hc := Bdj hl
  have hch := A92 l hl (by omega)
  have hr := Ao5 (A88 l) []
  have hsp := A27 (Ao (A88 l)) (by rw [Br]; omega)
  rw [I3 hc.1, U5] at hsp
  refine ((Bca (Vn [] (A88 l)) (fun x hx => ⟨Att hc.1 (fun y hy => by cases hy) x hx, by have := hr.1 x hx; simp only [List.length_nil] at this; omega⟩) (by omega) _ 0 ⟨none, none, none, []⟩ (Nat.zero_add _) (Nat.le_refl _)).cast fun f => ?_).lim
  simp only [Ei, Br, gt_iff_lt, Ab, U5, hch, hsp, Option.bind_some, List.length_map]
  rw [if_neg (by omega)]; rfl
theorem Beh (l : List Int) (h : l.length <= 140737488355328) : C5 ((), ((l, ()), ())) = some ((l, ()), ((), ())) := by
 unfold C5 Li
 simp only [List.length_nil, List.nil_append]
 rw [decide_eq_true (show (0 + l.length) * 1 <= 140737488355328 by omega), decide_eq_true (show 0 + l.length <= 9223372036854775807 by omega)]
 simp only [Bool.and_self, cond_true]
 cases l with
 | nil => simp [Ayk]
 | cons x l => rfl
theorem A9n : Ld ((), ()) = some ((), ((4, ()), ())) :=
 Evn.lim ⟨10, fun k hk => by obtain ⟨m, rfl⟩ := Nat.exists_eq_add_of_le hk; rw [Nat.add_comm]; kernel_rfl⟩
theorem Asg {o : K9.den} : ∀ (n : Nat) (out : List Int) (size w : Int) (words : List Int) (len idx : Int), n <= 4 -> 0 <= w -> w < 18446744073709551616 -> out.length + n <= 140737488355328 ->
  Evn (fun k => (Bw k).1 ((out ++ be w n, ()), ((size, ()), ((), ((words, ()), ((len, ()), ((Bm .i64 idx 1, ()), ()))))))) o ->
  Evn (fun k => (Bw k).2.1 ((out, ()), ((size, ()), ((), ((w, ()), (((n : Int) - 1, ()), ((words, ()), ((len, ()), ((idx, ()), ()))))))))) o
 | 0, out, size, w, words, len, idx, hn, h0, h1, hl, h => by
  refine Evn.step h fun k => ?_
  rw [Ma]
  simp only [If, be, List.append_nil]
  rw [decide_eq_false (by omega)]
  rfl
 | n + 1, out, size, w, words, len, idx, hn, h0, h1, hl, h => by
  refine Evn.step (Asg n (out ++ [w / 256 ^ n % 256]) size w words len idx (by omega) h0 h1 (by simp; omega) ?_) fun k => ?_
  ·simpa only [be, List.append_assoc, List.singleton_append] using h
  ·rw [Ma]
   simp only [If]
   have e1 : (((n + 1 : Nat) : Int) - 1) = (n : Int) := by omega
   rw [e1, decide_eq_true (show (n : Int) >= 0 by omega), Gs (by omega), decide_eq_false (by omega)]
   simp only [cond_true, cond_false]
   rw [L0, Int.emod_eq_of_lt h0 h1, Awz (by omega) h0, Ami, Bb (by omega)]
   rw [decide_eq_true (by simp only [List.length_singleton]; omega), decide_eq_true (by simp only [List.length_singleton]; omega)]
   rfl
theorem Aok {words : List Int} (hw : ∀ w ∈ words, 0 <= w /\ w < 2 ^ 32) (hwl : words.length <= 140737488355328) : ∀ (n i : Nat) (out : List Int), i + n = words.length -> out.length + n * 4 <= 140737488355328 ->
  Evn (fun k => (Bw k).1 ((out, ()), (((4 : Int), ()), ((), ((words, ()), (((words.length : Int), ()), (((i : Int), ()), ()))))))) ((out ++ (words.drop i).flatMap (be · 4), ()), ((), ()))
 | 0, i, out, hi, hl => by
  refine Evn.step (Evn.const fun _ => rfl) fun k => ?_
  rw [Ma]
  simp only [I8]
  rw [decide_eq_false (by omega), List.drop_eq_nil_of_le (by omega)]
  simp
 | n + 1, i, out, hi, hl => by
  have hlt : i < words.length := by omega
  have hi2 := hw words[i] (List.getElem_mem hlt)
  rw [List.drop_eq_getElem_cons hlt, List.flatMap_cons, <- List.append_assoc]
  have ih := Aok hw hwl n (i + 1) (out ++ be words[i] 4) (by omega) (by rw [List.length_append, L3]; omega)
  refine Evn.step (Asg 4 out 4 words[i] words words.length i (Nat.le_refl _) hi2.1 (by omega) (by omega) (Evn.cast ih fun k => ?_)) fun k => ?_
  ·rw [Aq (by omega)]; rfl
  ·rw [Ma]
   simp only [I8]
   rw [decide_eq_true (by omega), decide_eq_true (by omega), Bb (by omega), Aba (.int .u32) words (i : Int) (by omega) (by omega)]
   rfl
theorem Bdv (b words : List Int) (hw : ∀ w ∈ words, 0 <= w /\ w < 2 ^ 32) (hl : b.length + words.length * 4 <= 140737488355328) :
  Jq ((), ((b, ()), ((words, ()), ()))) = some ((b ++ words.flatMap (be · 4), ()), ((), ())) := by
 refine Evn.lim (Evn.cast (Aok hw (by omega) words.length 0 b (by omega) hl) fun k => ?_)
 simp only [O5]
 rw [A9n, Beh b (by omega)]
 rfl
theorem A9w : K2 ((), ()) = some ((), ((8, ()), ())) :=
 Evn.lim ⟨10, fun k hk => by obtain ⟨m, rfl⟩ := Nat.exists_eq_add_of_le hk; rw [Nat.add_comm]; kernel_rfl⟩
theorem Asc {o : K0.den} : ∀ (n : Nat) (out : List Int) (size w : Int) (words : List Int) (len idx : Int), n <= 8 -> 0 <= w -> w < 18446744073709551616 -> out.length + n <= 140737488355328 ->
  Evn (fun k => (Bv k).1 ((out ++ be w n, ()), ((size, ()), ((), ((words, ()), ((len, ()), ((Bm .i64 idx 1, ()), ()))))))) o ->
  Evn (fun k => (Bv k).2.1 ((out, ()), ((size, ()), ((), ((w, ()), (((n : Int) - 1, ()), ((words, ()), ((len, ()), ((idx, ()), ()))))))))) o
 | 0, out, size, w, words, len, idx, hn, h0, h1, hl, h => by
  refine Evn.step h fun k => ?_
  rw [Mj]
  simp only [Ic, be, List.append_nil]
  rw [decide_eq_false (by omega)]
  rfl
 | n + 1, out, size, w, words, len, idx, hn, h0, h1, hl, h => by
  refine Evn.step (Asc n (out ++ [w / 256 ^ n % 256]) size w words len idx (by omega) h0 h1 (by simp; omega) ?_) fun k => ?_
  ·simpa only [be, List.append_assoc, List.singleton_append] using h
  ·rw [Mj]
   simp only [Ic]
   have e1 : (((n + 1 : Nat) : Int) - 1) = (n : Int) := by omega
   rw [e1, decide_eq_true (show (n : Int) >= 0 by omega), Gs (by omega), decide_eq_false (by omega)]
   simp only [cond_true, cond_false]
   rw [Awz (by omega) h0, Ami, Bb (by omega)]
   rw [decide_eq_true (by simp only [List.length_singleton]; omega), decide_eq_true (by simp only [List.length_singleton]; omega)]
   rfl
theorem Apr {words : List Int} (hw : ∀ w ∈ words, 0 <= w /\ w < 2 ^ 64) (hwl : words.length <= 140737488355328) : ∀ (n i : Nat) (out : List Int), i + n = words.length -> out.length + n * 8 <= 140737488355328 ->
  Evn (fun k => (Bv k).1 ((out, ()), (((8 : Int), ()), ((), ((words, ()), (((words.length : Int), ()), (((i : Int), ()), ()))))))) ((out ++ (words.drop i).flatMap (be · 8), ()), ((), ()))
 | 0, i, out, hi, hl => by
  refine Evn.step (Evn.const fun _ => rfl) fun k => ?_
  rw [Mj]
  simp only [I9]
  rw [decide_eq_false (by omega), List.drop_eq_nil_of_le (by omega)]
  simp
 | n + 1, i, out, hi, hl => by
  have hlt : i < words.length := by omega
  have hi2 := hw words[i] (List.getElem_mem hlt)
  rw [List.drop_eq_getElem_cons hlt, List.flatMap_cons, <- List.append_assoc]
  have ih := Apr hw hwl n (i + 1) (out ++ be words[i] 8) (by omega) (by rw [List.length_append, L3]; omega)
  refine Evn.step (Asc 8 out 8 words[i] words words.length i (Nat.le_refl _) hi2.1 (by omega) (by omega) (Evn.cast ih fun k => ?_)) fun k => ?_
  ·rw [Aq (by omega)]; rfl
  ·rw [Mj]
   simp only [I9]
   rw [decide_eq_true (by omega), decide_eq_true (by omega), Bb (by omega), Aba (.int .u64) words (i : Int) (by omega) (by omega)]
   rfl
theorem Bdz (b words : List Int) (hw : ∀ w ∈ words, 0 <= w /\ w < 2 ^ 64) (hl : b.length + words.length * 8 <= 140737488355328) :
  Md ((), ((b, ()), ((words, ()), ()))) = some ((b ++ words.flatMap (be · 8), ()), ((), ())) := by
 refine Evn.lim (Evn.cast (Apr hw (by omega) words.length 0 b (by omega) hl) fun k => ?_)
 simp only [Ox]
 rw [A9w, Beh b (by omega)]
 rfl
theorem Evn.bindS {R S : Type} {F : Nat -> Option R} {r : R} {f : R -> Option S} {o : S} (h : Evn F r) (e : f r = Option.some o) : Evn (fun k => (F k).bind f) o := by
 obtain ⟨n, h⟩ := h
 exact ⟨n, fun k hk => by show (F k).bind f = _; rw [h k hk]; exact e⟩
def Iy (s : Nat) : Nat -> List Int -> List (List Int)
 | 0, _ => []
 | m + 1, b => b.take s :: Iy s m (b.drop s)
theorem Aoo (s : Nat) : ∀ m (b : List Int), Iy s m (b.take (m * s)) = Iy s m b
 | 0, _ => rfl
 | m + 1, b => by
  have hm : (m + 1) * s = s + m * s := by rw [Nat.succ_mul, Nat.add_comm]
  rw [Iy, Iy, hm, List.take_take, Nat.min_eq_left (Nat.le_add_right _ _), List.drop_take, show s + m * s - s = m * s by omega, Aoo s m]
theorem A1m (b : List Int) (s : Nat) (hs : 0 < s) (hl : b.length <= 140737488355328) : ∀ m i, b.length = i + m * s ->
  Evn (fun k => (A2 k).1 ((), ((some b, ()), ((some (s : Int), ()), (((i : Int), ()), ()))))) (Iy s m (b.drop i))
 | 0, i, h => by
  refine Evn.step (Evn.const fun _ => rfl) fun k => ?_
  rw [show A2 (k + 1) = (B9 (A2 k), ()) from rfl]
  simp only [B9, Ae, Option.bind_some, Option.isNone_none, Option.isNone_some, Option.isSome_none, Option.isSome_some, Bool.not_true, Bool.not_false, cond_true, cond_false, Ab, Al, Ak, Ai]
  rw [if_neg (by omega)]; rfl
 | m + 1, i, h => by
  have hm : (m + 1) * s = m * s + s := Nat.succ_mul m s
  have ih := A1m b s hs hl m (i + s) (by omega)
  refine Evn.step (Evn.bindS ih (f := fun x => Option.some ((b.drop i).take s :: x)) (by rw [<- List.drop_drop]; rfl)) fun k => ?_
  rw [show A2 (k + 1) = (B9 (A2 k), ()) from rfl]
  simp only [B9, Ae, Option.bind_some, Option.isNone_none, Option.isNone_some, Option.isSome_none, Option.isSome_some, Bool.not_true, Bool.not_false, cond_true, cond_false, Ab, Al, Ak, Ai, A4, List.isEmpty_nil]
  rw [if_pos (by omega), if_pos (by omega)]
  simp only [Int.toNat_natCast, List.take_length, List.length_drop]
  have e : (if (((b.length - i : Nat)) : Int) < (s : Int) then ((b.length - i : Nat) : Int) else (s : Int)) = (s : Int) := by rw [if_neg (by omega)]
  rw [e, Aq (by omega), if_pos (by omega)]
  rw [show ((i : Int) + (s : Int)).toNat = i + s by omega, List.drop_take, show i + s - i = s by omega]
  rw [show ((i : Int) + (s : Int)) = ((i + s : Nat) : Int) by push_cast; rfl]
theorem Axc (b : List Int) (s m : Nat) (hs : 0 < s) (hl : b.length <= 140737488355328) (h : b.length = m * s) : De (b, ((s : Int), ())) = some (Iy s m b) := by
 have := A1m b s hs hl m 0 (by omega)
 rw [List.drop_zero] at this
 exact (this.cast fun k => rfl).lim
theorem A1c (b : List Int) (s : Int) (hs : 0 < s) : Cm ((), ((b, ()), ((s, ()), ()))) = some (((b, ()), ((s, ()), ())), ((), ())) := by
 simp only [Cm, Lg, Ae, Option.bind_some, Option.isNone_none, Option.isNone_some, Option.isSome_none, Option.isSome_some, Bool.not_true, Bool.not_false, cond_true, cond_false, Ab, Al, Ak, Ai]
 rw [if_neg (by omega)]
set_option maxRecDepth 100000
abbrev W5 : Type := Int × (Int × (Int × (Int × (Int × Unit))))
abbrev T20 : Type := Int × (Int × (Int × (Int × (Int × (Int × (Int × (Int × (Int × (Int × (Int × (Int × (Int × (Int × (Int × (Int × (Int × (Int × (Int × (Int × (Unit))))))))))))))))))))
abbrev T64 : Type := Int × (Int × (Int × (Int × (Int × (Int × (Int × (Int × (Int × (Int × (Int × (Int × (Int × (Int × (Int × (Int × (Int × (Int × (Int × (Int × (Int × (Int × (Int × (Int × (Int × (Int × (Int × (Int × (Int × (Int × (Int × (Int × (Int × (Int × (Int × (Int × (Int × (Int × (Int × (Int × (Int × (Int × (Int × (Int × (Int × (Int × (Int × (Int × (Int × (Int × (Int × (Int × (Int × (Int × (Int × (Int × (Int × (Int × (Int × (Int × (Int × (Int × (Int × (Int × (Unit))))))))))))))))))))))))))))))))))))))))))))))))))))))))))))))))
abbrev T80 : Type := Int × (Int × (Int × (Int × (Int × (Int × (Int × (Int × (Int × (Int × (Int × (Int × (Int × (Int × (Int × (Int × (Int × (Int × (Int × (Int × (Int × (Int × (Int × (Int × (Int × (Int × (Int × (Int × (Int × (Int × (Int × (Int × (Int × (Int × (Int × (Int × (Int × (Int × (Int × (Int × (Int × (Int × (Int × (Int × (Int × (Int × (Int × (Int × (Int × (Int × (Int × (Int × (Int × (Int × (Int × (Int × (Int × (Int × (Int × (Int × (Int × (Int × (Int × (Int × (Int × (Int × (Int × (Int × (Int × (Int × (Int × (Int × (Int × (Int × (Int × (Int × (Int × (Int × (Int × (Int × (Unit))))))))))))))))))))))))))))))))))))))))))))))))))))))))))))))))))))))))))))))))
def t20 (l : List Int) : T20 := (gd (.int .u8) l (0 : Int), (gd (.int .u8) l (1 : Int), (gd (.int .u8) l (2 : Int), (gd (.int .u8) l (3 : Int), (gd (.int .u8) l (4 : Int), (gd (.int .u8) l (5 : Int), (gd (.int .u8) l (6 : Int), (gd (.int .u8) l (7 : Int), (gd (.int .u8) l (8 : Int), (gd (.int .u8) l (9 : Int), (gd (.int .u8) l (10 : Int), (gd (.int .u8) l (11 : Int), (gd (.int .u8) l (12 : Int), (gd (.int .u8) l (13 : Int), (gd (.int .u8) l (14 : Int), (gd (.int .u8) l (15 : Int), (gd (.int .u8) l (16 : Int), (gd (.int .u8) l (17 : Int), (gd (.int .u8) l (18 : Int), (gd (.int .u8) l (19 : Int), ()))))))))))))))))))))
def t64 (l : List Int) : T64 := (gd (.int .u8) l (0 : Int), (gd (.int .u8) l (1 : Int), (gd (.int .u8) l (2 : Int), (gd (.int .u8) l (3 : Int), (gd (.int .u8) l (4 : Int), (gd (.int .u8) l (5 : Int), (gd (.int .u8) l (6 : Int), (gd (.int .u8) l (7 : Int), (gd (.int .u8) l (8 : Int), (gd (.int .u8) l (9 : Int), (gd (.int .u8) l (10 : Int), (gd (.int .u8) l (11 : Int), (gd (.int .u8) l (12 : Int), (gd (.int .u8) l (13 : Int), (gd (.int .u8) l (14 : Int), (gd (.int .u8) l (15 : Int), (gd (.int .u8) l (16 : Int), (gd (.int .u8) l (17 : Int), (gd (.int .u8) l (18 : Int), (gd (.int .u8) l (19 : Int), (gd (.int .u8) l (20 : Int), (gd (.int .u8) l (21 : Int), (gd (.int .u8) l (22 : Int), (gd (.int .u8) l (23 : Int), (gd (.int .u8) l (24 : Int), (gd (.int .u8) l (25 : Int), (gd (.int .u8) l (26 : Int), (gd (.int .u8) l (27 : Int), (gd (.int .u8) l (28 : Int), (gd (.int .u8) l (29 : Int), (gd (.int .u8) l (30 : Int), (gd (.int .u8) l (31 : Int), (gd (.int .u8) l (32 : Int), (gd (.int .u8) l (33 : Int), (gd (.int .u8) l (34 : Int), (gd (.int .u8) l (35 : Int), (gd (.int .u8) l (36 : Int), (gd (.int .u8) l (37 : Int), (gd (.int .u8) l (38 : Int), (gd (.int .u8) l (39 : Int), (gd (.int .u8) l (40 : Int), (gd (.int .u8) l (41 : Int), (gd (.int .u8) l (42 : Int), (gd (.int .u8) l (43 : Int), (gd (.int .u8) l (44 : Int), (gd (.int .u8) l (45 : Int), (gd (.int .u8) l (46 : Int), (gd (.int .u8) l (47 : Int), (gd (.int .u8) l (48 : Int), (gd (.int .u8) l (49 : Int), (gd (.int .u8) l (50 : Int), (gd (.int .u8) l (51 : Int), (gd (.int .u8) l (52 : Int), (gd (.int .u8) l (53 : Int), (gd (.int .u8) l (54 : Int), (gd (.int .u8) l (55 : Int), (gd (.int .u8) l (56 : Int), (gd (.int .u8) l (57 : Int), (gd (.int .u8) l (58 : Int), (gd (.int .u8) l (59 : Int), (gd (.int .u8) l (60 : Int), (gd (.int .u8) l (61 : Int), (gd (.int .u8) l (62 : Int), (gd (.int .u8) l (63 : Int), ()))))))))))))))))))))))))))))))))))))))))))))))))))))))))))))))))
def t80 (l : List Int) : T80 := (gd (.int .u32) l (0 : Int), (gd (.int .u32) l (1 : Int), (gd (.int .u32) l (2 : Int), (gd (.int .u32) l (3 : Int), (gd (.int .u32) l (4 : Int), (gd (.int .u32) l (5 : Int), (gd (.int .u32) l (6 : Int), (gd (.int .u32) l (7 : Int), (gd (.int .u32) l (8 : Int), (gd (.int .u32) l (9 : Int), (gd (.int .u32) l (10 : Int), (gd (.int .u32) l (11 : Int), (gd (.int .u32) l (12 : Int), (gd (.int .u32) l (13 : Int), (gd (.int .u32) l (14 : Int), (gd (.int .u32) l (15 : Int), (gd (.int .u32) l (16 : Int), (gd (.int .u32) l (17 : Int), (gd (.int .u32) l (18 : Int), (gd (.int .u32) l (19 : Int), (gd (.int .u32) l (20 : Int), (gd (.int .u32) l (21 : Int), (gd (.int .u32) l (22 : Int), (gd (.int .u32) l (23 : Int), (gd (.int .u32) l (24 : Int), (gd (.int .u32) l (25 : Int), (gd (.int .u32) l (26 : Int), (gd (.int .u32) l (27 : Int), (gd (.int .u32) l (28 : Int), (gd (.int .u32) l (29 : Int), (gd (.int .u32) l (30 : Int), (gd (.int .u32) l (31 : Int), (gd (.int .u32) l (32 : Int), (gd (.int .u32) l (33 : Int), (gd (.int .u32) l (34 : Int), (gd (.int .u32) l (35 : Int), (gd (.int .u32) l (36 : Int), (gd (.int .u32) l (37 : Int), (gd (.int .u32) l (38 : Int), (gd (.int .u32) l (39 : Int), (gd (.int .u32) l (40 : Int), (gd (.int .u32) l (41 : Int), (gd (.int .u32) l (42 : Int), (gd (.int .u32) l (43 : Int), (gd (.int .u32) l (44 : Int), (gd (.int .u32) l (45 : Int), (gd (.int .u32) l (46 : Int), (gd (.int .u32) l (47 : Int), (gd (.int .u32) l (48 : Int), (gd (.int .u32) l (49 : Int), (gd (.int .u32) l (50 : Int), (gd (.int .u32) l (51 : Int), (gd (.int .u32) l (52 : Int), (gd (.int .u32) l (53 : Int), (gd (.int .u32) l (54 : Int), (gd (.int .u32) l (55 : Int), (gd (.int .u32) l (56 : Int), (gd (.int .u32) l (57 : Int), (gd (.int .u32) l (58 : Int), (gd (.int .u32) l (59 : Int), (gd (.int .u32) l (60 : Int), (gd (.int .u32) l (61 : Int), (gd (.int .u32) l (62 : Int), (gd (.int .u32) l (63 : Int), (gd (.int .u32) l (64 : Int), (gd (.int .u32) l (65 : Int), (gd (.int .u32) l (66 : Int), (gd (.int .u32) l (67 : Int), (gd (.int .u32) l (68 : Int), (gd (.int .u32) l (69 : Int), (gd (.int .u32) l (70 : Int), (gd (.int .u32) l (71 : Int), (gd (.int .u32) l (72 : Int), (gd (.int .u32) l (73 : Int), (gd (.int .u32) l (74 : Int), (gd (.int .u32) l (75 : Int), (gd (.int .u32) l (76 : Int), (gd (.int .u32) l (77 : Int), (gd (.int .u32) l (78 : Int), (gd (.int .u32) l (79 : Int), ()))))))))))))))))))))))))))))))))))))))))))))))))))))))))))))))))))))))))))))))))
def l64 (l : List Int) : List Int := [gd (.int .u8) l (0 : Int), gd (.int .u8) l (1 : Int), gd (.int .u8) l (2 : Int), gd (.int .u8) l (3 : Int), gd (.int .u8) l (4 : Int), gd (.int .u8) l (5 : Int), gd (.int .u8) l (6 : Int), gd (.int .u8) l (7 : Int), gd (.int .u8) l (8 : Int), gd (.int .u8) l (9 : Int), gd (.int .u8) l (10 : Int), gd (.int .u8) l (11 : Int), gd (.int .u8) l (12 : Int), gd (.int .u8) l (13 : Int), gd (.int .u8) l (14 : Int), gd (.int .u8) l (15 : Int), gd (.int .u8) l (16 : Int), gd (.int .u8) l (17 : Int), gd (.int .u8) l (18 : Int), gd (.int .u8) l (19 : Int), gd (.int .u8) l (20 : Int), gd (.int .u8) l (21 : Int), gd (.int .u8) l (22 : Int), gd (.int .u8) l (23 : Int), gd (.int .u8) l (24 : Int), gd (.int .u8) l (25 : Int), gd (.int .u8) l (26 : Int), gd (.int .u8) l (27 : Int), gd (.int .u8) l (28 : Int), gd (.int .u8) l (29 : Int), gd (.int .u8) l (30 : Int), gd (.int .u8) l (31 : Int), gd (.int .u8) l (32 : Int), gd (.int .u8) l (33 : Int), gd (.int .u8) l (34 : Int), gd (.int .u8) l (35 : Int), gd (.int .u8) l (36 : Int), gd (.int .u8) l (37 : Int), gd (.int .u8) l (38 : Int), gd (.int .u8) l (39 : Int), gd (.int .u8) l (40 : Int), gd (.int .u8) l (41 : Int), gd (.int .u8) l (42 : Int), gd (.int .u8) l (43 : Int), gd (.int .u8) l (44 : Int), gd (.int .u8) l (45 : Int), gd (.int .u8) l (46 : Int), gd (.int .u8) l (47 : Int), gd (.int .u8) l (48 : Int), gd (.int .u8) l (49 : Int), gd (.int .u8) l (50 : Int), gd (.int .u8) l (51 : Int), gd (.int .u8) l (52 : Int), gd (.int .u8) l (53 : Int), gd (.int .u8) l (54 : Int), gd (.int .u8) l (55 : Int), gd (.int .u8) l (56 : Int), gd (.int .u8) l (57 : Int), gd (.int .u8) l (58 : Int), gd (.int .u8) l (59 : Int), gd (.int .u8) l (60 : Int), gd (.int .u8) l (61 : Int), gd (.int .u8) l (62 : Int), gd (.int .u8) l (63 : Int)]
def l80 (l : List Int) : List Int := [gd (.int .u32) l (0 : Int), gd (.int .u32) l (1 : Int), gd (.int .u32) l (2 : Int), gd (.int .u32) l (3 : Int), gd (.int .u32) l (4 : Int), gd (.int .u32) l (5 : Int), gd (.int .u32) l (6 : Int), gd (.int .u32) l (7 : Int), gd (.int .u32) l (8 : Int), gd (.int .u32) l (9 : Int), gd (.int .u32) l (10 : Int), gd (.int .u32) l (11 : Int), gd (.int .u32) l (12 : Int), gd (.int .u32) l (13 : Int), gd (.int .u32) l (14 : Int), gd (.int .u32) l (15 : Int), gd (.int .u32) l (16 : Int), gd (.int .u32) l (17 : Int), gd (.int .u32) l (18 : Int), gd (.int .u32) l (19 : Int), gd (.int .u32) l (20 : Int), gd (.int .u32) l (21 : Int), gd (.int .u32) l (22 : Int), gd (.int .u32) l (23 : Int), gd (.int .u32) l (24 : Int), gd (.int .u32) l (25 : Int), gd (.int .u32) l (26 : Int), gd (.int .u32) l (27 : Int), gd (.int .u32) l (28 : Int), gd (.int .u32) l (29 : Int), gd (.int .u32) l (30 : Int), gd (.int .u32) l (31 : Int), gd (.int .u32) l (32 : Int), gd (.int .u32) l (33 : Int), gd (.int .u32) l (34 : Int), gd (.int .u32) l (35 : Int), gd (.int .u32) l (36 : Int), gd (.int .u32) l (37 : Int), gd (.int .u32) l (38 : Int), gd (.int .u32) l (39 : Int), gd (.int .u32) l (40 : Int), gd (.int .u32) l (41 : Int), gd (.int .u32) l (42 : Int), gd (.int .u32) l (43 : Int), gd (.int .u32) l (44 : Int), gd (.int .u32) l (45 : Int), gd (.int .u32) l (46 : Int), gd (.int .u32) l (47 : Int), gd (.int .u32) l (48 : Int), gd (.int .u32) l (49 : Int), gd (.int .u32) l (50 : Int), gd (.int .u32) l (51 : Int), gd (.int .u32) l (52 : Int), gd (.int .u32) l (53 : Int), gd (.int .u32) l (54 : Int), gd (.int .u32) l (55 : Int), gd (.int .u32) l (56 : Int), gd (.int .u32) l (57 : Int), gd (.int .u32) l (58 : Int), gd (.int .u32) l (59 : Int), gd (.int .u32) l (60 : Int), gd (.int .u32) l (61 : Int), gd (.int .u32) l (62 : Int), gd (.int .u32) l (63 : Int), gd (.int .u32) l (64 : Int), gd (.int .u32) l (65 : Int), gd (.int .u32) l (66 : Int), gd (.int .u32) l (67 : Int), gd (.int .u32) l (68 : Int), gd (.int .u32) l (69 : Int), gd (.int .u32) l (70 : Int), gd (.int .u32) l (71 : Int), gd (.int .u32) l (72 : Int), gd (.int .u32) l (73 : Int), gd (.int .u32) l (74 : Int), gd (.int .u32) l (75 : Int), gd (.int .u32) l (76 : Int), gd (.int .u32) l (77 : Int), gd (.int .u32) l (78 : Int), gd (.int .u32) l (79 : Int)]
def l20 (l : List Int) : List Int := [gd (.int .u8) l (0 : Int), gd (.int .u8) l (1 : Int), gd (.int .u8) l (2 : Int), gd (.int .u8) l (3 : Int), gd (.int .u8) l (4 : Int), gd (.int .u8) l (5 : Int), gd (.int .u8) l (6 : Int), gd (.int .u8) l (7 : Int), gd (.int .u8) l (8 : Int), gd (.int .u8) l (9 : Int), gd (.int .u8) l (10 : Int), gd (.int .u8) l (11 : Int), gd (.int .u8) l (12 : Int), gd (.int .u8) l (13 : Int), gd (.int .u8) l (14 : Int), gd (.int .u8) l (15 : Int), gd (.int .u8) l (16 : Int), gd (.int .u8) l (17 : Int), gd (.int .u8) l (18 : Int), gd (.int .u8) l (19 : Int)]
theorem Bap (b : List Int) : (List.range b.length).map (fun i => gd (.int .u8) b ((i : Nat) : Int)) = b := by
 refine List.ext_getElem (by simp) fun i h1 h2 => ?_
 simp only [List.getElem_map, List.getElem_range, gd, Int.toNat_natCast]
 rw [List.getD_eq_getElem?_getD, List.getElem?_eq_getElem h2]; rfl
theorem Bd0 (b : List Int) : (List.range b.length).map (fun i => gd (.int .u32) b ((i : Nat) : Int)) = b := by
 refine List.ext_getElem (by simp) fun i h1 h2 => ?_
 simp only [List.getElem_map, List.getElem_range, gd, Int.toNat_natCast]
 rw [List.getD_eq_getElem?_getD, List.getElem?_eq_getElem h2]; rfl
theorem Bay {b : List Int} (h : b.length = 64) : l64 b = b := by
 have e := Bap b
 rw [h] at e
 exact e
theorem Bav {b : List Int} (h : b.length = 80) : l80 b = b := by
 have e := Bd0 b
 rw [h] at e
 exact e
theorem A1v {b : List Int} (h : b.length = 20) : l20 b = b := by
 have e := Bap b
 rw [h] at e
 exact e
def rot (k x : Int) : Int := ior .u32 (Au0 .u32 x k) (A3g .u32 x (32 - k))
theorem Bgu (x : Int) : Bd ((), ((x, ()), (((1 : Int), ()), ()))) = some ((), ((rot 1 x, ()), ())) := by kernel_rfl
theorem Bgx (x : Int) : Bd ((), ((x, ()), (((5 : Int), ()), ()))) = some ((), ((rot 5 x, ()), ())) := by kernel_rfl
theorem Bez (x : Int) : Bd ((), ((x, ()), (((30 : Int), ()), ()))) = some ((), ((rot 30 x, ()), ())) := by kernel_rfl
def A7n (b : List Int) (i : Int) : Int := ior .u32 (ior .u32 (ior .u32 (Au0 .u32 (Ef .u32 (gd (.int .u8) b i)) 24) (Au0 .u32 (Ef .u32 (gd (.int .u8) b (i + 1))) 16)) (Au0 .u32 (Ef .u32 (gd (.int .u8) b (i + 2))) 8)) (Ef .u32 (gd (.int .u8) b (i + 3)))
def nxW (b w : List Int) (t : Nat) : Int :=
 if t < 16 then A7n b (4 * (t : Int)) else rot 1 (Adt .u32 (Adt .u32 (Adt .u32 (gd (.int .u32) w ((t : Int) - 3)) (gd (.int .u32) w ((t : Int) - 8))) (gd (.int .u32) w ((t : Int) - 14))) (gd (.int .u32) w ((t : Int) - 16)))
def Ui (b : List Int) : Nat -> List Int
 | 0 => []
 | n + 1 => Ui b n ++ [nxW b (Ui b n) n]
theorem Zj (b : List Int) : ∀ n, (Ui b n).length = n
 | 0 => rfl
 | n + 1 => by simp [Ui, Zj b n]
theorem Ame {l m : List Int} {i : Int} (h : i.toNat < l.length) : gd (.int .u32) (l ++ m) i = gd (.int .u32) l i := by
 unfold gd
 rw [List.getD_eq_getElem?_getD, List.getD_eq_getElem?_getD, List.getElem?_append_left h]
theorem A6m (l : List Int) (n : Nat) (x : Int) : (l ++ List.replicate (n + 1) (0 : Int)).set l.length x = (l ++ [x]) ++ List.replicate n 0 := by
 simp [List.set_append, List.replicate_succ]
theorem Bcu (T : Jk) (B Z w : List Int) : J3 T ((B, (Z, (w, ()))), ((), ((), ((), (((80 : Int), ()), ()))))) =
  bif decide ((80 : Int) <= (w.length : Int)) then (bif decide ((Z.length : Int) = (80 : Int)) then some ((), (t80 (l80 w), ())) else none) else none := by kernel_rfl
theorem Bgz (T : Jk) (b : List Int) : P4 T ((), (t64 b, ())) = T.1 ((l64 b, (List.replicate 80 0, (List.replicate 80 0, ()))), ((), ((), ((), (((0 : Int), ()), ()))))) := by kernel_rfl
theorem Ahc (b : List Int) (n : Nat) : Ui b (n + 1) = Ui b n ++ [nxW b (Ui b n) n] := rfl
attribute [local irreducible] Ui in
theorem Bfn (b : List Int) (hb : b.length = 64) (Z : List Int) (hZ : Z.length = 80) : ∀ (k t : Nat), t + k = 80 ->
  Evn (fun f => (Ew f).1 ((b, (Z, (Ui b t ++ List.replicate k 0, ()))), ((), ((), ((), (((t : Int), ()), ())))))) ((), (t80 (Ui b 80), ())) := by
 intro k
 induction k with
 | zero =>
  intro t ht
  obtain rfl : t = 80 := by omega
  refine Evn.some 1 fun f => ?_
  have hl := Zj b 80
  generalize Ui b 80 = w at *
  simp only [Ac6, List.replicate_zero, List.append_nil, show ((80 : Nat) : Int) = 80 from rfl]
  rw [Bcu, hZ, hl, Bav hl]; rfl
 | succ k ih =>
  intro t ht
  refine (ih (t + 1) (by omega)).step fun f => ?_
  have hl := Zj b t
  have hlen : ((Ui b t ++ List.replicate (k + 1) (0 : Int)).length : Int) = 80 := by rw [List.length_append, hl, List.length_replicate]; omega
  have hset : ∀ x, (Ui b t ++ List.replicate (k + 1) (0 : Int)).set t x = (Ui b t ++ [x]) ++ List.replicate k 0 := fun x => by
   have := A6m (Ui b t) k x
   rwa [hl] at this
  simp only [Ac6, J3, A4, Ab, hb, hlen]
  rw [if_pos (by omega)]
  by_cases c : t < 16
  ·rw [if_pos (by omega), Gs (by omega), Aq (by omega), Aq (by omega), Aq (by omega), if_pos (by omega), if_pos (by omega), if_pos (by omega), if_pos (by omega), if_pos (by omega), Int.toNat_natCast, hset, Aq (by omega)]
   have : Ui b (t + 1) = Ui b t ++ [A7n b (4 * (t : Int))] := by
    rw [Ahc]
    unfold nxW
    rw [if_pos c]
   rw [this]; rfl
  ·rw [if_neg (by omega), Bb (by omega), Bb (by omega), Bb (by omega), Bb (by omega), if_pos (by omega), if_pos (by omega), if_pos (by omega), if_pos (by omega), Bgu]
   simp only [Option.bind_some]
   rw [if_pos (by omega), Int.toNat_natCast, hset, Aq (by omega), Ame (by omega), Ame (by omega), Ame (by omega), Ame (by omega)]
   have : Ui b (t + 1) = Ui b t ++ [rot 1 (Adt .u32 (Adt .u32 (Adt .u32 (gd (.int .u32) (Ui b t) ((t : Int) - 3)) (gd (.int .u32) (Ui b t) ((t : Int) - 8))) (gd (.int .u32) (Ui b t) ((t : Int) - 14))) (gd (.int .u32) (Ui b t) ((t : Int) - 16)))] := by
    rw [Ahc]
    unfold nxW
    rw [if_neg c]
   rw [this]; rfl
theorem Axn (b : List Int) (hb : b.length = 64) : Ki ((), (t64 b, ())) = some ((), (t80 (Ui b 80), ())) := by
 refine ((Bfn b hb (List.replicate 80 0) (by simp) 80 0 (by omega)).cast fun f => ?_).lim
 rw [Bgz, Bay hb]; rfl
def Bar (t : Nat) (b c d : Int) : Int × Int :=
 if t / 20 = 0 then (Adt .u32 d (Ak7 .u32 b (Adt .u32 c d)), 1518500249)
 else if t / 20 = 1 then (Adt .u32 (Adt .u32 b c) d, 1859775393)
 else if t / 20 = 2 then (ior .u32 (Ak7 .u32 b c) (Ak7 .u32 d (ior .u32 b c)), 2400959708)
 else (Adt .u32 (Adt .u32 b c) d, 3395469782)
theorem Bdp (t : Nat) (ht : t < 80) (b c d : Int) : Sj ((), (((t : Int), ()), ((b, ()), ((c, ()), ((d, ()), ()))))) = some ((), (((Bar t b c d).1, ()), (((Bar t b c d).2, ()), ()))) := by
 have e : Nm .i64 (t : Int) 20 = ((t / 20 : Nat) : Int) := by
  unfold Nm
  rw [Int.tdiv_eq_ediv_of_nonneg (by omega)]
  exact IntWalk.i64_in _ (by omega)
 simp only [Sj, Alb, e, Al, Ab]
 unfold Bar
 by_cases c0 : t / 20 = 0
 ·rw [if_pos (by omega), if_pos c0]
 rw [if_neg (by omega), if_neg c0]
 by_cases c1 : t / 20 = 1
 ·rw [if_pos (by omega), if_pos c1]
 rw [if_neg (by omega), if_neg c1]
 by_cases c2 : t / 20 = 2
 ·rw [if_pos (by omega), if_pos c2]
 rw [if_neg (by omega), if_neg c2]
def rnd (w : List Int) (t : Nat) (s : W5) : W5 :=
 (Bm .u32 (Bm .u32 (Bm .u32 (Bm .u32 (rot 5 s.1) (Bar t s.2.1 s.2.2.1 s.2.2.2.1).1) s.2.2.2.2.1) (Bar t s.2.1 s.2.2.1 s.2.2.2.1).2) (gd (.int .u32) w (t : Int)), (s.1, (rot 30 s.2.1, (s.2.2.1, (s.2.2.2.1, ())))))
def Ayy (w : List Int) (s : W5) : Nat -> W5
 | 0 => s
 | t + 1 => rnd w t (Ayy w s t)
def A8b (s r : W5) : W5 := (Bm .u32 s.1 r.1, (Bm .u32 s.2.1 r.2.1, (Bm .u32 s.2.2.1 r.2.2.1, (Bm .u32 s.2.2.2.1 r.2.2.2.1, (Bm .u32 s.2.2.2.2.1 r.2.2.2.2.1, ())))))
theorem Ber (T : D3) (s : W5) (b : List Int) : Yn T ((), (s, (t64 b, ()))) =
  bif decide ((64 : Int) <= ((l64 b).length : Int)) then ((Ki ((), (t64 (l64 b), ()))).bind fun x2 => T.1 ((s, ((0, (0, (0, (0, (0, ()))))), (s, ()))), ((), ((), ((), (x2.2.1, (((0 : Int), ()), ()))))))) else none := by kernel_rfl
theorem A5j (T : D3) (s z r : W5) (w : List Int) (t : Int) : V4 T ((s, (z, (r, ()))), ((), ((), ((), (t80 w, ((t, ()), ())))))) =
  bif decide (t < (80 : Int)) then (bif decide ((0 : Int) <= t) && decide (t < (80 : Int)) then (
   (Sj ((), ((t, ()), ((r.2.1, ()), ((r.2.2.1, ()), ((r.2.2.2.1, ()), ())))))).bind fun x4 =>
   (Bd ((), ((r.1, ()), (((5 : Int), ()), ())))).bind fun x5 =>
   (Bd ((), ((r.2.1, ()), (((30 : Int), ()), ())))).bind fun x10 =>
   T.1 ((s, (z, ((Bm .u32 (Bm .u32 (Bm .u32 (Bm .u32 x5.2.1.1 x4.2.1.1) r.2.2.2.2.1) x4.2.2.1.1) (gd (.int .u32) (l80 w) t), (r.1, (x10.2.1.1, (r.2.2.1, (r.2.2.2.1, ()))))), ()))), ((), ((), ((), (t80 w, ((Bm .i64 t 1, ()), ()))))))) else none)
  else T.2.1 ((s, (z, (r, ()))), ((), ((), ((), (((0 : Int), ()), ()))))) := by kernel_rfl
theorem A3o (T : D3) (a b c d e a' b' c' d' e' : Int) (z : W5) : E7 T (((a', (b', (c', (d', (e', ()))))), (z, ((a, (b, (c, (d, (e, ()))))), ()))), ((), ((), ((), (((0 : Int), ()), ()))))) = T.2.2.1 (((a', (b', (c', (d', (e', ()))))), (z, ((Bm .u32 a a', (b, (c, (d, (e, ()))))), ()))), ((), ((), ((), (((0 : Int), ()), ()))))) := by kernel_rfl
theorem A3j (T : D3) (a b c d e a' b' c' d' e' : Int) (z : W5) : E7 T (((a', (b', (c', (d', (e', ()))))), (z, ((a, (b, (c, (d, (e, ()))))), ()))), ((), ((), ((), (((1 : Int), ()), ()))))) = T.2.2.1 (((a', (b', (c', (d', (e', ()))))), (z, ((a, (Bm .u32 b b', (c, (d, (e, ()))))), ()))), ((), ((), ((), (((1 : Int), ()), ()))))) := by kernel_rfl
theorem A3b (T : D3) (a b c d e a' b' c' d' e' : Int) (z : W5) : E7 T (((a', (b', (c', (d', (e', ()))))), (z, ((a, (b, (c, (d, (e, ()))))), ()))), ((), ((), ((), (((2 : Int), ()), ()))))) = T.2.2.1 (((a', (b', (c', (d', (e', ()))))), (z, ((a, (b, (Bm .u32 c c', (d, (e, ()))))), ()))), ((), ((), ((), (((2 : Int), ()), ()))))) := by kernel_rfl
theorem A2m (T : D3) (a b c d e a' b' c' d' e' : Int) (z : W5) : E7 T (((a', (b', (c', (d', (e', ()))))), (z, ((a, (b, (c, (d, (e, ()))))), ()))), ((), ((), ((), (((3 : Int), ()), ()))))) = T.2.2.1 (((a', (b', (c', (d', (e', ()))))), (z, ((a, (b, (c, (Bm .u32 d d', (e, ()))))), ()))), ((), ((), ((), (((3 : Int), ()), ()))))) := by kernel_rfl
theorem A3s (T : D3) (a b c d e a' b' c' d' e' : Int) (z : W5) : E7 T (((a', (b', (c', (d', (e', ()))))), (z, ((a, (b, (c, (d, (e, ()))))), ()))), ((), ((), ((), (((4 : Int), ()), ()))))) = T.2.2.1 (((a', (b', (c', (d', (e', ()))))), (z, ((a, (b, (c, (d, (Bm .u32 e e', ()))))), ()))), ((), ((), ((), (((4 : Int), ()), ()))))) := by kernel_rfl
theorem A2z (T : D3) (s z r : W5) : E7 T ((s, (z, (r, ()))), ((), ((), ((), (((5 : Int), ()), ()))))) = some ((), (r, ())) := by kernel_rfl
theorem A9g (s z r : W5) : Evn (fun f => (Cu f).2.1 ((s, (z, (r, ()))), ((), ((), ((), (((0 : Int), ()), ())))))) ((), (A8b r s, ())) := by
 obtain ⟨a', b', c', d', e', _⟩ := s
 obtain ⟨a, b, c, d, e, _⟩ := r
 refine Evn.some 11 fun f => ?_
 simp only [Agj, A3o, A3j, A3b, A2m, A3s, A2z, T5, show Bm .i64 (0 : Int) 1 = 1 from rfl, show Bm .i64 (1 : Int) 1 = 2 from rfl, show Bm .i64 (2 : Int) 1 = 3 from rfl, show Bm .i64 (3 : Int) 1 = 4 from rfl, show Bm .i64 (4 : Int) 1 = 5 from rfl]
 rfl
theorem A6v (w : List Int) (s : W5) (t : Nat) : Ayy w s (t + 1) = rnd w t (Ayy w s t) := rfl
attribute [local irreducible] Ayy in
theorem Azf (w : List Int) (hw : w.length = 80) (s z : W5) : ∀ (k t : Nat), t + k = 80 ->
  Evn (fun f => (Cu f).1 ((s, (z, (Ayy w s t, ()))), ((), ((), ((), (t80 w, (((t : Int), ()), ()))))))) ((), (A8b (Ayy w s 80) s, ())) := by
 intro k
 induction k with
 | zero =>
  intro t ht
  obtain rfl : t = 80 := by omega
  refine (A9g s z (Ayy w s 80)).step fun f => ?_
  generalize Ayy w s 80 = r
  simp only [Agj, show ((80 : Nat) : Int) = 80 from rfl]
  rw [A5j]; rfl
 | succ k ih =>
  intro t ht
  refine (ih (t + 1) (by omega)).step fun f => ?_
  rw [A6v]
  generalize Ayy w s t = r
  simp only [Agj]
  rw [A5j, Bav hw]
  simp only [Bdp t (by omega), Bgx, Bez, Option.bind_some, A4, Ab]
  rw [if_pos (by omega), if_pos (by omega), Aq (by omega)]; rfl
def Uo (s : W5) (b : List Int) : W5 := A8b (Ayy (Ui b 80) s 80) s
theorem A0r (s : W5) (b : List Int) (hb : b.length = 64) : Mu ((), (s, (t64 b, ()))) = some ((), (Uo s b, ())) := by
 refine ((Azf (Ui b 80) (Zj b 80) s (0, (0, (0, (0, (0, ()))))) 80 0 (by omega)).cast fun f => ?_).lim
 rw [Ber, Bay hb, hb, Axn b hb]; rfl
def w5R (s : W5) : Prop := (0 <= s.1 /\ s.1 < 4294967296) /\ (0 <= s.2.1 /\ s.2.1 < 4294967296) /\ (0 <= s.2.2.1 /\ s.2.2.1 < 4294967296) /\ (0 <= s.2.2.2.1 /\ s.2.2.2.1 < 4294967296) /\ (0 <= s.2.2.2.2.1 /\ s.2.2.2.2.1 < 4294967296)
theorem Ape (n : Int) : 0 <= IntKind.u32.wrap n /\ IntKind.u32.wrap n < 4294967296 := by rw [wrap_u32]; omega
theorem Ben (s r : W5) : w5R (A8b s r) := ⟨Ape _, Ape _, Ape _, Ape _, Ape _⟩
def wl (s : W5) : List Int := [s.1, s.2.1, s.2.2.1, s.2.2.2.1, s.2.2.2.2.1]
def b20 (s : W5) : List Int := (wl s).flatMap (be · 4)
theorem Ae4 (s : W5) : (b20 s).length = 20 := by simp [b20, wl, L3]
theorem Beg (s : W5) : J6 ((), (s, ())) = (Jq ((), ((([] : List Int), ()), ((wl s, ()), ())))).bind fun x3 => bif decide ((20 : Int) <= x3.1.1.length) then some ((), (t20 x3.1.1, ())) else none := by kernel_rfl
theorem A0a (s : W5) (h : w5R s) : J6 ((), (s, ())) = some ((), (t20 (b20 s), ())) := by
 obtain ⟨h1, h2, h3, h4, h5⟩ := h
 have hp := Bdv [] (wl s) (by
  intro w hw
  simp only [wl, List.mem_cons, List.not_mem_nil, or_false] at hw
  rcases hw with rfl | rfl | rfl | rfl | rfl <;> assumption) (by simp [wl])
 rw [Beg, hp]
 have := Ae4 s
 unfold b20 at this
 simp only [Option.bind_some, List.nil_append, this]; rfl
theorem Ay3 (T : Kg) (c : List Int) (l : List (List Int)) (z : T20) (s : W5) (b : List Int) (n : Int) : R5 T (c :: l) ((z, (s, ())), ((b, ()), ((), ((), ((n, ()), ()))))) =
  bif decide ((64 : Int) <= c.length) then ((Mu ((), (s, (t64 c, ())))).bind fun x30 => T.1 l ((z, x30.2), ((b, ()), ((), ((), ((n, ()), ())))))) else none := by kernel_rfl
theorem Avb (T : Kg) (c : List Int) (l : List (List Int)) (z : T20) (s : W5) : Qa T (c :: l) ((z, (s, ())), ((), ((), ()))) =
  bif decide ((64 : Int) <= c.length) then ((Mu ((), (s, (t64 c, ())))).bind fun x34 => T.2.1 l ((z, x34.2), ((), ((), ())))) else none := by kernel_rfl
theorem Ayo (T : Kg) (z : T20) (s : W5) : Qa T [] ((z, (s, ())), ((), ((), ()))) = (J6 ((), (s, ()))).bind fun x31 => some ((), x31.2) := by kernel_rfl
theorem Acd : ∀ (m : Nat) (b : List Int), b.length = m * 64 -> ∀ c ∈ Iy 64 m b, c.length = 64
 | 0, _, _, c, h => by cases h
 | m + 1, b, hb, c, h => by
  rcases List.mem_cons.1 h with rfl | h
  ·rw [List.length_take]; omega
  ·exact Acd m (b.drop 64) (by rw [List.length_drop]; omega) c h
theorem Azl (s : W5) (b : List Int) : w5R (Uo s b) := Ben _ _
theorem A58 {s : W5} (h : w5R s) : ∀ l : List (List Int), w5R (l.foldl Uo s)
 | [] => h
 | c :: l => by rw [List.foldl_cons]; exact A58 (Azl s c) l
attribute [local irreducible] Uo b20 t20 in
theorem A5w (z : T20) : ∀ (l : List (List Int)) (s : W5), w5R s -> (∀ c ∈ l, c.length = 64) -> Evn (fun f => (El f).2.1 l ((z, (s, ())), ((), ((), ())))) ((), (t20 (b20 (l.foldl Uo s)), ()))
 | [], s, hs, _ => by
  refine Evn.some 1 fun f => ?_
  simp only [Ac9]
  rw [Ayo, A0a s hs]; rfl
 | c :: l, s, hs, hl => by
  have hc := hl c (List.mem_cons_self ..)
  rw [List.foldl_cons]
  refine (A5w z l (Uo s c) (Azl s c) (fun q hq => hl q (List.mem_cons_of_mem _ hq))).step fun f => ?_
  simp only [Ac9]
  rw [Avb, hc, A0r s c hc]; rfl
def Bdc : W5 := (1732584193, (4023233417, (2562383102, (271733878, (3285377520, ())))))
def Aap (b : List Int) : List Int :=
 let r := b.drop (b.length / 64 * 64)
 let z := if b.length % 64 + 9 > 64 then 120 else 56
 (r ++ (128 :: List.replicate (z - r.length - 1) 0)) ++ be ((b.length : Int) * 8) 8
theorem Axi (b : List Int) : (Aap b).length = (if b.length % 64 + 9 > 64 then 2 else 1) * 64 := by
 unfold Aap
 simp only [List.length_append, List.length_cons, List.length_replicate, L3, List.length_drop]
 split <;> omega
theorem A8u (r : List Int) (n : Nat) (h : r.length < n) : (cpL (List.replicate n (0 : Int)) 0 r).set r.length 128 = r ++ (128 :: List.replicate (n - r.length - 1) 0) := by
 unfold cpL
 rw [List.take_zero, List.nil_append, List.length_replicate, Nat.sub_zero, Nat.min_eq_left (by omega), List.take_of_length_le (Nat.le_refl _), Nat.zero_add, List.drop_replicate]
 obtain ⟨m, hm⟩ : ∃ m, n - r.length = m + 1 := ⟨n - r.length - 1, by omega⟩
 rw [hm]
 simp [List.set_append, List.replicate_succ]
theorem A3p (z : T20) (s : W5) (hs : w5R s) (b : List Int) (hb : b.length <= 1000000) (hok : Iw b) : Evn (fun f => (El f).1 [] ((z, (s, ())), ((b, ()), ((), ((), ((((b.length / 64 * 64 : Nat) : Int), ()), ())))))) ((), (t20 (b20 ((Iy 64 (if b.length % 64 + 9 > 64 then 2 else 1) (Aap b)).foldl Uo s)), ())) := by
 have hlen := Axi b
 refine (A5w z (Iy 64 (if b.length % 64 + 9 > 64 then 2 else 1) (Aap b)) s hs (Acd _ _ hlen)).step fun f => ?_
 have e1 : Nm .i64 (b.length : Int) 64 = ((b.length / 64 : Nat) : Int) := by
  unfold Nm
  rw [Int.tdiv_eq_ediv_of_nonneg (by omega)]
  exact IntWalk.i64_in _ (by omega)
 have e2 : Int.tmod (b.length : Int) 64 = ((b.length % 64 : Nat) : Int) := Int.tmod_eq_emod_of_nonneg (by omega)
 have e3 : Nm .i64 ((b.length / 64 * 64 : Nat) : Int) 64 = ((b.length / 64 : Nat) : Int) := by
  unfold Nm
  rw [Int.tdiv_eq_ediv_of_nonneg (by omega), IntKind.wrap_i64]
  omega
 have hbl : N5 ((), (((b.length : Int), ()), ())) = some ((), ((((b.length / 64 + (if b.length % 64 + 9 > 64 then 2 else 1) : Nat) : Int), ()), ())) := by
  have a1 : Bm .i64 ((b.length % 64 : Nat) : Int) 1 = ((b.length % 64 + 1 : Nat) : Int) := by rw [Aq (by omega)]; omega
  have a2 : Bm .i64 ((b.length % 64 + 1 : Nat) : Int) 8 = ((b.length % 64 + 9 : Nat) : Int) := by rw [Aq (by omega)]; omega
  have a3 : Bm .i64 ((b.length / 64 : Nat) : Int) 1 = ((b.length / 64 + 1 : Nat) : Int) := by rw [Aq (by omega)]; omega
  have a4 : Bm .i64 ((b.length / 64 + 1 : Nat) : Int) 1 = ((b.length / 64 + 2 : Nat) : Int) := by rw [Aq (by omega)]; omega
  simp only [N5, Ac1, e1, e2, Ab, a1, a2, a3, a4]
  rw [if_neg (by omega)]
  by_cases c : b.length % 64 + 9 > 64
  ·rw [if_pos (by omega), if_pos c]
  ·rw [if_neg (by omega), if_neg c]
 generalize hz : (if b.length % 64 + 9 > 64 then 2 else 1 : Nat) = m at *
 have hm : 1 <= m /\ m <= 2 := by rw [<- hz]; split <;> omega
 have hm2 : (if b.length % 64 + 9 > 64 then 120 else 56 : Nat) = m * 64 - 8 := by rw [<- hz]; split <;> omega
 have hrest : b.length % 64 < m * 64 - 8 := by rw [<- hm2]; split <;> omega
 rw [Ac9]
 simp only [R5, List.isEmpty_nil, cond_true, hbl, Option.bind_some, e3]
 have hr : (b.drop (b.length / 64 * 64)).length = b.length % 64 := by rw [List.length_drop]; omega
 have q1 : H3 .i64 ((b.length / 64 + m : Nat) : Int) ((b.length / 64 : Nat) : Int) = (m : Int) := by rw [Bb (by omega)]; omega
 have q2 : Qq .i64 (m : Int) 64 = ((m * 64 : Nat) : Int) := by rw [Gs (by omega)]; omega
 have q3 : H3 .i64 ((m * 64 : Nat) : Int) 8 = ((m * 64 - 8 : Nat) : Int) := by rw [Bb (by omega)]; omega
 have q4 : H3 .i64 (b.length : Int) ((b.length / 64 * 64 : Nat) : Int) = ((b.length % 64 : Nat) : Int) := by rw [Bb (by omega)]; omega
 have q5 : Qq .u64 (Ef .u64 (b.length : Int)) 8 = (b.length : Int) * 8 := by rw [L0, Aml]; omega
 simp only [q1, q2, q3, q4, q5, A4, Ab, Int.toNat_natCast, List.length_replicate, List.take_length, show (0 : Int).toNat = 0 from rfl]
 rw [if_pos (by omega), if_pos (by omega), if_pos (by omega)]
 have hset := A8u (b.drop (b.length / 64 * 64)) (m * 64 - 8) (by omega)
 rw [hr] at hset
 have hcl : (cpL (List.replicate (m * 64 - 8) (0 : Int)) 0 (b.drop (b.length / 64 * 64))).length = m * 64 - 8 := by
  have := congrArg List.length hset
  rw [List.length_set, List.length_append, List.length_cons, List.length_replicate, hr] at this
  omega
 rw [hcl, if_pos (by omega), hset]
 have hp := Bdz ((b.drop (b.length / 64 * 64)) ++ (128 :: List.replicate (m * 64 - 8 - b.length % 64 - 1) 0)) [(b.length : Int) * 8] (by
  intro w hw
  rw [List.mem_singleton.1 hw]
  omega) (by simp only [List.length_append, List.length_cons, List.length_replicate, hr, List.length_nil]; omega)
 have ht : Aap b = (b.drop (b.length / 64 * 64) ++ (128 :: List.replicate (m * 64 - 8 - b.length % 64 - 1) 0)) ++ [(b.length : Int) * 8].flatMap (be · 8) := by
  unfold Aap
  simp only [hm2, hr, List.flatMap_cons, List.flatMap_nil, List.append_nil]
 rw [<- ht] at hp
 have hch := Axc (Aap b) 64 m (by decide) (by omega) hlen
 have hfn := A1c (Aap b) 64 (by decide)
 simp only [hp, hfn, Option.bind_some]
 rw [show ((64 : Nat) : Int) = 64 from rfl] at hch
 rw [hch]; rfl
attribute [local irreducible] Uo b20 t20 Aap in
theorem Bat (z : T20) (b : List Int) (hb : b.length <= 1000000) (hok : Iw b) : ∀ (l : List (List Int)) (s : W5), w5R s -> (∀ c ∈ l, c.length = 64) ->
  Evn (fun f => (El f).1 l ((z, (s, ())), ((b, ()), ((), ((), ((((b.length / 64 * 64 : Nat) : Int), ()), ())))))) ((), (t20 (b20 ((Iy 64 (if b.length % 64 + 9 > 64 then 2 else 1) (Aap b)).foldl Uo (l.foldl Uo s))), ()))
 | [], s, hs, _ => A3p z s hs b hb hok
 | c :: l, s, hs, hl => by
  have hc := hl c (List.mem_cons_self ..)
  rw [List.foldl_cons]
  refine (Bat z b hb hok l (Uo s c) (Azl s c) (fun q hq => hl q (List.mem_cons_of_mem _ hq))).step fun f => ?_
  simp only [Ac9]
  rw [Ay3, hc, A0r s c hc]; rfl
def Aqn (b : List Int) : W5 := (Iy 64 (if b.length % 64 + 9 > 64 then 2 else 1) (Aap b)).foldl Uo ((Iy 64 (b.length / 64) (b.take (b.length / 64 * 64))).foldl Uo Bdc)
theorem Bbf (b : List Int) : w5R (Aqn b) := A58 (A58 (by unfold w5R Bdc; decide) _) _
theorem Bgn (T : Kg) (b : List Int) : Abb T ((), ((b, ()), ())) =
  bif decide ((0 : Int) <= (0 : Int)) && decide ((0 : Int) <= Qq .i64 (Nm .i64 (b.length : Int) 64) 64) && decide (Qq .i64 (Nm .i64 (b.length : Int) 64) 64 <= (b.length : Int)) then
   ((Cm ((), ((List.drop (Int.toNat 0) (List.take (Int.toNat (Qq .i64 (Nm .i64 (b.length : Int) 64) 64)) b), ()), (((64 : Int), ()), ())))).bind fun x6 =>
   (De (x6.1.1.1, (x6.1.2.1.1, ()))).bind fun x7 =>
   T.1 x7 ((t20 [], (Bdc, ())), ((b, ()), ((), ((), ((Qq .i64 (Nm .i64 (b.length : Int) 64) 64, ()), ())))))) else none := by kernel_rfl
theorem Bdg (b : List Int) (hb : b.length <= 1000000) (hok : Iw b) : Ado ((), ((b, ()), ())) = some ((), (t20 (b20 (Aqn b)), ())) := by
 have e1 : Nm .i64 (b.length : Int) 64 = ((b.length / 64 : Nat) : Int) := by
  unfold Nm
  rw [Int.tdiv_eq_ediv_of_nonneg (by omega)]
  exact IntWalk.i64_in _ (by omega)
 have e2 : Qq .i64 ((b.length / 64 : Nat) : Int) 64 = ((b.length / 64 * 64 : Nat) : Int) := by rw [Gs (by omega)]; omega
 have hlen : (b.take (b.length / 64 * 64)).length = b.length / 64 * 64 := by rw [List.length_take]; omega
 have hch := Axc (b.take (b.length / 64 * 64)) 64 (b.length / 64) (by decide) (by omega) hlen
 rw [show ((64 : Nat) : Int) = 64 from rfl] at hch
 have hfn := A1c (b.take (b.length / 64 * 64)) 64 (by decide)
 refine ((Bat (t20 []) b hb hok (Iy 64 (b.length / 64) (b.take (b.length / 64 * 64))) Bdc (by unfold w5R Bdc; decide) (Acd _ _ hlen)).cast fun f => ?_).lim
 rw [Bgn]
 simp only [e1, e2, Int.toNat_natCast, show (0 : Int).toNat = 0 from rfl, List.drop_zero, hfn, Option.bind_some, hch, A4, Ab]
 rw [if_pos (by omega)]
theorem Ajc (y : Int) : Fv (y + 1) 1 1 = Fv y 1 1 + Aog y := by
 unfold Aog Fv
 simp only [show (1 : Int) <= 2 by decide, if_true]
 by_cases h : R0 y
 ·rw [if_pos h]; unfold R0 at h; omega
 ·rw [if_neg h]; unfold R0 at h; omega
theorem Ac8 (y : Int) : Fv (y + 400) 1 1 = Fv y 1 1 + 146097 := by
 unfold Fv
 simp only [show (1 : Int) <= 2 by decide, if_true]
 omega
theorem Ats (y m : Int) (h : 1 <= m /\ m <= 11) : Fv y (m + 1) 1 = Fv y m 1 + Awx y m := by
 have : m = 1 \/ m = 2 \/ m = 3 \/ m = 4 \/ m = 5 \/ m = 6 \/ m = 7 \/ m = 8 \/ m = 9 \/ m = 10 \/ m = 11 := by omega
 rcases this with rfl | rfl | rfl | rfl | rfl | rfl | rfl | rfl | rfl | rfl | rfl <;> simp [Fv, Awx]
 all_goals first | omega | (by_cases h : R0 y <;> simp only [h, if_true, if_false] <;> unfold R0 at h <;> omega)
theorem Amu (y m d : Int) : Fv y m d = Fv y m 1 + d - 1 := by
 unfold Fv; split <;> omega
theorem I1 (y : Int) (h : -30000 <= y /\ y <= 30000) : -12000000 <= Fv y 1 1 /\ Fv y 1 1 <= 12000000 := by
 unfold Fv; rw [if_pos (by decide)]; omega
theorem Arh (y m d : Int) (hy : -30000 <= y /\ y <= 30000) (hm : 1 <= m /\ m <= 12) (hd : 1 <= d /\ d <= 31) : -12000000 <= Fv y m d /\ Fv y m d <= 12000000 := by
 unfold Fv; split <;> omega
theorem Afs (y m : Int) (hm : 1 <= m /\ m <= 12) : I7 ((), ((y, ()), ((m, ()), ()))) = some ((), ((Awx y m, ()), ())) := by
 simp only [I7, Aaw, Ae, Option.bind_some, Option.isNone_none, Option.isNone_some, Option.isSome_none, Option.isSome_some, Bool.not_true, Bool.not_false, cond_true, cond_false, Ab, Al, Ak, Ai, Ar1, A4]
 by_cases h : m = 2
 ·subst h
  simp only [if_true, Awx]
  by_cases h5 : R0 y
  ·simp [h5]
  ·simp only [h5, if_false]; rfl
 ·rw [if_neg h]
  simp (disch := omega) only [Bb]
  have : m = 1 \/ m = 3 \/ m = 4 \/ m = 5 \/ m = 6 \/ m = 7 \/ m = 8 \/ m = 9 \/ m = 10 \/ m = 11 \/ m = 12 := by omega
  rcases this with rfl | rfl | rfl | rfl | rfl | rfl | rfl | rfl | rfl | rfl | rfl <;> rfl
theorem A6y (y : Int) (hy : -30000 <= y /\ y <= 30000) : ∀ (n : Nat) (x N : Int), -30000 <= x -> x <= y -> y - x = n -> -30000000 <= N -> N <= 50000000 - 366 * n ->
  Evn (fun k => (Bp k).2.2.1 ((), ((y, ()), ((N, ()), ((x, ()), ()))))) ((), ((N + Fv y 1 1 - Fv x 1 1, ()), ())) := by
 intro n; induction n with
 | zero =>
  intro x  N  h0  h1  h2  _  _
  obtain rfl : x = y := by omega
  refine Evn.some 1 fun k => ?_
  simp only [Kw, Ky, Ae, Option.bind_some, Option.isNone_none, Option.isNone_some, Option.isSome_none, Option.isSome_some, Bool.not_true, Bool.not_false, cond_true, cond_false, Ab, Al, Ak, Ai, Int.lt_irrefl, if_false]
  rw [show N + Fv x 1 1 - Fv x 1 1 = N by omega]
 | succ n ihn =>
  intro x  N  h0  h1  h2  h3  h4
  have h' : 365 <= Aog x /\ Aog x <= 366 := by unfold Aog; split <;> omega
  have ih := ihn (x + 1) (N + Aog x) (by omega) (by omega) (by omega) (by omega) (by omega)
  rw [Ajc, show N + Aog x + Fv y 1 1 - (Fv x 1 1 + Aog x) = N + Fv y 1 1 - Fv x 1 1 by omega] at ih
  refine ih.step fun k => ?_
  simp only [Kw, Ky, Ae, Option.bind_some, Option.isNone_none, Option.isNone_some, Option.isSome_none, Option.isSome_some, Bool.not_true, Bool.not_false, cond_true, cond_false, Ab, Al, Ak, Ai, Ai2]
  rw [if_pos (by omega), Aq (by omega), Aq (by omega)]
theorem Asq : ∀ (y N : Int), 1970 <= y -> y <= 30000 -> y < 1970 + 400 * (((0 : Nat) : Int) + 1) -> -20000000 <= N -> N <= 40000000 - 146097 * ((0 : Nat) : Int) ->
  Evn (fun k => (Bp k).2.1 ((), ((y, ()), ((N, ()), ())))) ((), ((N + Fv y 1 1, ()), ())) := by
 intro y  N  h0  h1  h2  h3  h4
 have ih := A6y y (by omega) (y - 1970).toNat 1970 N (by omega) (by omega) (by omega) (by omega) (by omega)
 rw [show Fv 1970 1 1 = 0 from rfl, Int.sub_zero] at ih
 refine ih.step fun k => ?_
 simp only [Kw, Mf, Ae, Option.bind_some, Option.isNone_none, Option.isNone_some, Option.isSome_none, Option.isSome_some, Bool.not_true, Bool.not_false, cond_true, cond_false, Ab, Al, Ak, Ai, ge_iff_le]
 rw [if_neg (by omega)]
theorem A8y : ∀ (n : Nat) (y N : Int), 1970 <= y -> y <= 30000 -> y < 1970 + 400 * (n + 1) -> -20000000 <= N -> N <= 40000000 - 146097 * n ->
  Evn (fun k => (Bp k).2.1 ((), ((y, ()), ((N, ()), ())))) ((), ((N + Fv y 1 1, ()), ())) := by
 intro n; induction n with
 | zero => exact Asq
 | succ n ihn =>
  intro y  N  h0  h1  h2  h3  h4
  by_cases h : 2370 <= y
  ·have ih := ihn (y - 400) (N + 146097) (by omega) (by omega) (by omega) (by omega) (by omega)
   have e := Ac8 (y - 400)
   rw [show y - 400 + 400 = y by omega] at e
   rw [show N + 146097 + Fv (y - 400) 1 1 = N + Fv y 1 1 by omega] at ih
   refine ih.step fun k => ?_
   simp only [Kw, Mf, Ae, Option.bind_some, Option.isNone_none, Option.isNone_some, Option.isSome_none, Option.isSome_some, Bool.not_true, Bool.not_false, cond_true, cond_false, Ab, Al, Ak, Ai, ge_iff_le]
   rw [if_pos h, Bb (by omega), Aq (by omega)]
  ·exact Asq y N h0 h1 (by omega) h3 (by omega)
theorem Ars : ∀ (y N : Int), -30000 <= y -> y <= 30000 -> 1970 <= y + 400 * ((0 : Nat) : Int) -> -20000000 + 146097 * ((0 : Nat) : Int) <= N -> N <= 0 ->
  Evn (fun k => (Bp k).1 ((), ((y, ()), ((N, ()), ())))) ((), ((N + Fv y 1 1, ()), ())) := by
 intro y  N  h0  h1  h2  h3  h4
 have ih := A8y 100 y N (by omega) (by omega) (by omega) (by omega) (by omega)
 refine ih.step fun k => ?_
 simp only [Kw, Mq, Ae, Option.bind_some, Option.isNone_none, Option.isNone_some, Option.isSome_none, Option.isSome_some, Bool.not_true, Bool.not_false, cond_true, cond_false, Ab, Al, Ak, Ai]
 rw [if_neg (by omega)]
theorem A85 : ∀ (n : Nat) (y N : Int), -30000 <= y -> y <= 30000 -> 1970 <= y + 400 * n -> -20000000 + 146097 * n <= N -> N <= 0 ->
  Evn (fun k => (Bp k).1 ((), ((y, ()), ((N, ()), ())))) ((), ((N + Fv y 1 1, ()), ())) := by
 intro n; induction n with
 | zero => exact Ars
 | succ n ihn =>
  intro y  N  h0  h1  h2  h3  h4
  by_cases h : y < 1970
  ·have ih := ihn (y + 400) (N - 146097) (by omega) (by omega) (by omega) (by omega) (by omega)
   have e := Ac8 y
   rw [show N - 146097 + Fv (y + 400) 1 1 = N + Fv y 1 1 by omega] at ih
   refine ih.step fun k => ?_
   simp only [Kw, Mq, Ae, Option.bind_some, Option.isNone_none, Option.isNone_some, Option.isSome_none, Option.isSome_some, Bool.not_true, Bool.not_false, cond_true, cond_false, Ab, Al, Ak, Ai]
   rw [if_pos h, Aq (by omega), Bb (by omega)]
  ·exact Ars y N h0 h1 (by omega) (by omega) h4
theorem Yc (y : Int) (h : -30000 <= y /\ y <= 30000) : La ((), ((y, ()), ())) = some ((), ((Fv y 1 1, ()), ())) := by
 have := A85 80 y 0 (by omega) (by omega) (by omega) (by omega) (by omega)
 rw [Int.zero_add] at this
 exact this.lim
theorem Arb : Q5 ((), ()) = some ((), ((2932896, ()), ())) := by
 simp only [Q5, Aeq, Yc 10000 (by omega)]; rfl
theorem Bgs (y m : Int) (hm : 1 <= m /\ m <= 12) : ∀ (n : Nat) (x N : Int), 1 <= x -> x <= m -> m - x = n -> -30000000 <= N -> N <= 50000000 - 31 * n ->
  Evn (fun k => (Kf k).1 ((), ((y, ()), ((m, ()), ((N, ()), ((x, ()), ())))))) ((), ((N + Fv y m 1 - Fv y x 1, ()), ())) := by
 intro n; induction n with
 | zero =>
  intro x  N  h0  h1  h2  _  _
  obtain rfl : x = m := by omega
  refine Evn.some 1 fun k => ?_
  simp only [Arj, Sg, Ae, Option.bind_some, Option.isNone_none, Option.isNone_some, Option.isSome_none, Option.isSome_some, Bool.not_true, Bool.not_false, cond_true, cond_false, Ab, Al, Ak, Ai, Int.lt_irrefl, if_false]
  rw [show N + Fv y x 1 - Fv y x 1 = N by omega]
 | succ n ihn =>
  intro x  N  h0  h1  h2  h3  h4
  have h' := W8 y x
  have ih := ihn (x + 1) (N + Awx y x) (by omega) (by omega) (by omega) (by omega) (by omega)
  rw [Ats y x (by omega), show N + Awx y x + Fv y m 1 - (Fv y x 1 + Awx y x) = N + Fv y m 1 - Fv y x 1 by omega] at ih
  refine ih.step fun k => ?_
  simp only [Arj, Sg, Ae, Option.bind_some, Option.isNone_none, Option.isNone_some, Option.isSome_none, Option.isSome_some, Bool.not_true, Bool.not_false, cond_true, cond_false, Ab, Al, Ak, Ai, Afs y x (by omega)]
  rw [if_pos (by omega), Aq (by omega), Aq (by omega)]
theorem A8x (y m d : Int) (hy : -30000 <= y /\ y <= 30000) (hm : 1 <= m /\ m <= 12) (hd : 1 <= d /\ d <= 31) : Si ((), ((y, ()), ((m, ()), ((d, ()), ())))) = some ((), ((Fv y m d, ()), ())) := by
 have hr := I1 y hy
 have ih := Bgs y m hm (m - 1).toNat 1 (Fv y 1 1 + d - 1) (by omega) (by omega) (by omega) (by omega) (by omega)
 rw [show Fv y 1 1 + d - 1 + Fv y m 1 - Fv y 1 1 = Fv y m d by rw [Amu y m d]; omega] at ih
 refine (ih.cast fun k => ?_).lim
 simp only [Abn, Ae, Option.bind_some, Option.isNone_none, Option.isNone_some, Option.isSome_none, Option.isSome_some, Bool.not_true, Bool.not_false, cond_true, cond_false, Ab, Al, Ak, Ai, Yc y hy]
 rw [Aq (by omega), Bb (by omega)]
def T4 (n y m d : Int) : Prop := (1 <= m /\ m <= 12) /\ (1 <= d /\ d <= Awx y m) /\ Fv y m d = n
theorem Bff (y m : Int) (hm : 1 <= m /\ m <= 12) : Fv y 1 1 + 28 * (m - 1) <= Fv y m 1 /\ Fv y m 1 + Awx y m <= Fv (y + 1) 1 1 := by
 rw [Ajc]
 have : m = 1 \/ m = 2 \/ m = 3 \/ m = 4 \/ m = 5 \/ m = 6 \/ m = 7 \/ m = 8 \/ m = 9 \/ m = 10 \/ m = 11 \/ m = 12 := by omega
 rcases this with rfl | rfl | rfl | rfl | rfl | rfl | rfl | rfl | rfl | rfl | rfl | rfl <;> simp [Fv, Awx, Aog]
 all_goals (by_cases h : R0 y <;> simp only [h, if_true, if_false] <;> unfold R0 at h <;> omega)
theorem Ke {y y' : Int} (h : y < y') : Fv (y + 1) 1 1 <= Fv y' 1 1 := by
 unfold Fv; simp only [show (1 : Int) <= 2 by decide, if_true]; omega
theorem Afp {y m : Int} : ∀ (n : Nat), 1 <= m -> m + 1 + n <= 12 -> Fv y m 1 + Awx y m <= Fv y (m + 1 + n) 1 := by
 intro n; induction n with
 | zero => intro h0 h1; rw [show m + 1 + ((0 : Nat) : Int) = m + 1 by omega, Ats y m (by omega)]; omega
 | succ n ih =>
  intro h0 h1
  have := ih h0 (by omega)
  have e := Ats y (m + 1 + n) (by omega)
  have := W8 y (m + 1 + n)
  rw [show m + 1 + ((n + 1 : Nat) : Int) = m + 1 + n + 1 by omega, e]; omega
theorem P5 {n y m d : Int} (h : T4 n y m d) : Fv y 1 1 <= n /\ n < Fv (y + 1) 1 1 := by
 obtain ⟨h1, h2, h3⟩ := h
 have := Bff y m h1
 rw [Amu] at h3; omega
theorem Aic {n y m d y' m' d' : Int} (h : T4 n y m d) (h' : T4 n y' m' d') : y = y' /\ m = m' /\ d = d' := by
 have a := P5 h
 have a' := P5 h'
 have e : y = y' := by
  rcases Int.lt_trichotomy y y' with c | c | c
  ·have := Ke c; omega
  ·exact c
  ·have := Ke c; omega
 subst e
 obtain ⟨h1, h2, h3⟩ := h
 obtain ⟨k1, k2, k3⟩ := h'
 rw [Amu] at h3 k3
 have e : m = m' := by
  rcases Int.lt_trichotomy m m' with c | c | c
  ·have := Afp (y := y) (m := m) (m' - m - 1).toNat (by omega) (by omega)
   rw [show m + 1 + ((m' - m - 1).toNat : Int) = m' by omega] at this; omega
  ·exact c
  ·have := Afp (y := y) (m := m') (m - m' - 1).toNat (by omega) (by omega)
   rw [show m' + 1 + ((m - m' - 1).toNat : Int) = m by omega] at this; omega
 subst e
 exact ⟨rfl, rfl, by omega⟩
theorem Bd2 {f o : Int} (h : 0 <= f /\ f <= 146096) (ho : o = (f - f / 1460 + f / 36524 - f / 146096) / 365) :
  0 <= o /\ o <= 399 /\ 0 <= f - (365 * o + o / 4 - o / 100) /\ f - (365 * o + o / 4 - o / 100) <= 365 /\
   (f - (365 * o + o / 4 - o / 100) = 365 -> (o + 1) % 4 = 0 /\ ((o + 1) % 100 ≠ 0 \/ (o + 1) % 400 = 0)) := by
 by_cases h4 : f = 146096
 ·subst h4; subst ho; decide
 obtain ⟨c, q, r, hf, hc, hq, hr, hl⟩ : ∃ c q r : Int, f = 36524 * c + 1461 * q + r /\ (0 <= c /\ c <= 3) /\ (0 <= q /\ q <= 24) /\ (0 <= r /\ r <= 1460) /\ (q = 24 -> r <= 1459) :=
  ⟨f / 36524, f % 36524 / 1461, f % 36524 % 1461, by omega, by omega, by omega, by omega, by omega⟩
 have e1 : f / 36524 = c := by omega
 have e2 : f / 146096 = 0 := by omega
 obtain ⟨e, he, hee⟩ : ∃ e : Int, f / 1460 = 25 * c + q + e /\ ((e = 0 /\ 24 * c + q + r < 1460) \/ (e = 1 /\ 1460 <= 24 * c + q + r)) := by
  by_cases hh : 24 * c + q + r < 1460
  ·exact ⟨0, by omega, .inl ⟨rfl, hh⟩⟩
  ·exact ⟨1, by omega, .inr ⟨rfl, by omega⟩⟩
 rw [e1, e2, he] at ho
 have ho' : o = (365 * (100 * c + 4 * q) + (r - e)) / 365 := by rw [ho]; congr 1; omega
 obtain ⟨s, hs, ht⟩ : ∃ s : Int, o = 100 * c + 4 * q + s /\ (0 <= s /\ s <= 3 /\ 365 * s <= r /\ r <= 365 * s + 365 /\ (r = 365 * s + 365 -> r = 1460 /\ s = 3)) :=
  ⟨(r - e) / 365, by omega, by omega⟩
 have f1 : o / 4 = 25 * c + q := by omega
 have f2 : o / 100 = c := by omega
 rw [f1, f2]
 refine ⟨by omega, by omega, by omega, by omega, fun hh => ?_⟩
 have : r = 1460 /\ s = 3 := ht.2.2.2.2 (by omega)
 omega
theorem Bda {y p r : Int} (hr : 0 <= r /\ r <= 365) (hp : p = (5 * r + 2) / 153) (hl : r = 365 -> R0 (y + 1)) :
  T4 (365 * y + y / 4 - y / 100 + y / 400 + r - 719468) (if p + 3 > 12 then y + 1 else y) (if p + 3 > 12 then p + 3 - 12 else p + 3) (r - (153 * p + 2) / 5 + 1) := by
 have hp' : p = 0 \/ p = 1 \/ p = 2 \/ p = 3 \/ p = 4 \/ p = 5 \/ p = 6 \/ p = 7 \/ p = 8 \/ p = 9 \/ p = 10 \/ p = 11 := by omega
 rcases hp' with rfl | rfl | rfl | rfl | rfl | rfl | rfl | rfl | rfl | rfl | rfl | rfl <;> refine ⟨by simp, ?_, by simp [Fv]; omega⟩ <;> simp [Awx]
 all_goals first | omega | skip
 by_cases h : r = 365
 ·rw [if_pos (hl h)]; omega
 ·split <;> omega
theorem A37 {n y m d : Int} (h : T4 n y m d) (hn : -4371587 <= n /\ n <= 2932896) : -9999 <= y /\ y <= 9999 := by
 have := P5 h
 have e1 : Fv (-9999) 1 1 = -4371587 := rfl
 have e2 : Fv 10000 1 1 = 2932897 := rfl
 constructor
 ·by_cases c : y < -9999
  ·have := Ke c; omega
  ·omega
 ·by_cases c : 9999 < y
  ·have := Ke (y := 9999) (y' := y) c
   rw [show (9999 : Int) + 1 = 10000 from rfl] at this; omega
  ·omega
theorem A9y {o E : Int} (ho : 0 <= o /\ o <= 399) : 365 * (o + E * 400) + (o + E * 400) / 4 - (o + E * 400) / 100 + (o + E * 400) / 400 = 146097 * E + (365 * o + o / 4 - o / 100) := by
 have e1 : (o + E * 400) / 4 = o / 4 + 100 * E := by omega
 have e2 : (o + E * 400) / 100 = o / 100 + 4 * E := by omega
 have e3 : (o + E * 400) / 400 = E := by omega
 rw [e1, e2, e3]; omega
theorem Bdk {f : Int} (h : 0 <= f /\ f <= 146096) : Nm .i64 (H3 .i64 (Bm .i64 (H3 .i64 f (Nm .i64 f 1460)) (Nm .i64 f 36524)) (Nm .i64 f 146096)) 365 = (f - f / 1460 + f / 36524 - f / 146096) / 365 := by
 have a : 0 <= f / 1460 /\ f / 1460 <= f := by omega
 have b : 0 <= f / 36524 /\ f / 36524 <= 4 := by omega
 have c : 0 <= f / 146096 /\ f / 146096 <= 1 := by omega
 have d : 0 <= f - f / 1460 + f / 36524 - f / 146096 := by omega
 rw [Ss (a := f) (by decide) (by omega), Ss (a := f) (by decide) (by omega), Ss (a := f) (by decide) (by omega)]
 generalize f / 1460 = x at *
 generalize f / 36524 = y at *
 generalize f / 146096 = z at *
 rw [Bb (a := f) (by omega), Aq (by omega), Bb (by omega), Ss (by decide) (by omega)]
theorem Bc3 {f o : Int} (h : 0 <= f /\ f <= 146096) (ho : 0 <= o /\ o <= 399) : H3 .i64 f (H3 .i64 (Bm .i64 (Qq .i64 365 o) (Nm .i64 o 4)) (Nm .i64 o 100)) = f - (365 * o + o / 4 - o / 100) := by
 have a : 0 <= o / 4 /\ o / 4 <= 99 := by omega
 have b : 0 <= o / 100 /\ o / 100 <= 3 := by omega
 rw [Ss (a := o) (by decide) (by omega), Ss (a := o) (by decide) (by omega)]
 generalize o / 4 = x at *
 generalize o / 100 = y at *
 rw [Gs (by omega), Aq (by omega), Bb (a := 365 * o + x) (by omega), Bb (by omega)]
theorem Bcv {r p : Int} (hr : 0 <= r /\ r <= 365) (hp : 0 <= p /\ p <= 11) : Bm .i64 (H3 .i64 r (Nm .i64 (Bm .i64 (Qq .i64 153 p) 2) 5)) 1 = r - (153 * p + 2) / 5 + 1 := by
 have a : 0 <= (153 * p + 2) / 5 /\ (153 * p + 2) / 5 <= 400 := by omega
 rw [Gs (by omega), Aq (a := 153 * p) (by omega), Ss (by decide) (by omega)]
 generalize (153 * p + 2) / 5 = x at *
 rw [Bb (by omega), Aq (by omega)]
theorem Afh (n : Int) (hn : -4371587 <= n /\ n <= 2932896) : ∃ y m d, Nc ((), ((n, ()), ())) = some ((), ((y, ()), ((m, ()), ((d, ()), ((none, ()), ()))))) /\ T4 n y m d := by
 have hz : 0 <= (n + 719468) % 146097 /\ (n + 719468) % 146097 <= 146096 := by omega
 have hg := Bd2 hz rfl
 generalize hf : (n + 719468) % 146097 = f at hz hg
 generalize hE : (n + 719468) / 146097 = E
 have hn2 : n + 719468 = 146097 * E + f := by omega
 have hEr : -40 <= E /\ E <= 40 := by omega
 generalize ho : (f - f / 1460 + f / 36524 - f / 146096) / 365 = o at hg
 generalize hr : f - (365 * o + o / 4 - o / 100) = r at hg
 have hd := Bda (y := o + E * 400) (p := (5 * r + 2) / 153) (r := r) (by omega) rfl (fun h => by unfold R0; omega)
 have en : 365 * (o + E * 400) + (o + E * 400) / 4 - (o + E * 400) / 100 + (o + E * 400) / 400 + r - 719468 = n := by
  have ho : 0 <= o /\ o <= 399 := ⟨hg.1, hg.2.1⟩
  rw [A9y ho]; omega
 rw [en] at hd
 refine ⟨_, _, _, ?_, hd⟩
 simp only [Nc, Ac0, Ah0, Amy, Ae, Option.bind_some, Option.isNone_none, Option.isNone_some, Option.isSome_none, Option.isSome_some, Bool.not_true, Bool.not_false, cond_true, cond_false, Ab, Al, Ak, Ai, gt_iff_lt]
 rw [if_neg (by omega), if_neg (by omega)]
 have e0 : Bm .i64 n 719468 = n + 719468 := Aq (by omega)
 simp only [e0]
 rw [Apd _ _ (by decide) (by omega), hE]
 simp only [Option.bind_some]
 have e1 : H3 .i64 (n + 719468) (Qq .i64 E 146097) = f := by rw [Gs (by omega), Bb (by omega)]; omega
 simp only [e1]
 have e2 := Bdk hz
 rw [ho] at e2
 simp only [e2]
 have e3 := Bc3 hz (o := o) ⟨hg.1, hg.2.1⟩
 rw [hr] at e3
 simp only [e3]
 have hr' : 0 <= r /\ r <= 365 := ⟨hg.2.2.1, hg.2.2.2.1⟩
 have ho' : 0 <= o /\ o <= 399 := ⟨hg.1, hg.2.1⟩
 clear hg ho hr e2 e3 en hd
 have e4 : Nm .i64 (Bm .i64 (Qq .i64 5 r) 2) 153 = (5 * r + 2) / 153 := by
  rw [Gs (by omega), Aq (by omega), Ss (by decide) (by omega)]
 simp only [e4]
 generalize hp : (5 * r + 2) / 153 = p
 have hp' : 0 <= p /\ p <= 11 := by omega
 have e5 := Bcv hr' hp'
 have e6 : Bm .i64 o (Qq .i64 E 400) = o + E * 400 := by rw [Gs (by omega), Aq (by omega)]
 have e7 : Bm .i64 p 3 = p + 3 := Aq (by omega)
 simp only [e5, e6, e7]
 by_cases h : 12 < p + 3
 ·rw [if_pos h, if_pos h, if_pos h, Bb (by omega), Aq (by omega)]
 ·rw [if_neg h, if_neg h, if_neg h]
theorem Akh {n : Int} (hn : ¬(-4371587 <= n /\ n <= 2932896)) : Nc ((), ((n, ()), ())) = some ((), ((0, ()), ((0, ()), ((0, ()), ((some 13, ()), ()))))) := by
 simp only [Nc, Ac0, Ah0, Amy, Ae, Option.bind_some, Option.isNone_none, Option.isNone_some, Option.isSome_none, Option.isSome_some, Bool.not_true, Bool.not_false, cond_true, cond_false, Ab, Al, Ak, Ai, gt_iff_lt]
 by_cases h : n < -4371587
 ·rw [if_pos h]
 ·rw [if_neg h, if_pos (by omega)]
theorem Bcl (n : Int) (hn : -4371587 <= n /\ n <= 2932896) : ∃ y m d, T4 n y m d := by
 obtain ⟨y, m, d, _, h⟩ := Afh n hn
 exact ⟨y, m, d, h⟩
theorem A99 {n y m d : Int} (h : T4 n y m d) (hy : -30000 <= y /\ y <= 30000) : ∀ (k : Nat) (x : Int), 1 <= x -> m = x + k ->
  Evn (fun j => (A9 j).2.2.2.1 ((), ((n - Fv y x 1, ()), ((y, ()), ((x, ()), ()))))) ((), ((y, ()), ((m, ()), ((d, ()), ())))) := by
 obtain ⟨h1, h2, h3⟩ := h
 have hr := I1 y hy
 rw [Amu] at h3
 intro k; induction k with
 | zero =>
  intro x hx hm
  obtain rfl : m = x := by omega
  have hl := W8 y m
  refine Evn.some 1 fun k => ?_
  simp only [Iz, Mk, Ae, Option.bind_some, Option.isNone_none, Option.isNone_some, Option.isSome_none, Option.isSome_some, Bool.not_true, Bool.not_false, cond_true, cond_false, Ab, Al, Ak, Ai, Afs y m h1, ge_iff_le]
  rw [if_neg (by omega), Aq (by omega), show n - Fv y m 1 + 1 = d by omega]
 | succ k ih =>
  intro x hx hm
  have hxr := Arh y x 1 hy (by omega) (by omega)
  have hmr := Arh y m 1 hy (by omega) (by omega)
  have hl := W8 y m
  have := Afp (y := y) (m := x) k hx (by omega)
  rw [show x + 1 + (k : Int) = m by omega] at this
  have := ih (x + 1) (by omega) (by omega)
  rw [Ats y x (by omega), show n - (Fv y x 1 + Awx y x) = n - Fv y x 1 - Awx y x by omega] at this
  refine this.step fun k => ?_
  have hl' := W8 y x
  simp only [Iz, Mk, Ae, Option.bind_some, Option.isNone_none, Option.isNone_some, Option.isSome_none, Option.isSome_some, Bool.not_true, Bool.not_false, cond_true, cond_false, Ab, Al, Ak, Ai, Afs y x (by omega), ge_iff_le]
  rw [if_pos (by omega), Bb (by omega), Aq (by omega)]
theorem Bak {n y m d : Int} (h : T4 n y m d) (hy : -30000 <= y /\ y <= 30000) : ∀ (k : Nat) (x : Int), -30000 <= x -> y = x + k ->
  Evn (fun j => (A9 j).2.2.1 ((), ((n - Fv x 1 1, ()), ((x, ()), ())))) ((), ((y, ()), ((m, ()), ((d, ()), ())))) := by
 have hyr := P5 h
 have hr := I1 y hy
 have hle := Ajc y
 have hl : 365 <= Aog y /\ Aog y <= 366 := by unfold Aog; split <;> omega
 intro k; induction k with
 | zero =>
  intro x hx hm
  obtain rfl : y = x := by omega
  refine (A99 h hy (m - 1).toNat 1 (by omega) (by have := h.1; omega)).step fun k => ?_
  simp only [Iz, Mm, Ae, Option.bind_some, Option.isNone_none, Option.isNone_some, Option.isSome_none, Option.isSome_some, Bool.not_true, Bool.not_false, cond_true, cond_false, Ab, Al, Ak, Ai, Ai2, ge_iff_le]
  rw [if_neg (by omega)]
 | succ k ih =>
  intro x hx hm
  have hxr := I1 x (by omega)
  have hxe := Ajc x
  have hxl : 365 <= Aog x /\ Aog x <= 366 := by unfold Aog; split <;> omega
  have := Ke (y := x) (y' := y) (by omega)
  have ih' := ih (x + 1) (by omega) (by omega)
  rw [hxe, show n - (Fv x 1 1 + Aog x) = n - Fv x 1 1 - Aog x by omega] at ih'
  refine ih'.step fun k => ?_
  simp only [Iz, Mm, Ae, Option.bind_some, Option.isNone_none, Option.isNone_some, Option.isSome_none, Option.isSome_some, Bool.not_true, Bool.not_false, cond_true, cond_false, Ab, Al, Ak, Ai, Ai2, ge_iff_le]
  rw [if_pos (by omega), Bb (by omega), Aq (by omega)]
theorem Avk {y y' : Int} (h : Fv y 1 1 < Fv (y' + 1) 1 1) : y <= y' := by
 by_cases c : y' < y
 ·have := Ke c; omega
 ·omega
theorem Bci {n y m d : Int} (h : T4 n y m d) (hy : -30000 <= y /\ y <= 30000) : ∀ (k : Nat) (x : Int), -30000 <= x -> x <= 30000 -> Fv x 1 1 <= n -> n - Fv x 1 1 < 146097 * (k + 1) ->
  Evn (fun j => (A9 j).2.1 ((), ((n - Fv x 1 1, ()), ((x, ()), ())))) ((), ((y, ()), ((m, ()), ((d, ()), ())))) := by
 have hyr := P5 h
 have hr := I1 y hy
 have hle := Ajc y
 have hl : 365 <= Aog y /\ Aog y <= 366 := by unfold Aog; split <;> omega
 have base : ∀ (x : Int), -30000 <= x -> x <= 30000 -> Fv x 1 1 <= n -> n - Fv x 1 1 < 146097 ->
  Evn (fun j => (A9 j).2.1 ((), ((n - Fv x 1 1, ()), ((x, ()), ())))) ((), ((y, ()), ((m, ()), ((d, ()), ())))) := by
  intro x h0 h1 h2 h3
  have hxr := I1 x (by omega)
  have hxy : x <= y := Avk (by omega)
  refine (Bak h hy (y - x).toNat x h0 (by omega)).step fun k => ?_
  simp only [Iz, Ol, Ae, Option.bind_some, Option.isNone_none, Option.isNone_some, Option.isSome_none, Option.isSome_some, Bool.not_true, Bool.not_false, cond_true, cond_false, Ab, Al, Ak, Ai, ge_iff_le]
  rw [if_neg (by omega)]
 intro k; induction k with
 | zero => intro x h0 h1 h2 h3; exact base x h0 h1 h2 (by omega)
 | succ k ih =>
  intro x h0 h1 h2 h3
  by_cases c : 146097 <= n - Fv x 1 1
  ·have e := Ac8 x
   have hxr := I1 x (by omega)
   have hxy : x + 400 <= y := Avk (by omega)
   have ih' := ih (x + 400) (by omega) (by omega) (by omega) (by omega)
   rw [e, show n - (Fv x 1 1 + 146097) = n - Fv x 1 1 - 146097 by omega] at ih'
   refine ih'.step fun k => ?_
   simp only [Iz, Ol, Ae, Option.bind_some, Option.isNone_none, Option.isNone_some, Option.isSome_none, Option.isSome_some, Bool.not_true, Bool.not_false, cond_true, cond_false, Ab, Al, Ak, Ai, ge_iff_le]
   rw [if_pos (by omega), Bb (by omega), Aq (by omega)]
  ·exact base x h0 h1 h2 (by omega)
theorem Bdd {n y m d : Int} (h : T4 n y m d) (hn : -4371587 <= n /\ n <= 2932896) : ∀ (k : Nat) (x : Int), -20000 + 400 * k <= x -> x <= 1970 -> n - Fv x 1 1 < 146097 * 80 -> 0 <= n - Fv x 1 1 + 146097 * k ->
  Evn (fun j => (A9 j).1 ((), ((n - Fv x 1 1, ()), ((x, ()), ())))) ((), ((y, ()), ((m, ()), ((d, ()), ())))) := by
 have hy := A37 h hn
 have base : ∀ (x : Int), -20000 <= x -> x <= 1970 -> n - Fv x 1 1 < 146097 * 80 -> 0 <= n - Fv x 1 1 ->
  Evn (fun j => (A9 j).1 ((), ((n - Fv x 1 1, ()), ((x, ()), ())))) ((), ((y, ()), ((m, ()), ((d, ()), ())))) := by
  intro x h0 h1 h2 h3
  refine (Bci h (by omega) 80 x (by omega) (by omega) (by omega) (by omega)).step fun k => ?_
  simp only [Iz, Oy, Ae, Option.bind_some, Option.isNone_none, Option.isNone_some, Option.isSome_none, Option.isSome_some, Bool.not_true, Bool.not_false, cond_true, cond_false, Ab, Al, Ak, Ai]
  rw [if_neg (by omega)]
 intro k; induction k with
 | zero => intro x h0 h1 h2 h3; exact base x (by omega) h1 h2 (by omega)
 | succ k ih =>
  intro x h0 h1 h2 h3
  by_cases c : n - Fv x 1 1 < 0
  ·have e := Ac8 (x - 400)
   rw [show x - 400 + 400 = x by omega] at e
   have hxr := I1 x (by omega)
   have ih' := ih (x - 400) (by omega) (by omega) (by omega) (by omega)
   rw [show n - Fv (x - 400) 1 1 = n - Fv x 1 1 + 146097 by omega] at ih'
   refine ih'.step fun k => ?_
   simp only [Iz, Oy, Ae, Option.bind_some, Option.isNone_none, Option.isNone_some, Option.isSome_none, Option.isSome_some, Bool.not_true, Bool.not_false, cond_true, cond_false, Ab, Al, Ak, Ai]
   rw [if_pos (by omega), Aq (by omega), Bb (by omega)]
  ·exact base x (by omega) h1 h2 (by omega)
theorem A2l {n y m d : Int} (hn : -4371587 <= n /\ n <= 2932896) (h : T4 n y m d) : Vi ((), ((n, ()), ())) = some ((), ((y, ()), ((m, ()), ((d, ()), ())))) := by
 have := Bdd h hn 40 1970 (by omega) (by omega) (by rw [show Fv 1970 1 1 = 0 from rfl]; omega) (by rw [show Fv 1970 1 1 = 0 from rfl]; omega)
 rw [show Fv 1970 1 1 = 0 from rfl, Int.sub_zero] at this
 exact this.lim
def Lo (n : Int) : Prop := -25567 <= n /\ n <= 2932896
def first (n : Int) : Prop := ∃ y m, T4 n y m 1
def Mg (l : List (Int × Int)) : Prop := ∃ i : Nat, i < l.length /\ ¬ Lo (Ac l i).1
def Lj (l : List (Int × Int)) : Prop := ∃ i : Nat, i < l.length /\ ¬(first (Ac l i).1 /\ 0 <= (Ac l i).2 /\ (Ac l i).2 <= 1000)
def Bcg (b a : Int × Int) : Prop := b.1 > a.1 /\ (b.2 - a.2 = 1 \/ b.2 - a.2 = -1)
def W7 (l : List (Int × Int)) : Prop := ∀ i : Nat, i + 1 < l.length -> Bcg (Ac l ((i + 1 : Nat) : Int)) (Ac l i)
def Gj (s : Int) : Prop := 0 <= s /\ s <= 1099511627776
instance (n : Int) : Decidable (Lo n) := by unfold Lo; infer_instance
instance (n : Int) : Decidable (Gj n) := by unfold Gj; infer_instance
noncomputable instance (n : Int) : Decidable (first n) := Classical.propDecidable _
noncomputable instance (l : List (Int × Int)) : Decidable (Mg l) := Classical.propDecidable _
noncomputable instance (l : List (Int × Int)) : Decidable (Lj l) := Classical.propDecidable _
noncomputable instance (l : List (Int × Int)) : Decidable (W7 l) := Classical.propDecidable _
noncomputable def Au1 (l : List (Int × Int)) (u e : Int) : Int :=
 if l.length = 0 then 8 else if 256 < l.length then 3 else if Mg l then 13 else if Lj l \/ ¬ Gj u \/ ¬ Gj e then 1 else if ¬ W7 l then 6 else 0
theorem A77 {n y m d : Int} (h : T4 n y m d) : 1900 <= y ↔ -25567 <= n := by
 have a := P5 h
 have e : Fv 1900 1 1 = -25567 := rfl
 constructor
 ·intro hy
  by_cases c : y = 1900
  ·subst c; omega
  ·have := Ke (y := 1900) (y' := y) (by omega)
   have := Ajc 1900
   have : Aog 1900 = 365 := by decide
   omega
 ·intro hn
  by_cases c : y < 1900
  ·have := Ke c; omega
  ·omega
theorem Av6 (n o : Int) : Jm ((), ((n, (o, ())), ())) = some ((), ((decide (Lo n), ()), ())) := by
 simp only [Jm, Uy]
 by_cases h : -4371587 <= n /\ n <= 2932896
 ·obtain ⟨y, m, d, e, hd⟩ := Afh n h
  simp only [e, Ae, Option.bind_some, Option.isNone_none, Option.isNone_some, Option.isSome_none, Option.isSome_some, Bool.not_true, Bool.not_false, cond_true, cond_false, Ab, Al, Ak, Ai, ge_iff_le]
  have := A77 hd
  congr 4
  rw [decide_eq_decide]; unfold Lo
  constructor <;> intro hh <;> omega
 ·simp only [Akh h, Ae, Option.bind_some, Option.isNone_none, Option.isNone_some, Option.isSome_none, Option.isSome_some, Bool.not_true, Bool.not_false, cond_true, cond_false, Ab, Al, Ak, Ai]
  rw [decide_eq_false (by unfold Lo; omega)]
theorem A5k (n o : Int) : Lq ((), ((n, (o, ())), ())) = some ((), ((decide (first n /\ (-4371587 <= n /\ n <= 2932896) /\ 0 <= o /\ o <= 1000), ()), ())) := by
 simp only [Lq, Aaj]
 by_cases h : -4371587 <= n /\ n <= 2932896
 ·obtain ⟨y, m, d, e, hd⟩ := Afh n h
  simp only [e, Ae, Option.bind_some, Option.isNone_none, Option.isNone_some, Option.isSome_none, Option.isSome_some, Bool.not_true, Bool.not_false, cond_true, cond_false, Ab, Al, Ak, Ai, ge_iff_le]
  by_cases c : d = 1
  ·subst c
   rw [if_pos rfl]
   have hf : first n := ⟨y, m, hd⟩
   by_cases c2 : 0 <= o
   ·rw [if_pos c2]; congr 4; simp [hf, h, c2]
   ·rw [if_neg c2, decide_eq_false (by simp [c2])]
  ·rw [if_neg c, decide_eq_false]
   rintro ⟨⟨y', m', h'⟩, _⟩
   exact c (Aic hd h').2.2
 ·simp only [Akh h, Ae, Option.bind_some, Option.isNone_none, Option.isNone_some, Option.isSome_none, Option.isSome_some, Bool.not_true, Bool.not_false, cond_true, cond_false, Ab, Al, Ak, Ai]
  rw [decide_eq_false (by simp only [h, false_and, and_false, not_false_eq_true])]
theorem A43 (s : Int) : P0 ((), ((s, ()), ())) = some ((), ((decide (0 <= s /\ s <= 1099511627776), ()), ())) := by
 simp only [P0, Ahv, Ae, Option.bind_some, Option.isNone_none, Option.isNone_some, Option.isSome_none, Option.isSome_some, Bool.not_true, Bool.not_false, cond_true, cond_false, Ab, Al, Ak, Ai, ge_iff_le]
 by_cases h : 0 <= s <;> simp [h]
theorem follows (a b c d : Int) (hb : 0 <= b /\ b <= 1000) (hd : 0 <= d /\ d <= 1000) : Hl ((), ((a, (b, ())), ((c, (d, ())), ()))) = some ((), ((decide (a > c /\ (b - d = 1 \/ b - d = -1)), ()), ())) := by
 simp only [Hl, Rt, Ae, Option.bind_some, Option.isNone_none, Option.isNone_some, Option.isSome_none, Option.isSome_some, Bool.not_true, Bool.not_false, cond_true, cond_false, Ab, Al, Ak, Ai]
 rw [Bb (by omega)]
 by_cases h1 : a > c <;> by_cases h2 : b - d = 1 <;> by_cases h3 : b - d = -1 <;> simp [h1, h2, h3]
theorem Aud (l : List (Int × Int)) (hl : l.length <= 1000) : ∀ (k i : Nat), i + k = l.length -> ∃ x : Int, Evn (fun j => (Ar j).1 ((), ((l, ()), ((), (((l.length : Int), ()), (((i : Int), ()), ())))))) ((), ((x, ()), ())) /\
  ((x = -1 /\ ∀ j : Nat, i <= j -> j < l.length -> Lo (Ac l j).1) \/ (0 <= x /\ ∃ j : Nat, j < l.length /\ ¬ Lo (Ac l j).1)) := by
 intro k; induction k with
 | zero =>
  intro i h
  refine ⟨-1, Evn.some 1 fun j => ?_, .inl ⟨rfl, fun j h1 h2 => by omega⟩⟩
  simp only [Ch, Ay, Ae, Option.bind_some, Option.isNone_none, Option.isNone_some, Option.isSome_none, Option.isSome_some, Bool.not_true, Bool.not_false, cond_true, cond_false, Ab, Al, Ak, Ai]
  rw [if_neg (by omega)]
 | succ k ih =>
  intro i h
  by_cases c : Lo (Ac l i).1
  ·obtain ⟨x, h1, h2⟩ := ih (i + 1) (by omega)
   refine ⟨x, h1.step fun j => ?_, ?_⟩
   ·simp only [Ch, Ay, Q1, Vz, Av6, Ae, Option.bind_some, Option.isNone_none, Option.isNone_some, Option.isSome_none, Option.isSome_some, Bool.not_true, Bool.not_false, cond_true, cond_false, Ab, Al, Ak, Ai, A4]
    rw [if_pos (by omega), if_pos (by omega), if_neg (by simpa using c), Aq (by omega)]; rfl
   ·rcases h2 with ⟨h2, h3⟩ | h2
    ·refine .inl ⟨h2, fun j h4 h5 => ?_⟩
     by_cases e : j = i
     ·subst e; exact c
     ·exact h3 j (by omega) h5
    ·exact .inr h2
  ·refine ⟨i, Evn.some 1 fun j => ?_, .inr ⟨by omega, i, by omega, c⟩⟩
   simp only [Ch, Ay, Q1, Vz, Av6, Ae, Option.bind_some, Option.isNone_none, Option.isNone_some, Option.isSome_none, Option.isSome_some, Bool.not_true, Bool.not_false, cond_true, cond_false, Ab, Al, Ak, Ai, A4]
   rw [if_pos (by omega), if_pos (by omega), if_pos (by simpa using c)]
theorem Azz (l : List (Int × Int)) (hl : l.length <= 1000) : A1 ((), ((l, ()), ((), ()))) = some ((), ((decide (Mg l), ()), ())) := by
 obtain ⟨x, h1, h2⟩ := Aud l hl l.length 0 (by omega)
 have h1 : Bj ((), ((l, ()), ((), ()))) = some ((), ((x, ()), ())) := (h1.cast fun k => by simp only [B3]; rfl).lim
 simp only [A1, C2, h1, Option.bind_some, ge_iff_le]
 congr 4
 simp only [decide_eq_decide]
 rcases h2 with ⟨h2, h3⟩ | ⟨h2, h3⟩
 ·subst h2
  exact ⟨fun h => absurd h (by decide), fun ⟨j, h4, h5⟩ => absurd (h3 j (Nat.zero_le _) h4) h5⟩
 ·exact ⟨fun _ => h3, fun _ => h2⟩
theorem Azk (l : List (Int × Int)) (hl : l.length <= 1000) (hd : ¬ Mg l) : ∀ (k i : Nat), i + k = l.length -> ∃ x : Int, Evn (fun j => (As j).1 ((), ((l, ()), ((), (((l.length : Int), ()), (((i : Int), ()), ())))))) ((), ((x, ()), ())) /\
  ((x = -1 /\ ∀ j : Nat, i <= j -> j < l.length -> (first (Ac l j).1 /\ 0 <= (Ac l j).2 /\ (Ac l j).2 <= 1000)) \/ (0 <= x /\ ∃ j : Nat, j < l.length /\ ¬(first (Ac l j).1 /\ 0 <= (Ac l j).2 /\ (Ac l j).2 <= 1000))) := by
 have hdt : ∀ j : Nat, j < l.length -> (-4371587 <= (Ac l j).1 /\ (Ac l j).1 <= 2932896) := fun j hj => by
  by_cases c : Lo (Ac l j).1
  ·unfold Lo at c; omega
  ·exact absurd ⟨j, hj, c⟩ hd
 intro k; induction k with
 | zero =>
  intro i h
  refine ⟨-1, Evn.some 1 fun j => ?_, .inl ⟨rfl, fun j h1 h2 => by omega⟩⟩
  simp only [Cg, A0, Ae, Option.bind_some, Option.isNone_none, Option.isNone_some, Option.isSome_none, Option.isSome_some, Bool.not_true, Bool.not_false, cond_true, cond_false, Ab, Al, Ak, Ai]
  rw [if_neg (by omega)]
 | succ k ih =>
  intro i h
  have hi := hdt i (by omega)
  by_cases c : first (Ac l i).1 /\ 0 <= (Ac l i).2 /\ (Ac l i).2 <= 1000
  ·obtain ⟨x, h1, h2⟩ := ih (i + 1) (by omega)
   refine ⟨x, h1.step fun j => ?_, ?_⟩
   ·simp only [Cg, A0, Q4, Vv, A5k, Ae, Option.bind_some, Option.isNone_none, Option.isNone_some, Option.isSome_none, Option.isSome_some, Bool.not_true, Bool.not_false, cond_true, cond_false, Ab, Al, Ak, Ai, A4]
    rw [if_pos (by omega), if_pos (by omega), if_neg (by simp only [Decidable.not_not]; exact ⟨c.1, hi, c.2⟩), Aq (by omega)]; rfl
   ·rcases h2 with ⟨h2, h3⟩ | h2
    ·refine .inl ⟨h2, fun j h4 h5 => ?_⟩
     by_cases e : j = i
     ·subst e; exact c
     ·exact h3 j (by omega) h5
    ·exact .inr h2
  ·refine ⟨i, Evn.some 1 fun j => ?_, .inr ⟨by omega, i, by omega, c⟩⟩
   simp only [Cg, A0, Q4, Vv, A5k, Ae, Option.bind_some, Option.isNone_none, Option.isNone_some, Option.isSome_none, Option.isSome_some, Bool.not_true, Bool.not_false, cond_true, cond_false, Ab, Al, Ak, Ai, A4]
   rw [if_pos (by omega), if_pos (by omega), if_pos (fun hh => c ⟨hh.1, hh.2.2⟩)]
theorem A7a (l : List (Int × Int)) (hl : l.length <= 1000) (hd : ¬ Mg l) : Az ((), ((l, ()), ((), ()))) = some ((), ((decide (Lj l), ()), ())) := by
 obtain ⟨x, h1, h2⟩ := Azk l hl hd l.length 0 (by omega)
 have h1 : Bk ((), ((l, ()), ((), ()))) = some ((), ((x, ()), ())) := (h1.cast fun k => by simp only [B5]; rfl).lim
 simp only [Az, C3, h1, Option.bind_some, ge_iff_le]
 congr 4
 simp only [decide_eq_decide]
 rcases h2 with ⟨h2, h3⟩ | ⟨h2, h3⟩
 ·subst h2
  exact ⟨fun h => absurd h (by decide), fun ⟨j, h4, h5⟩ => absurd (h3 j (Nat.zero_le _) h4) h5⟩
 ·exact ⟨fun _ => h3, fun _ => h2⟩
theorem Bdf (l : List (Int × Int)) (hl : l.length <= 1000) (ho : ∀ i : Nat, i < l.length -> 0 <= (Ac l i).2 /\ (Ac l i).2 <= 1000) : ∀ (k i : Nat), 1 <= i -> i + k = max l.length 1 -> ∃ b : Bool, Evn (fun j => (I6 j).1 ((), ((l, ()), (((i : Int), ()), ())))) ((), ((b, ()), ())) /\
  ((b = true /\ ∀ j : Nat, i <= j + 1 -> j + 1 < l.length -> Bcg (Ac l ((j + 1 : Nat) : Int)) (Ac l j)) \/ (b = false /\ ¬ W7 l)) := by
 intro k; induction k with
 | zero =>
  intro i hi h
  refine ⟨true, Evn.some 1 fun j => ?_, .inl ⟨rfl, fun j h1 h2 => by omega⟩⟩
  simp only [Af2, L1, Ae, Option.bind_some, Option.isNone_none, Option.isNone_some, Option.isSome_none, Option.isSome_some, Bool.not_true, Bool.not_false, cond_true, cond_false, Ab, Al, Ak, Ai]
  rw [if_neg (by omega)]
 | succ k ih =>
  intro i hi h
  obtain ⟨m, rfl⟩ : ∃ m, i = m + 1 := ⟨i - 1, by omega⟩
  have e1 : H3 .i64 (((m + 1 : Nat) : Int)) 1 = (m : Int) := by rw [Bb (by omega)]; omega
  have h1 := ho (m + 1) (by omega)
  have h2 := ho m (by omega)
  have hf := follows (Ac l ((m + 1 : Nat) : Int)).1 (Ac l ((m + 1 : Nat) : Int)).2 (Ac l m).1 (Ac l m).2 h1 h2
  by_cases c : Bcg (Ac l ((m + 1 : Nat) : Int)) (Ac l m)
  ·obtain ⟨b, q1, q2⟩ := ih (m + 1 + 1) (by omega) (by omega)
   refine ⟨b, q1.step fun j => ?_, ?_⟩
   ·simp only [Af2, L1, Ae, Option.bind_some, Option.isNone_none, Option.isNone_some, Option.isSome_none, Option.isSome_some, Bool.not_true, Bool.not_false, cond_true, cond_false, Ab, Al, Ak, Ai, A4, e1]
    rw [if_pos (by omega), if_pos (by omega), if_pos (by omega), hf]
    simp only [Option.bind_some, Ai, Ab]
    have c' := c
    unfold Bcg at c'
    rw [if_neg (not_not_intro c'), Aq (by omega)]; rfl
   ·rcases q2 with ⟨q2, q3⟩ | q2
    ·refine .inl ⟨q2, fun j h4 h5 => ?_⟩
     by_cases e : j = m
     ·subst e; exact c
     ·exact q3 j (by omega) h5
    ·exact .inr q2
  ·refine ⟨false, Evn.some 1 fun j => ?_, .inr ⟨rfl, fun hr => c (hr m (by omega))⟩⟩
   simp only [Af2, L1, Ae, Option.bind_some, Option.isNone_none, Option.isNone_some, Option.isSome_none, Option.isSome_some, Bool.not_true, Bool.not_false, cond_true, cond_false, Ab, Al, Ak, Ai, A4, e1]
   rw [if_pos (by omega), if_pos (by omega), if_pos (by omega), hf]
   simp only [Option.bind_some, Ai, Ab]
   have c' := c
   unfold Bcg at c'
   rw [if_pos c']
theorem A6j (l : List (Int × Int)) (hl : l.length <= 1000) (ho : ∀ i : Nat, i < l.length -> 0 <= (Ac l i).2 /\ (Ac l i).2 <= 1000) : Tu ((), ((l, ()), ())) = some ((), ((decide (W7 l), ()), ())) := by
 obtain ⟨b, h1, h2⟩ := Bdf l hl ho (max l.length 1 - 1) 1 (by omega) (by omega)
 have h1 : Tu ((), ((l, ()), ())) = some ((), ((b, ()), ())) := (h1.cast fun k => by simp only [Ym]; rfl).lim
 rw [h1]
 rcases h2 with ⟨rfl, h3⟩ | ⟨rfl, h3⟩
 ·rw [decide_eq_true (show W7 l from fun i hi => h3 i (by omega) hi)]
 ·rw [decide_eq_false h3]
theorem Ase (l : List (Int × Int)) (h : l.length <= 1000) : Bt ((), ((l, ()), ())) = some ((l, ()), ((), ())) := by
 unfold Bt Gx
 simp only [List.length_nil, List.nil_append]
 rw [decide_eq_true (show (0 + l.length) * 16 <= 140737488355328 by omega), decide_eq_true (show 0 + l.length <= 9223372036854775807 by omega)]
 simp only [Bool.and_self, cond_true]
 cases l with
 | nil => simp [Ayk]
 | cons x l => rfl
theorem A6l {l : List (Int × Int)} (h : ¬ Lj l) : ∀ i : Nat, i < l.length -> first (Ac l i).1 /\ 0 <= (Ac l i).2 /\ (Ac l i).2 <= 1000 := fun i hi =>
 Classical.byContradiction fun c => h ⟨i, hi, c⟩
theorem A7s {l : List (Int × Int)} (h : ¬ Mg l) : ∀ i : Nat, i < l.length -> Lo (Ac l i).1 := fun i hi =>
 Classical.byContradiction fun c => h ⟨i, hi, c⟩
theorem A0q (l : List (Int × Int)) (u e : Int) : Pz ((), ((l, ()), ((u, ()), ((e, ()), ())))) = some ((), ((if Au1 l u e = 0 then some (l, (u, e)) else none, ()), ((Ajg (Au1 l u e), ()), ()))) := by
 simp only [Pz, Ak4, Ae, Option.bind_some, Option.isNone_none, Option.isNone_some, Option.isSome_none, Option.isSome_some, Bool.not_true, Bool.not_false, cond_true, cond_false, Ab, Al, Ak, Ai, gt_iff_lt]
 unfold Au1
 by_cases c1 : l.length = 0
 ·rw [if_pos (by omega), if_pos c1]; rfl
 rw [if_neg (by omega), if_neg c1]
 by_cases c2 : 256 < l.length
 ·rw [if_pos (by omega), if_pos c2]; rfl
 rw [if_neg (by omega), if_neg c2, Azz l (by omega)]
 simp only [Option.bind_some, Ab]
 by_cases c3 : Mg l
 ·rw [if_pos c3, if_pos c3]; rfl
 rw [if_neg c3, if_neg c3, A7a l (by omega) c3]
 simp only [Option.bind_some, Ab, A43, Ai]
 by_cases c4 : Lj l
 ·have hE : (if Lj l \/ ¬ Gj u \/ ¬ Gj e then (1 : Int) else if ¬ W7 l then 6 else 0) = 1 := if_pos (.inl c4)
  rw [if_pos c4, hE]; rfl
 rw [if_neg c4]
 by_cases c5 : Gj u
 ·rw [if_neg (show ¬¬(0 <= u /\ u <= 1099511627776) by unfold Gj at c5; omega)]
  by_cases c6 : Gj e
  ·rw [if_neg (show ¬¬(0 <= e /\ e <= 1099511627776) by unfold Gj at c6; omega), A6j l (by omega) (fun i hi => (A6l c4 i hi).2)]
   simp only [Option.bind_some, Ab, Ai]
   by_cases c7 : W7 l
   ·have hE : (if Lj l \/ ¬ Gj u \/ ¬ Gj e then (1 : Int) else if ¬ W7 l then 6 else 0) = 0 := by
     rw [if_neg (show ¬(Lj l \/ ¬ Gj u \/ ¬ Gj e) by simp [c4, c5, c6]), if_neg (not_not_intro c7)]
    rw [hE, if_neg (not_not_intro c7), Ase l (by omega)]; rfl
   ·have hE : (if Lj l \/ ¬ Gj u \/ ¬ Gj e then (1 : Int) else if ¬ W7 l then 6 else 0) = 6 := by
     rw [if_neg (show ¬(Lj l \/ ¬ Gj u \/ ¬ Gj e) by simp [c4, c5, c6]), if_pos c7]
    rw [hE, if_pos c7]; rfl
  ·have hE : (if Lj l \/ ¬ Gj u \/ ¬ Gj e then (1 : Int) else if ¬ W7 l then 6 else 0) = 1 := if_pos (.inr (.inr c6))
   rw [if_pos (show ¬(0 <= e /\ e <= 1099511627776) from c6), hE]; rfl
 ·have hE : (if Lj l \/ ¬ Gj u \/ ¬ Gj e then (1 : Int) else if ¬ W7 l then 6 else 0) = 1 := if_pos (.inr (.inl c5))
  rw [if_pos (show ¬(0 <= u /\ u <= 1099511627776) from c5), hE]; rfl
structure Ax0 (l : List (Int × Int)) : Prop where
 len : 1 <= l.length /\ l.length <= 256
 day : ∀ i : Nat, i < l.length -> Lo (Ac l i).1
 off : ∀ i : Nat, i < l.length -> 0 <= (Ac l i).2 /\ (Ac l i).2 <= 1000
 rise : W7 l
theorem Aut {l : List (Int × Int)} {u e : Int} (h : Au1 l u e = 0) : Ax0 l /\ Gj u /\ Gj e := by
 unfold Au1 at h
 split at h
 ·cases h
 rename_i c1
 split at h
 ·cases h
 rename_i c2
 split at h
 ·cases h
 rename_i c3
 split at h
 ·cases h
 rename_i c4
 split at h
 ·cases h
 rename_i c5
 have c4w : ¬ Lj l := fun hh => c4 (.inl hh)
 exact ⟨⟨by omega, A7s c3, fun i hi => (A6l c4w i hi).2, Classical.not_not.1 c5⟩, Classical.byContradiction fun hh => c4 (.inr (.inl hh)), Classical.byContradiction fun hh => c4 (.inr (.inr hh))⟩
theorem Ax0.mono {l : List (Int × Int)} (h : Ax0 l) : ∀ (k i : Nat), i + 1 + k < l.length -> (Ac l i).1 < (Ac l ((i + 1 + k : Nat) : Int)).1 := by
 intro k; induction k with
 | zero => intro i hi; exact (h.rise i hi).1
 | succ k ih =>
  intro i hi
  have := ih i (by omega)
  have := (h.rise (i + 1 + k) (by omega)).1
  rw [show i + 1 + (k + 1) = i + 1 + k + 1 by omega]; omega
theorem Ax0.lt {l : List (Int × Int)} (h : Ax0 l) {i j : Nat} (hij : i < j) (hj : j < l.length) : (Ac l i).1 < (Ac l j).1 := by
 have := h.mono (j - i - 1) i (by omega)
 rw [show i + 1 + (j - i - 1) = j by omega] at this; exact this
structure Cnt (l : List (Int × Int)) (n : Int) (k : Nat) : Prop where
 le : k <= l.length
 lo : ∀ i : Nat, i < k -> (Ac l i).1 <= n
 hi : ∀ i : Nat, k <= i -> i < l.length -> n < (Ac l i).1
theorem A4p : first 730 := ⟨1972, 1, by decide, by decide, rfl⟩
set_option maxRecDepth 10000
def Bd7 (x y : T20) : Bool := ((x.1 == y.1) && ((x.2.1 == y.2.1) && ((x.2.2.1 == y.2.2.1) && ((x.2.2.2.1 == y.2.2.2.1) && ((x.2.2.2.2.1 == y.2.2.2.2.1) && ((x.2.2.2.2.2.1 == y.2.2.2.2.2.1) && ((x.2.2.2.2.2.2.1 == y.2.2.2.2.2.2.1) && ((x.2.2.2.2.2.2.2.1 == y.2.2.2.2.2.2.2.1) && ((x.2.2.2.2.2.2.2.2.1 == y.2.2.2.2.2.2.2.2.1) && ((x.2.2.2.2.2.2.2.2.2.1 == y.2.2.2.2.2.2.2.2.2.1) && ((x.2.2.2.2.2.2.2.2.2.2.1 == y.2.2.2.2.2.2.2.2.2.2.1) && ((x.2.2.2.2.2.2.2.2.2.2.2.1 == y.2.2.2.2.2.2.2.2.2.2.2.1) && ((x.2.2.2.2.2.2.2.2.2.2.2.2.1 == y.2.2.2.2.2.2.2.2.2.2.2.2.1) && ((x.2.2.2.2.2.2.2.2.2.2.2.2.2.1 == y.2.2.2.2.2.2.2.2.2.2.2.2.2.1) && ((x.2.2.2.2.2.2.2.2.2.2.2.2.2.2.1 == y.2.2.2.2.2.2.2.2.2.2.2.2.2.2.1) && ((x.2.2.2.2.2.2.2.2.2.2.2.2.2.2.2.1 == y.2.2.2.2.2.2.2.2.2.2.2.2.2.2.2.1) && ((x.2.2.2.2.2.2.2.2.2.2.2.2.2.2.2.2.1 == y.2.2.2.2.2.2.2.2.2.2.2.2.2.2.2.2.1) && ((x.2.2.2.2.2.2.2.2.2.2.2.2.2.2.2.2.2.1 == y.2.2.2.2.2.2.2.2.2.2.2.2.2.2.2.2.2.1) && ((x.2.2.2.2.2.2.2.2.2.2.2.2.2.2.2.2.2.2.1 == y.2.2.2.2.2.2.2.2.2.2.2.2.2.2.2.2.2.2.1) && ((x.2.2.2.2.2.2.2.2.2.2.2.2.2.2.2.2.2.2.2.1 == y.2.2.2.2.2.2.2.2.2.2.2.2.2.2.2.2.2.2.2.1) && true))))))))))))))))))))
def Bds (x : T20) : List Int := [x.1, x.2.1, x.2.2.1, x.2.2.2.1, x.2.2.2.2.1, x.2.2.2.2.2.1, x.2.2.2.2.2.2.1, x.2.2.2.2.2.2.2.1, x.2.2.2.2.2.2.2.2.1, x.2.2.2.2.2.2.2.2.2.1, x.2.2.2.2.2.2.2.2.2.2.1, x.2.2.2.2.2.2.2.2.2.2.2.1, x.2.2.2.2.2.2.2.2.2.2.2.2.1, x.2.2.2.2.2.2.2.2.2.2.2.2.2.1, x.2.2.2.2.2.2.2.2.2.2.2.2.2.2.1, x.2.2.2.2.2.2.2.2.2.2.2.2.2.2.2.1, x.2.2.2.2.2.2.2.2.2.2.2.2.2.2.2.2.1, x.2.2.2.2.2.2.2.2.2.2.2.2.2.2.2.2.2.1, x.2.2.2.2.2.2.2.2.2.2.2.2.2.2.2.2.2.2.1, x.2.2.2.2.2.2.2.2.2.2.2.2.2.2.2.2.2.2.2.1]
theorem Aub (x y : T20) : Bd7 x y = true ↔ x = y := by
 obtain ⟨x0, x1, x2, x3, x4, x5, x6, x7, x8, x9, x10, x11, x12, x13, x14, x15, x16, x17, x18, x19, _⟩ := x
 obtain ⟨y0, y1, y2, y3, y4, y5, y6, y7, y8, y9, y10, y11, y12, y13, y14, y15, y16, y17, y18, y19, _⟩ := y
 simp only [Bd7, Bool.and_eq_true, beq_iff_eq, and_true, Prod.mk.injEq]
theorem Amf (l : List Int) : Bds (t20 l) = l20 l := rfl
theorem A93 {a b : List Int} (ha : a.length = 20) (hb : b.length = 20) : Bd7 (t20 a) (t20 b) = decide (a = b) := by
 by_cases c : a = b
 ·rw [decide_eq_true c, c, Aub]
 ·rw [decide_eq_false c]
  cases h : Bd7 (t20 a) (t20 b) with
  | false => rfl
  | true =>
   exfalso
   have := (Aub _ _).1 h
   have := congrArg Bds this
   rw [Amf, Amf, A1v ha, A1v hb] at this
   exact c this
def Mw (n : Int) : List Int := Axu n.toNat 0
theorem Xy (n : Int) : Iw (Mw n) := Bc6 _ _
theorem Fg (n : Int) (h : n < 18446744073709551616) : (Mw n).length <= 20 := A1k _ _ (by omega) (by decide)
theorem Arx (out beh : List Int) (n : Int) (hn : 0 <= n /\ n <= 9223372036854775807) (ho : out.length <= 1000000) (hb : Iw beh) (hbl : beh.length <= 1000) :
  At (((none, ()), (out, ())), ((), ((n, ()), ((Ao beh, ()), ())))) = some (((none, ()), (out ++ (Mw n ++ beh), ())), ((), ())) := by
 have hp := A34 n 0 hn (by decide)
 have hd : bytesOf (Ao (Axu n.toNat (0 : Int).toNat)) = Mw n := I3 (Xy n)
 have hl := Fg n (by omega)
 simp only [At, Lh, hp, Option.bind_some, Option.isNone_none, Bool.not_true, cond_false, hd, I3 hb, A4, Ab, List.length_append]
 rw [if_pos (by omega), if_pos (by omega), List.append_assoc]
theorem A71 (n : Int) (h : Lo n) : T7 ((), (((3 : Int), ()), ((n, ()), ()))) = some ((), ((n + 25567, ()), ((none, ()), ()))) := by
 have hz : Sn ((), (((3 : Int), ()), ())) = some ((), ((25567, ()), ((none, ()), ()))) := rfl
 have ht : Tt ((), ((n, ()), ())) = some ((), ((true, ()), ())) := by
  unfold Lo at h
  simp only [Tt, Ahz, Ah0, Amy, Option.bind_some, ge_iff_le, Ab]
  rw [if_pos (by omega), decide_eq_true (by omega)]
 unfold Lo at h
 simp only [T7, Ah6, hz, ht, Option.bind_some, Option.isNone_none, Bool.not_true, cond_false]
 rw [Aq (by omega)]
def Aag (r : Int × Int) : Int := (r.1 + 25567) * 86400
theorem Ba9 (out a b : List Int) (r : Int × Int) (h : Lo r.1) (h2 : 0 <= r.2 /\ r.2 <= 1000) (ho : out.length <= 100000) (ha : Iw a) (hal : a.length <= 10) (hb : Iw b) (hbl : b.length <= 10) :
  C1 (((none, ()), (out, ())), ((), ((r.1, (r.2, ())), ((Ao a, ()), ((Ao b, ()), ()))))) = some (((none, ()), (out ++ ((Mw (Aag r) ++ a) ++ (Mw r.2 ++ b)), ())), ((), ())) := by
 have hc := A71 r.1 h
 unfold Lo at h
 have hm : Qq .i64 (r.1 + 25567) 86400 = Aag r := Gs (by omega)
 have hs : 0 <= Aag r /\ Aag r <= 9223372036854775807 := by unfold Aag; omega
 have p1 := Arx out a (Aag r) hs (by omega) ha (by omega)
 have hl := Fg (Aag r) (by omega)
 have p2 := Arx (out ++ (Mw (Aag r) ++ a)) b r.2 (by omega) (by simp only [List.length_append]; omega) hb (by omega)
 simp only [C1, Le, hc, hm, p1, p2, Option.bind_some, Option.isNone_none, Bool.not_true, cond_false]
 rw [List.append_assoc]
def Vw (l : List (Int × Int)) : List Int := l.flatMap fun r => Mw (Aag r) ++ Mw r.2
def dgB (l : List (Int × Int)) (u e : Int) : List Int := Mw u ++ (Mw e ++ Vw l)
theorem An0 {α : Type} {l : List α} {f : α -> List Int} (h : ∀ x ∈ l, Iw (f x)) : Iw (l.flatMap f) := fun y hy => by
 obtain ⟨x, hx, hxy⟩ := List.mem_flatMap.1 hy
 exact h x hx y hxy
theorem Ac7 {α : Type} {f : α -> List Int} {n : Nat} : ∀ {l : List α}, (∀ x ∈ l, (f x).length <= n) -> (l.flatMap f).length <= l.length * n
 | [], _ => by simp
 | a :: l, h => by
  have h1 := h a (List.mem_cons_self ..)
  have h2 := Ac7 (l := l) (f := f) (n := n) fun x hx => h x (List.mem_cons_of_mem _ hx)
  rw [List.flatMap_cons, List.length_append, List.length_cons, Nat.add_mul]; omega
def rowsG (l : List (Int × Int)) : Prop := ∀ r ∈ l, Lo r.1 /\ 0 <= r.2 /\ r.2 <= 1000
theorem Ax0.rowsG {l : List (Int × Int)} (h : Ax0 l) : rowsG l := fun r hr => by
 obtain ⟨i, hi, rfl⟩ := List.getElem_of_mem hr
 have e : Ac l (i : Int) = l[i] := by simp [Ac, gd, hi]
 have h1 := h.day i hi
 have h2 := h.off i hi
 rw [e] at h1 h2
 exact ⟨h1, h2⟩
theorem Aid {l : List (Int × Int)} (h : rowsG l) : (Vw l).length <= l.length * 40 := by
 refine Ac7 fun r hr => ?_
 obtain ⟨h1, h2⟩ := h r hr
 unfold Lo at h1
 have := Fg (Aag r) (by unfold Aag; omega)
 have := Fg r.2 (by omega)
 rw [List.length_append]; omega
theorem A06 {l : List (Int × Int)} {i : Nat} (hi : i < l.length) : Ac l (i : Int) = l[i] := by simp [Ac, gd, hi]
theorem A5g (l : List (Int × Int)) (hg : rowsG l) (hl : l.length <= 256) (z : T20) (o : List Int) (ho : o.length <= 1000) (hok : Iw o) : ∀ (k i : Nat), i + k = l.length ->
  Evn (fun f => (Dz f).1 ((z, ((none, ()), (o ++ Vw (l.take i), (l, ())))), ((), ((), ((), (((l.length : Int), ()), (((i : Int), ()), ()))))))) ((), (t20 (b20 (Aqn (o ++ Vw l))), ((none, ()), ()))) := by
 have hrl := Aid hg
 intro k
 induction k with
 | zero =>
  intro i hi
  refine Evn.some 1 fun f => ?_
  have hs := Bdg (o ++ Vw l) (by rw [List.length_append]; omega) (R7 hok (An0 fun x _ => R7 (Xy _) (Xy _)))
  rw [List.take_of_length_le (by omega)]
  simp only [Xi, Ig, hs, Option.bind_some, Option.isNone_none, Bool.not_true, cond_false, Ab]
  rw [if_neg (by omega)]
 | succ k ih =>
  intro i hi
  have hlt : i < l.length := by omega
  refine (ih (i + 1) (by omega)).step fun f => ?_
  obtain ⟨h1, h2⟩ := hg _ (List.getElem_mem hlt)
  have hti := Aid (l := l.take i) fun r hr => hg r (List.mem_of_mem_take hr)
  rw [List.length_take] at hti
  have hw := Ba9 (o ++ Vw (l.take i)) [] [] l[i] h1 h2 (by rw [List.length_append]; omega) Amx (by decide) Amx (by decide)
  have e : Vw (l.take (i + 1)) = Vw (l.take i) ++ (Mw (Aag l[i]) ++ Mw l[i].2) := by
   unfold Vw
   rw [List.take_add_one, List.getElem?_eq_getElem hlt, List.flatMap_append]
   simp
  simp only [List.append_nil] at hw
  simp only [Xi, Ig, Ab, A4, A06 hlt, Aev, hw, Option.bind_some]
  rw [if_pos (by omega), if_pos (by omega), Aq (by omega), List.append_assoc, <- e]; rfl
theorem A87 (T : J0) (l : List (Int × Int)) (u e : Int) : Ms T ((), ((some (l, (u, e)), ()), ())) =
  ((Dg ((), ((some (l, (u, e)), ()), ()))).bind fun x2 =>
  (At ((((none : Option Int), ()), (([] : List Int), ())), ((), (x2.2.1, (((⟨#[]⟩ : ByteArray), ()), ()))))).bind fun x3 =>
  (Dh ((), ((some (l, (u, e)), ()), ()))).bind fun x4 =>
  (At (x3.1, ((), (x4.2.1, (((⟨#[]⟩ : ByteArray), ()), ()))))).bind fun x5 =>
  (Er ((), ((some (l, (u, e)), ()), ()))).bind fun x6 =>
  T.1 ((t20 [], (x5.1.1, (x5.1.2.1, x6.1))), ((), ((), ((), (((x6.1.1.length : Int), ()), (((0 : Int), ()), ()))))))) := by kernel_rfl
theorem Awr (l : List (Int × Int)) (hl : l.length <= 1000) (u e : Int) : Dg ((), ((some (l, (u, e)), ()), ())) = some ((), ((u, ()), ())) /\ Dh ((), ((some (l, (u, e)), ()), ())) = some ((), ((e, ()), ())) /\
  Er ((), ((some (l, (u, e)), ()), ())) = some ((l, ()), ((), ())) := by
 refine ⟨?_, ?_, ?_⟩
 ·simp only [Dg, Pe, Ae, Option.bind_some, Option.isNone_none, Option.isNone_some, Option.isSome_none, Option.isSome_some, Bool.not_true, Bool.not_false, cond_true, cond_false, Ab, Al, Ak, Ai]
 ·simp only [Dh, Pd, Ae, Option.bind_some, Option.isNone_none, Option.isNone_some, Option.isSome_none, Option.isSome_some, Bool.not_true, Bool.not_false, cond_true, cond_false, Ab, Al, Ak, Ai]
 ·simp only [Er, Tx, In, S3, Ase l hl, Ae, Option.bind_some, Option.isNone_none, Option.isNone_some, Option.isSome_none, Option.isSome_some, Bool.not_true, Bool.not_false, cond_true, cond_false, Ab, Al, Ak, Ai]
theorem Ai9 (l : List (Int × Int)) (hg : rowsG l) (hl : l.length <= 256) (u e : Int) (hu : Gj u) (he : Gj e) : B8 ((), ((some (l, (u, e)), ()), ())) = some ((), (t20 (b20 (Aqn (dgB l u e))), ((none, ()), ()))) := by
 obtain ⟨q1, q2, q3⟩ := Awr l (by omega) u e
 unfold Gj at hu he
 have l1 := Fg u (by omega)
 have l2 := Fg e (by omega)
 have p1 := Arx [] [] u (by omega) (by decide) Amx (by decide)
 have p2 := Arx (Mw u) [] e (by omega) (by omega) Amx (by decide)
 simp only [List.append_nil, List.nil_append] at p1 p2
 have h := A5g l hg hl (t20 []) (Mw u ++ Mw e) (by rw [List.length_append]; omega) (R7 (Xy u) (Xy e)) l.length 0 (Nat.zero_add _)
 have ed : dgB l u e = (Mw u ++ Mw e) ++ Vw l := by unfold dgB; rw [List.append_assoc]
 rw [ed]
 refine (h.cast fun f => ?_).lim
 rw [A87]
 simp only [q1, q2, q3, Aev, p1, p2, Option.bind_some, List.take_zero]
 rw [show Vw [] = [] from rfl, List.append_nil]; rfl
def w5o (w : Int × (Int × (Int × (Int × Int)))) : W5 := (w.1, (w.2.1, (w.2.2.1, (w.2.2.2.1, (w.2.2.2.2, ())))))
def RS.ok (r : RS) : Prop := ∀ w, r.dg = some w -> w5R (w5o w)
theorem Bb3 (n : Nat) (x : X) : 0 <= (wdY n x).2 /\ (wdY n x).2 < 4294967296 := by
 unfold wdY
 split
 ·simp
 ·rename_i c
  have hl := Ai5 hxL x.rest
  have hm : ∀ q ∈ x.rest.take (Ia hxL x.rest), q ∈ hxL := A5z
  have h := Aj8 (Ia hxL x.rest) ((x.rest.take (Ia hxL x.rest)).map A0h) (by rw [List.length_map, List.length_take]; omega) (fun q hq => by
   obtain ⟨y, hy, rfl⟩ := List.mem_map.1 hq
   exact (Azx y (hm y hy)).1)
  rw [A05 hm] at h
  have : (16 : Int) ^ (Ia hxL x.rest) <= 16 ^ 8 := by
   have : 16 ^ (Ia hxL x.rest) <= 16 ^ 8 := Nat.pow_le_pow_right (by omega) (by omega)
   exact_mod_cast this
  exact ⟨h.1, by omega⟩
theorem A1n (n : Nat) : ∀ (k : Nat) (x : X), (Uq n k x).2.length = k /\ ∀ v ∈ (Uq n k x).2, 0 <= v /\ v < 4294967296
 | 0, x => ⟨rfl, fun v hv => by cases hv⟩
 | k + 1, x => by
  have ih := A1n n k (wdY n (Ad3 n x)).1
  refine ⟨by show (_ :: _).length = _; rw [List.length_cons, ih.1], fun v hv => ?_⟩
  rcases List.mem_cons.1 hv with rfl | hv
  ·exact Bb3 n _
  ·exact ih.2 v hv
theorem Bem {l : List Int} (h : l.length = 5) (hv : ∀ v ∈ l, 0 <= v /\ v < 4294967296) : w5R (w5o (Bev l)) := by
 match l, h with
 | [a, b, c, d, e], _ =>
  simp only [List.mem_cons, List.not_mem_nil, or_false, forall_eq_or_imp, forall_eq] at hv
  exact ⟨hv.1, hv.2.1, hv.2.2.1, hv.2.2.2.1, hv.2.2.2.2⟩
theorem A00 {r : RS} (h : r.ok) (l : List Int) : (Alw r l).1.ok := by
 unfold Alw
 split
 ·exact h
 split
 ·split
  ·exact h
  ·split
   ·exact h
   ·exact h
 split
 ·split
  ·exact h
  ·split
   ·exact h
   ·exact h
 split
 ·unfold A3h
  split
  ·exact h
  ·split
   ·exact h
   ·intro w hw
    simp only [Option.some.injEq] at hw
    subst hw
    have := A1n (l.drop 2).length 5 (.good (l.drop 2))
    exact Bem this.1 this.2
 split
 ·exact h
 ·exact h
theorem A03 : ∀ {L : List (List Int)} {r : RS} {i : Nat}, r.ok -> (Au2 r i L).1.ok
 | [], r, i, h => h
 | l :: L, r, i, h => by
  unfold Au2
  split
  ·exact A00 h l
  ·exact A03 (A00 h l)
theorem A9l (l : List Int) : (Acn l).1.ok := by
 unfold Acn
 split
 ·intro w hw; cases hw
 ·exact A03 (fun w hw => by cases hw)
abbrev Tb3 : Type := List (Int × Int) × (Int × Int)
noncomputable def Au7 (l : List Int) : Option Tb3 × Option Int :=
 match (Acn l).2.2 with
 | some c => (none, some c)
 | none => match (Acn l).1.up, (Acn l).1.ex with
  | some u, some e =>
   if Au1 (Acn l).1.rows u e = 0 then (match (Acn l).1.dg with
    | some w => if b20 (w5o w) = b20 (Aqn (dgB (Acn l).1.rows u e)) then (some ((Acn l).1.rows, (u, e)), none) else (none, some 7)
    | none => (some ((Acn l).1.rows, (u, e)), none))
   else (none, Ajg (Au1 (Acn l).1.rows u e))
  | _, _ => (none, some 2)
theorem Avn (c : Int) : (Ajg c).isNone = decide (c = 0) := by
 unfold Ajg
 by_cases h : c = 0 <;> simp [h]
theorem Bcd (T : Unit) (d : Unit × ((ByteArray × Unit) × Unit)) : Nv T d =
  (Dp ((⟨none, none, none, []⟩ : RS).t, ((), d.2))).bind fun x1 =>
  bif (!x1.2.2.1.1.isNone) then some ((), ((none, ()), (x1.2.2.1, ())))
  else bif x1.1.1.1.isNone then some ((), ((none, ()), ((some 2, ()), ())))
  else bif x1.1.1.2.1.isNone then some ((), ((none, ()), ((some 2, ()), ())))
  else x1.1.1.1.bind fun x5 => x1.1.1.2.1.bind fun x6 =>
  (Pz ((), (x1.1.2, ((x5, ()), ((x6, ()), ()))))).bind fun x7 =>
  bif (!x7.2.2.1.1.isNone) then some ((), ((none, ()), x7.2.2))
  else (B8 ((), (x7.2.1, ()))).bind fun x9 =>
  bif (!x9.2.2.1.1.isNone) then some ((), ((none, ()), x9.2.2))
  else bif (!x1.1.1.2.2.1.isNone) then (x1.1.1.2.2.1.bind fun x12 =>
   (J6 ((), (w5o x12, ()))).bind fun x13 =>
   bif (!(Bd7 x13.2.1 x9.2.1)) then some ((), ((none, ()), ((some 7, ()), ())))
   else some ((), (x7.2.1, ((none, ()), ()))))
  else some ((), (x7.2.1, ((none, ()), ()))) := by kernel_rfl
theorem A7h (l : List Int) (hl : Iw l) : L8 ((), ((Ao l, ()), ())) = some ((), (((Au7 l).1, ()), (((Au7 l).2, ()), ()))) := by
 have hr := A8z l hl
 have hok := A9l l
 show Nv () _ = _
 rw [Bcd]
 unfold Au7
 generalize Acn l = q at *
 obtain ⟨⟨up, ex, dg, rows⟩, at_, er⟩ := q
 simp only [RS.t] at hr ⊢
 simp only [hr, Option.bind_some]
 cases er with
 | some c => rfl
 | none =>
  cases up with
  | none => rfl
  | some u =>
   cases ex with
   | none => rfl
   | some e =>
    simp only [Option.isNone_none, Option.isNone_some, Bool.not_true, cond_false, Option.bind_some, A0q, Avn, Ai, Ab]
    by_cases ht : Au1 rows u e = 0
    ·obtain ⟨g1, g2, g3⟩ := Aut ht
     have hd := Ai9 rows g1.rowsG g1.len.2 u e g2 g3
     rw [if_neg (not_not_intro ht), if_pos ht, if_pos ht]
     simp only [hd, Option.bind_some, Option.isNone_none, Bool.not_true, cond_false]
     cases dg with
     | none => simp [ht, Ajg]
     | some w =>
      have hw : w5R (w5o w) := hok w rfl
      simp only [Option.isNone_some, Bool.not_false, cond_true, Option.bind_some, A0a _ hw, A93 (Ae4 _) (Ae4 _), Ai, Ab]
      by_cases hb : b20 (w5o w) = b20 (Aqn (dgB rows u e))
      ·rw [if_neg (not_not_intro hb), if_pos hb]
      ·rw [if_pos hb, if_neg hb]
    ·rw [if_pos ht, if_neg ht]
end Go.Proofs.YtcnngodgngmghaaGreatDoor.Ev
