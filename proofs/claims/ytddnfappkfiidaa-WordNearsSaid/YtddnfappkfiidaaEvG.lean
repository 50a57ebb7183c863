/- Printed by wip/tools/evgen.py. -/
import Derived.Test.YtddnfappkfiidaaEvGa
import Derived.Test.YtddnfappkfiidaaEvE
import Derived.Test.YtddnfappkfiidaaProg
import Derived.KernelRfl
set_option maxRecDepth 100000
set_option maxHeartbeats 2000000
set_option linter.unusedVariables false
namespace Go.Proofs.Ytddnfappkfiidaa.Ev
open Go
noncomputable section

/- horologe/horologeref24.Put -/
@[reducible] def pi_ref24_Put : PSh := ⟨[], [.mk true [.v (.int .i64), .v (.int .i64), .v (.int .i64), .v (.int .i64), .v (.int .i64), .v (.int .i64), .v (.int .i64), .v (.int .i64)], .mk false [.v (.int .i64)]]⟩
@[reducible] def po_ref24_Put : PSh := ⟨[], [.mk false [.v .str]]⟩
def f_ref24_Put_m (T : Unit) (d : Unit × ((Int × (Int × (Int × (Int × (Int × (Int × (Int × (Int × Unit)))))))) × ((Int × Unit) × Unit))) : Option (Unit × ((ByteArray × Unit) × Unit)) :=
  (g_ref24_Date ((), ((d.2.1.1, ()), ((d.2.1.2.1, ()), ((d.2.1.2.2.1, ()), ()))))).bind fun x1 =>
  bif fitsS x1.2.1.1 (⟨#[84]⟩ : ByteArray) then (
  let x2 : ByteArray := (x1.2.1.1 ++ (⟨#[84]⟩ : ByteArray))
  (g_ref02_Raw ((), ((d.2.1.2.2.2.1, ()), (((2 : Int), ()), ())))).bind fun x3 =>
  bif fitsS x2 x3.2.1.1 then (
  let x4 : ByteArray := (x2 ++ x3.2.1.1)
  bif fitsS x4 (⟨#[58]⟩ : ByteArray) then (
  let x5 : ByteArray := (x4 ++ (⟨#[58]⟩ : ByteArray))
  (g_ref02_Raw ((), ((d.2.1.2.2.2.2.1, ()), (((2 : Int), ()), ())))).bind fun x6 =>
  bif fitsS x5 x6.2.1.1 then (
  let x7 : ByteArray := (x5 ++ x6.2.1.1)
  bif fitsS x7 (⟨#[58]⟩ : ByteArray) then (
  let x8 : ByteArray := (x7 ++ (⟨#[58]⟩ : ByteArray))
  (g_ref02_Raw ((), ((d.2.1.2.2.2.2.2.1, ()), (((2 : Int), ()), ())))).bind fun x9 =>
  bif fitsS x8 x9.2.1.1 then (
  let x10 : ByteArray := (x8 ++ x9.2.1.1)
  let x11 : Bool := (decide (d.2.2.1.1 > (0 : Int)))
  bif x11 then (
  (g_ref02_Raw ((), ((d.2.1.2.2.2.2.2.2.1, ()), (((9 : Int), ()), ())))).bind fun x12 =>
  bif decide ((0 : Int) ≤ (0 : Int)) && decide ((0 : Int) ≤ d.2.2.1.1) && decide (d.2.2.1.1 ≤ (x12.2.1.1.size : Int)) then (
  let x13 : ByteArray := (x12.2.1.1.extract (Int.toNat (0 : Int)) (Int.toNat d.2.2.1.1))
  bif fitsS (⟨#[46]⟩ : ByteArray) x13 then (
  let x14 : ByteArray := ((⟨#[46]⟩ : ByteArray) ++ x13)
  bif fitsS x10 x14 then (
  let x15 : ByteArray := (x10 ++ x14)
  let x16 : Bool := (d.2.1.2.2.2.2.2.2.2.1 == (0 : Int))
  bif x16 then (
  bif fitsS x15 (⟨#[90]⟩ : ByteArray) then (
  let x17 : ByteArray := (x15 ++ (⟨#[90]⟩ : ByteArray))
  some ((), ((x17, ()), ())))
  else none)
  else (
  let x18 : Bool := (decide (d.2.1.2.2.2.2.2.2.2.1 < (0 : Int)))
  bif x18 then (
  let x19 : Int := (isub .i64 (0 : Int) d.2.1.2.2.2.2.2.2.2.1)
  bif fitsS x15 (⟨#[45]⟩ : ByteArray) then (
  let x20 : ByteArray := (x15 ++ (⟨#[45]⟩ : ByteArray))
  let x21 : Int := (iquo .i64 x19 (60 : Int))
  (g_ref02_Raw ((), ((x21, ()), (((2 : Int), ()), ())))).bind fun x22 =>
  bif fitsS x20 x22.2.1.1 then (
  let x23 : ByteArray := (x20 ++ x22.2.1.1)
  bif fitsS x23 (⟨#[58]⟩ : ByteArray) then (
  let x24 : ByteArray := (x23 ++ (⟨#[58]⟩ : ByteArray))
  let x25 : Int := (Int.tmod x19 (60 : Int))
  (g_ref02_Raw ((), ((x25, ()), (((2 : Int), ()), ())))).bind fun x26 =>
  bif fitsS x24 x26.2.1.1 then (
  let x27 : ByteArray := (x24 ++ x26.2.1.1)
  some ((), ((x27, ()), ())))
  else none)
  else none)
  else none)
  else none)
  else (
  bif fitsS x15 (⟨#[43]⟩ : ByteArray) then (
  let x28 : ByteArray := (x15 ++ (⟨#[43]⟩ : ByteArray))
  let x29 : Int := (iquo .i64 d.2.1.2.2.2.2.2.2.2.1 (60 : Int))
  (g_ref02_Raw ((), ((x29, ()), (((2 : Int), ()), ())))).bind fun x30 =>
  bif fitsS x28 x30.2.1.1 then (
  let x31 : ByteArray := (x28 ++ x30.2.1.1)
  bif fitsS x31 (⟨#[58]⟩ : ByteArray) then (
  let x32 : ByteArray := (x31 ++ (⟨#[58]⟩ : ByteArray))
  let x33 : Int := (Int.tmod d.2.1.2.2.2.2.2.2.2.1 (60 : Int))
  (g_ref02_Raw ((), ((x33, ()), (((2 : Int), ()), ())))).bind fun x34 =>
  bif fitsS x32 x34.2.1.1 then (
  let x35 : ByteArray := (x32 ++ x34.2.1.1)
  some ((), ((x35, ()), ())))
  else none)
  else none)
  else none)
  else none)))
  else none)
  else none)
  else none)
  else (
  let x36 : Bool := (d.2.1.2.2.2.2.2.2.2.1 == (0 : Int))
  bif x36 then (
  bif fitsS x10 (⟨#[90]⟩ : ByteArray) then (
  let x37 : ByteArray := (x10 ++ (⟨#[90]⟩ : ByteArray))
  some ((), ((x37, ()), ())))
  else none)
  else (
  let x38 : Bool := (decide (d.2.1.2.2.2.2.2.2.2.1 < (0 : Int)))
  bif x38 then (
  let x39 : Int := (isub .i64 (0 : Int) d.2.1.2.2.2.2.2.2.2.1)
  bif fitsS x10 (⟨#[45]⟩ : ByteArray) then (
  let x40 : ByteArray := (x10 ++ (⟨#[45]⟩ : ByteArray))
  let x41 : Int := (iquo .i64 x39 (60 : Int))
  (g_ref02_Raw ((), ((x41, ()), (((2 : Int), ()), ())))).bind fun x42 =>
  bif fitsS x40 x42.2.1.1 then (
  let x43 : ByteArray := (x40 ++ x42.2.1.1)
  bif fitsS x43 (⟨#[58]⟩ : ByteArray) then (
  let x44 : ByteArray := (x43 ++ (⟨#[58]⟩ : ByteArray))
  let x45 : Int := (Int.tmod x39 (60 : Int))
  (g_ref02_Raw ((), ((x45, ()), (((2 : Int), ()), ())))).bind fun x46 =>
  bif fitsS x44 x46.2.1.1 then (
  let x47 : ByteArray := (x44 ++ x46.2.1.1)
  some ((), ((x47, ()), ())))
  else none)
  else none)
  else none)
  else none)
  else (
  bif fitsS x10 (⟨#[43]⟩ : ByteArray) then (
  let x48 : ByteArray := (x10 ++ (⟨#[43]⟩ : ByteArray))
  let x49 : Int := (iquo .i64 d.2.1.2.2.2.2.2.2.2.1 (60 : Int))
  (g_ref02_Raw ((), ((x49, ()), (((2 : Int), ()), ())))).bind fun x50 =>
  bif fitsS x48 x50.2.1.1 then (
  let x51 : ByteArray := (x48 ++ x50.2.1.1)
  bif fitsS x51 (⟨#[58]⟩ : ByteArray) then (
  let x52 : ByteArray := (x51 ++ (⟨#[58]⟩ : ByteArray))
  let x53 : Int := (Int.tmod d.2.1.2.2.2.2.2.2.2.1 (60 : Int))
  (g_ref02_Raw ((), ((x53, ()), (((2 : Int), ()), ())))).bind fun x54 =>
  bif fitsS x52 x54.2.1.1 then (
  let x55 : ByteArray := (x52 ++ x54.2.1.1)
  some ((), ((x55, ()), ())))
  else none)
  else none)
  else none)
  else none))))
  else none)
  else none)
  else none)
  else none)
  else none)
  else none
def c_ref24_Put : List Nat := []
def L_ref24_Put (_ : Nat) : Pts po_ref24_Put.den := []
def R_ref24_Put (_ : Nat) : PtsR po_ref24_Put.den := []
def E_ref24_Put : Env := ((E0.add 82 (typedSem pi_ref24_Date po_ref24_Date g_ref24_Date)).add 83 (typedSem pi_ref02_Raw po_ref02_Raw g_ref02_Raw))
theorem q_ref24_Put_m (k : Nat) (d : Unit × ((Int × (Int × (Int × (Int × (Int × (Int × (Int × (Int × Unit)))))))) × ((Int × Unit) × Unit))) : evCode E_ref24_Put (tb (L_ref24_Put k) (R_ref24_Put k)) c_ref24_Put (bodyOf Try.f54) 0 (finK E_ref24_Put po_ref24_Put [.tmp 4]) (startSt pi_ref24_Put 63 d) = f_ref24_Put_m () d := by kernel_rfl
def g_ref24_Put (d : Unit × ((Int × (Int × (Int × (Int × (Int × (Int × (Int × (Int × Unit)))))))) × ((Int × Unit) × Unit))) : Option (Unit × ((ByteArray × Unit) × Unit)) := f_ref24_Put_m () d
theorem ok_ref24_Put : FnOk Try.prog ET0 54 pi_ref24_Put po_ref24_Put g_ref24_Put :=
  fn_of_body (E := E_ref24_Put) (envOk_add (envOk_add e0_ok (typed_ok ok_ref24_Date)) (typed_ok ok_ref02_Raw)) (fn := Try.f54) Try.func54 (by kernel_rfl) (by kernel_rfl) [.tmp 4] (by kernel_rfl) (by kernel_rfl) (by decide) rfl c_ref24_Put L_ref24_Put R_ref24_Put
    (by intro x hx; cases hx) (by intro k x hx; cases hx) (by intro x hx; cases hx) (by intro k x hx; cases hx) (fun d out h => ⟨0, (q_ref24_Put_m 0 d).trans h⟩)

/- horologe/horologeref27.Text -/
@[reducible] def pi_ref27_Text : PSh := ⟨[], [.mk false [.v (.sl (.int .u8))], .mk false [.v (.int .i64)]]⟩
@[reducible] def po_ref27_Text : PSh := ⟨[], [.mk false [.v .str], .mk false [.v (.int .i64)]]⟩
def f_ref27_Text_m (T : Unit) (d : Unit × (((List Int) × Unit) × ((Int × Unit) × Unit))) : Option (Unit × ((ByteArray × Unit) × ((Int × Unit) × Unit))) :=
  (g_ref27_Label ((), ((d.2.1.1, ()), ((d.2.2.1.1, ()), ())))).bind fun x1 =>
  let x2 : Bool := (x1.2.2.1.1 != (0 : Int))
  bif x2 then (
  some ((), (((⟨#[]⟩ : ByteArray), ()), ((x1.2.2.1.1, ()), ()))))
  else (
  let x3 : Bool := (decide (x1.2.1.1 < (0 : Int)))
  bif x3 then (
  some ((), (((⟨#[]⟩ : ByteArray), ()), (((13 : Int), ()), ()))))
  else (
  (g_ref24_Put ((), ((x1.2.1.1, (x1.2.1.2.1, (x1.2.1.2.2.1, (x1.2.1.2.2.2.1, (x1.2.1.2.2.2.2.1, (x1.2.1.2.2.2.2.2.1, (x1.2.1.2.2.2.2.2.2.1, (x1.2.1.2.2.2.2.2.2.2.1, ())))))))), (((0 : Int), ()), ())))).bind fun x4 =>
  some ((), ((x4.2.1.1, ()), (((0 : Int), ()), ())))))
def c_ref27_Text : List Nat := []
def L_ref27_Text (_ : Nat) : Pts po_ref27_Text.den := []
def R_ref27_Text (_ : Nat) : PtsR po_ref27_Text.den := []
def E_ref27_Text : Env := ((E0.add 22 (typedSem pi_ref27_Label po_ref27_Label g_ref27_Label)).add 54 (typedSem pi_ref24_Put po_ref24_Put g_ref24_Put))
theorem q_ref27_Text_m (k : Nat) (d : Unit × (((List Int) × Unit) × ((Int × Unit) × Unit))) : evCode E_ref27_Text (tb (L_ref27_Text k) (R_ref27_Text k)) c_ref27_Text (bodyOf Try.f23) 0 (finK E_ref27_Text po_ref27_Text [.tmp 4, .tmp 5]) (startSt pi_ref27_Text 22 d) = f_ref27_Text_m () d := by kernel_rfl
def g_ref27_Text (d : Unit × (((List Int) × Unit) × ((Int × Unit) × Unit))) : Option (Unit × ((ByteArray × Unit) × ((Int × Unit) × Unit))) := f_ref27_Text_m () d
theorem ok_ref27_Text : FnOk Try.prog ET0 23 pi_ref27_Text po_ref27_Text g_ref27_Text :=
  fn_of_body (E := E_ref27_Text) (envOk_add (envOk_add e0_ok (typed_ok ok_ref27_Label)) (typed_ok ok_ref24_Put)) (fn := Try.f23) Try.func23 (by kernel_rfl) (by kernel_rfl) [.tmp 4, .tmp 5] (by kernel_rfl) (by kernel_rfl) (by decide) rfl c_ref27_Text L_ref27_Text R_ref27_Text
    (by intro x hx; cases hx) (by intro k x hx; cases hx) (by intro x hx; cases hx) (by intro k x hx; cases hx) (fun d out h => ⟨0, (q_ref27_Text_m 0 d).trans h⟩)

/- horologe/horologelaw08.Document -/
@[reducible] def pi_law08_Document : PSh := ⟨[], [.mk true [.v (.int .i64), .v (.int .i64), .v (.int .i64), .v (.int .i64), .v (.int .i64), .v (.int .i64), .v (.int .i64), .v (.int .i64)]]⟩
@[reducible] def po_law08_Document : PSh := ⟨[], [.mk true [.v (.int .i64), .v (.int .i64), .v (.int .i64), .v (.int .i64), .v (.int .i64), .v (.int .i64), .v (.int .i64), .v (.int .i64)]]⟩
def f_law08_Document_m (T : Unit) (d : Unit × ((Int × (Int × (Int × (Int × (Int × (Int × (Int × (Int × Unit)))))))) × Unit)) : Option (Unit × ((Int × (Int × (Int × (Int × (Int × (Int × (Int × (Int × Unit)))))))) × Unit)) :=
  some ((), ((d.2.1.1, (d.2.1.2.1, (d.2.1.2.2.1, (d.2.1.2.2.2.1, (d.2.1.2.2.2.2.1, (d.2.1.2.2.2.2.2.1, (d.2.1.2.2.2.2.2.2.1, (d.2.1.2.2.2.2.2.2.2.1, ())))))))), ()))
def c_law08_Document : List Nat := []
def L_law08_Document (_ : Nat) : Pts po_law08_Document.den := []
def R_law08_Document (_ : Nat) : PtsR po_law08_Document.den := []
def E_law08_Document : Env := E0
theorem q_law08_Document_m (k : Nat) (d : Unit × ((Int × (Int × (Int × (Int × (Int × (Int × (Int × (Int × Unit)))))))) × Unit)) : evCode E_law08_Document (tb (L_law08_Document k) (R_law08_Document k)) c_law08_Document (bodyOf Try.f24) 0 (finK E_law08_Document po_law08_Document [.cell 2 64]) (startSt pi_law08_Document 20 d) = f_law08_Document_m () d := by kernel_rfl
def g_law08_Document (d : Unit × ((Int × (Int × (Int × (Int × (Int × (Int × (Int × (Int × Unit)))))))) × Unit)) : Option (Unit × ((Int × (Int × (Int × (Int × (Int × (Int × (Int × (Int × Unit)))))))) × Unit)) := f_law08_Document_m () d
theorem ok_law08_Document : FnOk Try.prog ET0 24 pi_law08_Document po_law08_Document g_law08_Document :=
  fn_of_body (E := E_law08_Document) e0_ok (fn := Try.f24) Try.func24 (by kernel_rfl) (by kernel_rfl) [.cell 2 64] (by kernel_rfl) (by kernel_rfl) (by decide) rfl c_law08_Document L_law08_Document R_law08_Document
    (by intro x hx; cases hx) (by intro k x hx; cases hx) (by intro x hx; cases hx) (by intro k x hx; cases hx) (fun d out h => ⟨0, (q_law08_Document_m 0 d).trans h⟩)

/- horologe/horologenum.Bytes -/
@[reducible] def pi_hnum_Bytes : PSh := ⟨[], [.mk false [.v (.sl (.int .u8))], .mk false [.v (.sl (.int .u8))]]⟩
@[reducible] def po_hnum_Bytes : PSh := ⟨[], [.mk false [.v .bool]]⟩
def f_hnum_Bytes_m (T : Unit) (d : Unit × (((List Int) × Unit) × (((List Int) × Unit) × Unit))) : Option (Unit × ((Bool × Unit) × Unit)) :=
  let x1 : ByteArray := (strOf d.2.1.1)
  let x2 : ByteArray := (strOf d.2.2.1.1)
  let x3 : Bool := (x1.toList == x2.toList)
  some ((), ((x3, ()), ()))
def c_hnum_Bytes : List Nat := []
def L_hnum_Bytes (_ : Nat) : Pts po_hnum_Bytes.den := []
def R_hnum_Bytes (_ : Nat) : PtsR po_hnum_Bytes.den := []
def E_hnum_Bytes : Env := E0
theorem q_hnum_Bytes_m (k : Nat) (d : Unit × (((List Int) × Unit) × (((List Int) × Unit) × Unit))) : evCode E_hnum_Bytes (tb (L_hnum_Bytes k) (R_hnum_Bytes k)) c_hnum_Bytes (bodyOf Try.f25) 0 (finK E_hnum_Bytes po_hnum_Bytes [.tmp 4]) (startSt pi_hnum_Bytes 10 d) = f_hnum_Bytes_m () d := by kernel_rfl
def g_hnum_Bytes (d : Unit × (((List Int) × Unit) × (((List Int) × Unit) × Unit))) : Option (Unit × ((Bool × Unit) × Unit)) := f_hnum_Bytes_m () d
theorem ok_hnum_Bytes : FnOk Try.prog ET0 25 pi_hnum_Bytes po_hnum_Bytes g_hnum_Bytes :=
  fn_of_body (E := E_hnum_Bytes) e0_ok (fn := Try.f25) Try.func25 (by kernel_rfl) (by kernel_rfl) [.tmp 4] (by kernel_rfl) (by kernel_rfl) (by decide) rfl c_hnum_Bytes L_hnum_Bytes R_hnum_Bytes
    (by intro x hx; cases hx) (by intro k x hx; cases hx) (by intro x hx; cases hx) (by intro k x hx; cases hx) (fun d out h => ⟨0, (q_hnum_Bytes_m 0 d).trans h⟩)

/- horologe/horologelaw27.WordNears -/
@[reducible] def pi_law27_WordNears : PSh := ⟨[], [.mk false [.v (.sl (.int .u8))], .mk false [.v (.int .i64)]]⟩
@[reducible] def po_law27_WordNears : PSh := ⟨[], [.mk false [.v .bool]]⟩
def f_law27_WordNears_m (T : Unit) (d : Unit × (((List Int) × Unit) × ((Int × Unit) × Unit))) : Option (Unit × ((Bool × Unit) × Unit)) :=
  (g_law27_alive ((), ())).bind fun x1 =>
  let x2 : Bool := (!x1.2.1.1)
  bif x2 then (
  some ((), ((false, ()), ())))
  else (
  let x3 : Int := (d.2.1.1.length : Int)
  let x4 : Bool := (decide (x3 > (100 : Int)))
  bif x4 then (
  some ((), ((true, ()), ())))
  else (
  let x5 : (List Int) := ([] : List Int)
  bif decide (((x5.length + d.2.1.1.length) * 1 : Nat) ≤ 140737488355328) && decide (x5.length + d.2.1.1.length ≤ 9223372036854775807) then (
  let x6 : (List Int) := (x5 ++ d.2.1.1)
  (g_word_Parse ((), ((x6, ()), ()))).bind fun x7 =>
  let x8 : Int := (d.2.1.1.length : Int)
  let x9 : Bool := (x8 != (4 : Int))
  bif x9 then (
  let x10 : Bool := (x7.2.1.1 != (0 : Int))
  bif x10 then (
  some ((), ((false, ()), ())))
  else (
  (g_hnum_Is ((), ((x7.2.2.1.1, ()), (((2 : Int), ()), ())))).bind fun x11 =>
  let x12 : Bool := (!x11.2.1.1)
  bif x12 then (
  some ((), ((false, ()), ())))
  else (
  (g_word_Near ((), ((x6, ()), ((d.2.2.1.1, ()), ())))).bind fun x13 =>
  (g_word_Label ((), ((x6, ()), ((d.2.2.1.1, ()), ())))).bind fun x14 =>
  (g_word_Text ((), ((x6, ()), ((d.2.2.1.1, ()), ())))).bind fun x15 =>
  (g_ref27_Near ((), ((d.2.1.1, ()), ((d.2.2.1.1, ()), ())))).bind fun x16 =>
  (g_ref27_Label ((), ((d.2.1.1, ()), ((d.2.2.1.1, ()), ())))).bind fun x17 =>
  (g_ref27_Text ((), ((d.2.1.1, ()), ((d.2.2.1.1, ()), ())))).bind fun x18 =>
  let x19 : Bool := (x13.2.1.1 == x16.2.1.1)
  bif x19 then (
  (g_law08_Document ((), ((x14.2.1.1, (x14.2.1.2.1, (x14.2.1.2.2.1, (x14.2.1.2.2.2.1, (x14.2.1.2.2.2.2.1, (x14.2.1.2.2.2.2.2.1, (x14.2.1.2.2.2.2.2.2.1, (x14.2.1.2.2.2.2.2.2.2.1, ())))))))), ()))).bind fun x20 =>
  let x21 : Bool := ((x20.2.1.1 == x17.2.1.1) && ((x20.2.1.2.1 == x17.2.1.2.1) && ((x20.2.1.2.2.1 == x17.2.1.2.2.1) && ((x20.2.1.2.2.2.1 == x17.2.1.2.2.2.1) && ((x20.2.1.2.2.2.2.1 == x17.2.1.2.2.2.2.1) && ((x20.2.1.2.2.2.2.2.1 == x17.2.1.2.2.2.2.2.1) && ((x20.2.1.2.2.2.2.2.2.1 == x17.2.1.2.2.2.2.2.2.1) && ((x20.2.1.2.2.2.2.2.2.2.1 == x17.2.1.2.2.2.2.2.2.2.1) && true))))))))
  bif x21 then (
  let x22 : Bool := (x15.2.1.1.toList == x18.2.1.1.toList)
  bif x22 then (
  (g_hnum_Num ((), ((x13.2.2.1.1, ()), ()))).bind fun x23 =>
  let x24 : Bool := (x23.2.1.1 == x16.2.2.1.1)
  bif x24 then (
  (g_hnum_Num ((), ((x14.2.2.1.1, ()), ()))).bind fun x25 =>
  let x26 : Bool := (x25.2.1.1 == x17.2.2.1.1)
  bif x26 then (
  (g_hnum_Num ((), ((x15.2.2.1.1, ()), ()))).bind fun x27 =>
  let x28 : Bool := (x27.2.1.1 == x18.2.2.1.1)
  bif x28 then (
  (g_hnum_Bytes ((), ((x6, ()), ((d.2.1.1, ()), ())))).bind fun x29 =>
  some ((), ((x29.2.1.1, ()), ())))
  else (
  some ((), ((false, ()), ()))))
  else (
  some ((), ((false, ()), ()))))
  else (
  some ((), ((false, ()), ()))))
  else (
  some ((), ((false, ()), ()))))
  else (
  some ((), ((false, ()), ()))))
  else (
  some ((), ((false, ()), ()))))))
  else (
  let x30 : Bool := (!x7.2.2.1.1.isNone)
  bif x30 then (
  some ((), ((false, ()), ())))
  else (
  let x31 : Int := (iconv .u64 x7.2.1.1)
  (g_ref03_Value ((), ((d.2.1.1, ()), ()))).bind fun x32 =>
  let x33 : Bool := (x31 != x32.2.1.1)
  bif x33 then (
  some ((), ((false, ()), ())))
  else (
  (g_word_Near ((), ((x6, ()), ((d.2.2.1.1, ()), ())))).bind fun x34 =>
  (g_word_Label ((), ((x6, ()), ((d.2.2.1.1, ()), ())))).bind fun x35 =>
  (g_word_Text ((), ((x6, ()), ((d.2.2.1.1, ()), ())))).bind fun x36 =>
  (g_ref27_Near ((), ((d.2.1.1, ()), ((d.2.2.1.1, ()), ())))).bind fun x37 =>
  (g_ref27_Label ((), ((d.2.1.1, ()), ((d.2.2.1.1, ()), ())))).bind fun x38 =>
  (g_ref27_Text ((), ((d.2.1.1, ()), ((d.2.2.1.1, ()), ())))).bind fun x39 =>
  let x40 : Bool := (x34.2.1.1 == x37.2.1.1)
  bif x40 then (
  (g_law08_Document ((), ((x35.2.1.1, (x35.2.1.2.1, (x35.2.1.2.2.1, (x35.2.1.2.2.2.1, (x35.2.1.2.2.2.2.1, (x35.2.1.2.2.2.2.2.1, (x35.2.1.2.2.2.2.2.2.1, (x35.2.1.2.2.2.2.2.2.2.1, ())))))))), ()))).bind fun x41 =>
  let x42 : Bool := ((x41.2.1.1 == x38.2.1.1) && ((x41.2.1.2.1 == x38.2.1.2.1) && ((x41.2.1.2.2.1 == x38.2.1.2.2.1) && ((x41.2.1.2.2.2.1 == x38.2.1.2.2.2.1) && ((x41.2.1.2.2.2.2.1 == x38.2.1.2.2.2.2.1) && ((x41.2.1.2.2.2.2.2.1 == x38.2.1.2.2.2.2.2.1) && ((x41.2.1.2.2.2.2.2.2.1 == x38.2.1.2.2.2.2.2.2.1) && ((x41.2.1.2.2.2.2.2.2.2.1 == x38.2.1.2.2.2.2.2.2.2.1) && true))))))))
  bif x42 then (
  let x43 : Bool := (x36.2.1.1.toList == x39.2.1.1.toList)
  bif x43 then (
  (g_hnum_Num ((), ((x34.2.2.1.1, ()), ()))).bind fun x44 =>
  let x45 : Bool := (x44.2.1.1 == x37.2.2.1.1)
  bif x45 then (
  (g_hnum_Num ((), ((x35.2.2.1.1, ()), ()))).bind fun x46 =>
  let x47 : Bool := (x46.2.1.1 == x38.2.2.1.1)
  bif x47 then (
  (g_hnum_Num ((), ((x36.2.2.1.1, ()), ()))).bind fun x48 =>
  let x49 : Bool := (x48.2.1.1 == x39.2.2.1.1)
  bif x49 then (
  (g_hnum_Bytes ((), ((x6, ()), ((d.2.1.1, ()), ())))).bind fun x50 =>
  some ((), ((x50.2.1.1, ()), ())))
  else (
  some ((), ((false, ()), ()))))
  else (
  some ((), ((false, ()), ()))))
  else (
  some ((), ((false, ()), ()))))
  else (
  some ((), ((false, ()), ()))))
  else (
  some ((), ((false, ()), ()))))
  else (
  some ((), ((false, ()), ())))))))
  else none))
def c_law27_WordNears : List Nat := []
def L_law27_WordNears (_ : Nat) : Pts po_law27_WordNears.den := []
def R_law27_WordNears (_ : Nat) : PtsR po_law27_WordNears.den := []
def E_law27_WordNears : Env := (((((((((((((E0.add 9 (typedSem pi_hnum_Num po_hnum_Num g_hnum_Num)).add 14 (typedSem pi_law27_alive po_law27_alive g_law27_alive)).add 15 (typedSem pi_word_Parse po_word_Parse g_word_Parse)).add 16 (typedSem pi_hnum_Is po_hnum_Is g_hnum_Is)).add 17 (typedSem pi_ref03_Value po_ref03_Value g_ref03_Value)).add 18 (typedSem pi_word_Near po_word_Near g_word_Near)).add 19 (typedSem pi_word_Label po_word_Label g_word_Label)).add 20 (typedSem pi_word_Text po_word_Text g_word_Text)).add 21 (typedSem pi_ref27_Near po_ref27_Near g_ref27_Near)).add 22 (typedSem pi_ref27_Label po_ref27_Label g_ref27_Label)).add 23 (typedSem pi_ref27_Text po_ref27_Text g_ref27_Text)).add 24 (typedSem pi_law08_Document po_law08_Document g_law08_Document)).add 25 (typedSem pi_hnum_Bytes po_hnum_Bytes g_hnum_Bytes))
theorem q_law27_WordNears_m (k : Nat) (d : Unit × (((List Int) × Unit) × ((Int × Unit) × Unit))) : evCode E_law27_WordNears (tb (L_law27_WordNears k) (R_law27_WordNears k)) c_law27_WordNears (bodyOf Try.f4) 0 (finK E_law27_WordNears po_law27_WordNears [.tmp 4]) (startSt pi_law27_WordNears 124 d) = f_law27_WordNears_m () d := by kernel_rfl
def g_law27_WordNears (d : Unit × (((List Int) × Unit) × ((Int × Unit) × Unit))) : Option (Unit × ((Bool × Unit) × Unit)) := f_law27_WordNears_m () d
theorem ok_law27_WordNears : FnOk Try.prog ET0 4 pi_law27_WordNears po_law27_WordNears g_law27_WordNears :=
  fn_of_body (E := E_law27_WordNears) (envOk_add (envOk_add (envOk_add (envOk_add (envOk_add (envOk_add (envOk_add (envOk_add (envOk_add (envOk_add (envOk_add (envOk_add (envOk_add e0_ok (typed_ok ok_hnum_Num)) (typed_ok ok_law27_alive)) (typed_ok ok_word_Parse)) (typed_ok ok_hnum_Is)) (typed_ok ok_ref03_Value)) (typed_ok ok_word_Near)) (typed_ok ok_word_Label)) (typed_ok ok_word_Text)) (typed_ok ok_ref27_Near)) (typed_ok ok_ref27_Label)) (typed_ok ok_ref27_Text)) (typed_ok ok_law08_Document)) (typed_ok ok_hnum_Bytes)) (fn := Try.f4) Try.func4 (by kernel_rfl) (by kernel_rfl) [.tmp 4] (by kernel_rfl) (by kernel_rfl) (by decide) rfl c_law27_WordNears L_law27_WordNears R_law27_WordNears
    (by intro x hx; cases hx) (by intro k x hx; cases hx) (by intro x hx; cases hx) (by intro k x hx; cases hx) (fun d out h => ⟨0, (q_law27_WordNears_m 0 d).trans h⟩)
end
end Go.Proofs.Ytddnfappkfiidaa.Ev
