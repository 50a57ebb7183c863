/- Printed by wip/tools/evgen.py. -/
import Derived.Test.YticfncahnhbhbaaEvGa
import Derived.Test.YticfncahnhbhbaaEvE
import Derived.Test.YticfncahnhbhbaaProg
import Derived.KernelRfl
set_option maxRecDepth 100000
set_option maxHeartbeats 2000000
set_option linter.unusedVariables false
namespace Go.Proofs.Yticfncahnhbhbaa.Ev
open Go
noncomputable section

/- horologe/horologeref25.great -/
@[reducible] def pi_ref25_great : PSh := ⟨[], [.mk false [.v .str]]⟩
@[reducible] def po_ref25_great : PSh := ⟨[], [.mk false [.v .str]]⟩
@[reducible] def TT_ref25_great : Type := (((((List Int) × Unit) × (Unit × ((Int × Unit) × Unit))) → Option (Unit × ((ByteArray × Unit) × Unit))) × Unit)
@[reducible] def sh_ref25_great_4 : PSh := ⟨[.row 5 (.int .u8)], [.any, .any, .any, .mk false [.osl 0], .mk false [.v (.int .i64)], .any, .any, .any, .any, .any, .any, .any, .any, .any, .any, .any, .any, .any, .any, .any, .any, .any, .any, .any, .any, .any, .any, .any, .any, .any, .any, .any, .any, .any, .any]⟩
def f_ref25_great_p4 (T : TT_ref25_great) (d : ((List Int) × Unit) × (Unit × ((Int × Unit) × Unit))) : Option (Unit × ((ByteArray × Unit) × Unit)) :=
  let x2 : Int := (d.1.1.length : Int)
  let x3 : Bool := (decide (d.2.2.1.1 < x2))
  bif x3 then (
  bif decide ((0 : Int) ≤ d.2.2.1.1) && decide (d.2.2.1.1 < (d.1.1.length : Int)) then (
  let x4 : Bool := (decide ((gd (.int .u8) d.1.1 d.2.2.1.1) ≥ (97 : Int)))
  bif x4 then (
  bif decide ((0 : Int) ≤ d.2.2.1.1) && decide (d.2.2.1.1 < (d.1.1.length : Int)) then (
  let x5 : Bool := (decide ((gd (.int .u8) d.1.1 d.2.2.1.1) ≤ (122 : Int)))
  bif x5 then (
  bif decide ((0 : Int) ≤ d.2.2.1.1) && decide (d.2.2.1.1 < (d.1.1.length : Int)) then (
  let x6 : Int := (isub .u8 (gd (.int .u8) d.1.1 d.2.2.1.1) (32 : Int))
  bif decide ((0 : Int) ≤ d.2.2.1.1) && decide (d.2.2.1.1 < (d.1.1.length : Int)) then (
  let x7 : (List Int) := (List.set d.1.1 (Int.toNat d.2.2.1.1) x6)
  let x8 : Int := (iadd .i64 d.2.2.1.1 (1 : Int))
  (T.1 ((x7, ()), ((), ((x8, ()), ())))))
  else none)
  else none)
  else (
  let x9 : Int := (iadd .i64 d.2.2.1.1 (1 : Int))
  (T.1 ((d.1.1, ()), ((), ((x9, ()), ()))))))
  else none)
  else (
  let x10 : Int := (iadd .i64 d.2.2.1.1 (1 : Int))
  (T.1 ((d.1.1, ()), ((), ((x10, ()), ()))))))
  else none)
  else (
  let x11 : ByteArray := (strOf d.1.1)
  some ((), ((x11, ()), ())))
def f_ref25_great_t : Nat → TT_ref25_great
  | 0 => (fun _ => none, ())
  | k + 1 => (f_ref25_great_p4 (f_ref25_great_t k), ())
theorem t_ref25_great (k : Nat) : f_ref25_great_t (k + 1) = (f_ref25_great_p4 (f_ref25_great_t k), ()) := rfl
def f_ref25_great_m (T : TT_ref25_great) (d : Unit × ((ByteArray × Unit) × Unit)) : Option (Unit × ((ByteArray × Unit) × Unit)) :=
  bif decide ((d.2.1.1.size : Int) ≤ 9223372036854775807) then (
  let x1 : (List Int) := (bytesOf d.2.1.1)
  (T.1 ((x1, ()), ((), (((0 : Int), ()), ())))))
  else none
def c_ref25_great : List Nat := []
def L_ref25_great (k : Nat) : Pts po_ref25_great.den := [(4, ⟨sh_ref25_great_4, (f_ref25_great_t k).1⟩)]
def E_ref25_great : Env := E0
theorem q_ref25_great_4 (k : Nat) (d : ((List Int) × Unit) × (Unit × ((Int × Unit) × Unit))) : evAt E_ref25_great (tab (L_ref25_great k)) c_ref25_great 4 (bodyOf Try.f82) 0 (finK E_ref25_great po_ref25_great [.tmp 2]) (ptSt sh_ref25_great_4 d) = f_ref25_great_p4 (f_ref25_great_t k) d := by kernel_rfl
theorem q_ref25_great_m (k : Nat) (d : Unit × ((ByteArray × Unit) × Unit)) : evCode E_ref25_great (tab (L_ref25_great k)) c_ref25_great (bodyOf Try.f82) 0 (finK E_ref25_great po_ref25_great [.tmp 2]) (startSt pi_ref25_great 35 d) = f_ref25_great_m (f_ref25_great_t k) d := by kernel_rfl
theorem go_ref25_great (F : Unit × ((ByteArray × Unit) × Unit) → Option (Unit × ((ByteArray × Unit) × Unit))) (hF : ∀ d out, F d = some out → ∃ k, f_ref25_great_m (f_ref25_great_t k) d = some out) : FnOk Try.prog ET0 82 pi_ref25_great po_ref25_great F :=
  fn_of_body (E := E_ref25_great) e0_ok (fn := Try.f82) Try.func82 (by kernel_rfl) (by kernel_rfl) [.tmp 2] (by kernel_rfl) (by kernel_rfl) (by decide) rfl c_ref25_great L_ref25_great
    (by intro x hx d; simp only [L_ref25_great, List.mem_cons, List.not_mem_nil, or_false] at hx; subst hx; rfl)
    (by intro k x hx d out h; simp only [L_ref25_great, List.mem_cons, List.not_mem_nil, or_false] at hx; subst hx; exact (q_ref25_great_4 k d).trans h)
    (by intro d out h; obtain ⟨k, hk⟩ := hF d out h; exact ⟨k, (q_ref25_great_m k d).trans hk⟩)
def g_ref25_great (d : Unit × ((ByteArray × Unit) × Unit)) : Option (Unit × ((ByteArray × Unit) × Unit)) := lim fun k => f_ref25_great_m (f_ref25_great_t k) d
theorem ok_ref25_great : FnOk Try.prog ET0 82 pi_ref25_great po_ref25_great g_ref25_great := go_ref25_great g_ref25_great fun d out h => lim_some h

/- horologe/horologeref25.Zone -/
@[reducible] def pi_ref25_Zone : PSh := ⟨[], [.mk false [.v .str]]⟩
@[reducible] def po_ref25_Zone : PSh := ⟨[], [.mk false [.v (.int .i64)], .mk false [.v .bool]]⟩
@[reducible] def TT_ref25_Zone : Type := (((((List ByteArray) × ((List Int) × Unit)) × ((ByteArray × Unit) × (Unit × (Unit × ((Int × Unit) × Unit))))) → Option (Unit × ((Int × Unit) × ((Bool × Unit) × Unit)))) × Unit)
@[reducible] def sh_ref25_Zone_8 : PSh := ⟨[.row 9 .str, .row 3 (.int .i64)], [.mk false [.v .str], .any, .any, .any, .mk false [.osl 0], .mk false [.osl 1], .mk false [.v (.int .i64)], .any, .any, .any, .any, .any, .any, .any, .any, .any, .any, .any, .any, .any, .any, .any, .any, .any, .any, .any, .any, .any, .any, .any, .any, .any, .any, .any, .any, .any, .any, .any, .any, .any, .any, .any, .any]⟩
def f_ref25_Zone_p8 (T : TT_ref25_Zone) (d : ((List ByteArray) × ((List Int) × Unit)) × ((ByteArray × Unit) × (Unit × (Unit × ((Int × Unit) × Unit))))) : Option (Unit × ((Int × Unit) × ((Bool × Unit) × Unit))) :=
  let x11 : Int := (d.1.1.length : Int)
  let x12 : Bool := (decide (d.2.2.2.2.1.1 < x11))
  bif x12 then (
  (g_ref25_great ((), ((d.2.1.1, ()), ()))).bind fun x13 =>
  bif decide ((0 : Int) ≤ d.2.2.2.2.1.1) && decide (d.2.2.2.2.1.1 < (d.1.1.length : Int)) then (
  let x14 : Bool := (x13.2.1.1.toList == (gd .str d.1.1 d.2.2.2.2.1.1).toList)
  bif x14 then (
  bif decide ((0 : Int) ≤ d.2.2.2.2.1.1) && decide (d.2.2.2.2.1.1 < (d.1.2.1.length : Int)) then (
  let x15 : Int := (imul .i64 (gd (.int .i64) d.1.2.1 d.2.2.2.2.1.1) (60 : Int))
  some ((), ((x15, ()), ((true, ()), ()))))
  else none)
  else (
  let x16 : Int := (iadd .i64 d.2.2.2.2.1.1 (1 : Int))
  (T.1 ((d.1.1, (d.1.2.1, ())), ((d.2.1.1, ()), ((), ((), ((x16, ()), ()))))))))
  else none)
  else (
  some ((), (((0 : Int), ()), ((false, ()), ()))))
def f_ref25_Zone_t : Nat → TT_ref25_Zone
  | 0 => (fun _ => none, ())
  | k + 1 => (f_ref25_Zone_p8 (f_ref25_Zone_t k), ())
theorem t_ref25_Zone (k : Nat) : f_ref25_Zone_t (k + 1) = (f_ref25_Zone_p8 (f_ref25_Zone_t k), ()) := rfl
def f_ref25_Zone_m (T : TT_ref25_Zone) (d : Unit × ((ByteArray × Unit) × Unit)) : Option (Unit × ((Int × Unit) × ((Bool × Unit) × Unit))) :=
  let x1 : Int := (d.2.1.1.size : Int)
  let x2 : Bool := (x1 == (1 : Int))
  bif x2 then (
  bif decide ((0 : Int) ≤ (0 : Int)) && decide ((0 : Int) < ((d.2.1.1.size : Int) : Int)) then (
  let x3 : Int := (bt d.2.1.1 (0 : Int))
  (g_ref25_letter ((), ((x3, ()), ()))).bind fun x4 =>
  bif x4.2.1.1 then (
  bif decide ((0 : Int) ≤ (0 : Int)) && decide ((0 : Int) < ((d.2.1.1.size : Int) : Int)) then (
  let x5 : Int := (bt d.2.1.1 (0 : Int))
  let x6 : Bool := (x5 != (74 : Int))
  bif x6 then (
  bif decide ((0 : Int) ≤ (0 : Int)) && decide ((0 : Int) < ((d.2.1.1.size : Int) : Int)) then (
  let x7 : Int := (bt d.2.1.1 (0 : Int))
  let x8 : Bool := (x7 != (106 : Int))
  some ((), (((0 : Int), ()), ((x8, ()), ()))))
  else none)
  else (
  some ((), (((0 : Int), ()), ((false, ()), ())))))
  else none)
  else (
  some ((), (((0 : Int), ()), ((false, ()), ())))))
  else none)
  else (
  let x9 : (List ByteArray) := ([(⟨#[85, 84]⟩ : ByteArray), (⟨#[71, 77, 84]⟩ : ByteArray), (⟨#[69, 83, 84]⟩ : ByteArray), (⟨#[69, 68, 84]⟩ : ByteArray), (⟨#[67, 83, 84]⟩ : ByteArray), (⟨#[67, 68, 84]⟩ : ByteArray), (⟨#[77, 83, 84]⟩ : ByteArray), (⟨#[77, 68, 84]⟩ : ByteArray), (⟨#[80, 83, 84]⟩ : ByteArray), (⟨#[80, 68, 84]⟩ : ByteArray)] : List ByteArray)
  let x10 : (List Int) := ([(0 : Int), (0 : Int), (-5 : Int), (-4 : Int), (-6 : Int), (-5 : Int), (-7 : Int), (-6 : Int), (-8 : Int), (-7 : Int)] : List Int)
  (T.1 ((x9, (x10, ())), ((d.2.1.1, ()), ((), ((), (((0 : Int), ()), ())))))))
def c_ref25_Zone : List Nat := []
def L_ref25_Zone (k : Nat) : Pts po_ref25_Zone.den := [(8, ⟨sh_ref25_Zone_8, (f_ref25_Zone_t k).1⟩)]
def E_ref25_Zone : Env := ((E0.add 81 (typedSem pi_ref25_letter po_ref25_letter g_ref25_letter)).add 82 (typedSem pi_ref25_great po_ref25_great g_ref25_great))
theorem q_ref25_Zone_8 (k : Nat) (d : ((List ByteArray) × ((List Int) × Unit)) × ((ByteArray × Unit) × (Unit × (Unit × ((Int × Unit) × Unit))))) : evAt E_ref25_Zone (tab (L_ref25_Zone k)) c_ref25_Zone 8 (bodyOf Try.f33) 0 (finK E_ref25_Zone po_ref25_Zone [.tmp 2, .tmp 3]) (ptSt sh_ref25_Zone_8 d) = f_ref25_Zone_p8 (f_ref25_Zone_t k) d := by kernel_rfl
theorem q_ref25_Zone_m (k : Nat) (d : Unit × ((ByteArray × Unit) × Unit)) : evCode E_ref25_Zone (tab (L_ref25_Zone k)) c_ref25_Zone (bodyOf Try.f33) 0 (finK E_ref25_Zone po_ref25_Zone [.tmp 2, .tmp 3]) (startSt pi_ref25_Zone 43 d) = f_ref25_Zone_m (f_ref25_Zone_t k) d := by kernel_rfl
theorem go_ref25_Zone (F : Unit × ((ByteArray × Unit) × Unit) → Option (Unit × ((Int × Unit) × ((Bool × Unit) × Unit)))) (hF : ∀ d out, F d = some out → ∃ k, f_ref25_Zone_m (f_ref25_Zone_t k) d = some out) : FnOk Try.prog ET0 33 pi_ref25_Zone po_ref25_Zone F :=
  fn_of_body (E := E_ref25_Zone) (envOk_add (envOk_add e0_ok (typed_ok ok_ref25_letter)) (typed_ok ok_ref25_great)) (fn := Try.f33) Try.func33 (by kernel_rfl) (by kernel_rfl) [.tmp 2, .tmp 3] (by kernel_rfl) (by kernel_rfl) (by decide) rfl c_ref25_Zone L_ref25_Zone
    (by intro x hx d; simp only [L_ref25_Zone, List.mem_cons, List.not_mem_nil, or_false] at hx; subst hx; rfl)
    (by intro k x hx d out h; simp only [L_ref25_Zone, List.mem_cons, List.not_mem_nil, or_false] at hx; subst hx; exact (q_ref25_Zone_8 k d).trans h)
    (by intro d out h; obtain ⟨k, hk⟩ := hF d out h; exact ⟨k, (q_ref25_Zone_m k d).trans hk⟩)
def g_ref25_Zone (d : Unit × ((ByteArray × Unit) × Unit)) : Option (Unit × ((Int × Unit) × ((Bool × Unit) × Unit))) := lim fun k => f_ref25_Zone_m (f_ref25_Zone_t k) d
theorem ok_ref25_Zone : FnOk Try.prog ET0 33 pi_ref25_Zone po_ref25_Zone g_ref25_Zone := go_ref25_Zone g_ref25_Zone fun d out h => lim_some h

/- horologe/horologeref25.Remark -/
@[reducible] def pi_ref25_Remark : PSh := ⟨[], [.mk false [.v .str], .mk false [.v (.int .i64)]]⟩
@[reducible] def po_ref25_Remark : PSh := ⟨[], [.mk false [.v (.int .i64)]]⟩
@[reducible] def TT_ref25_Remark : Type := (((Unit × ((ByteArray × Unit) × ((Int × Unit) × Unit))) → Option (Unit × ((Int × Unit) × Unit))) × Unit)
@[reducible] def sh_ref25_Remark_3 : PSh := ⟨[], [.mk false [.v .str], .mk false [.v (.int .i64)], .any, .any, .any, .any, .any, .any, .any, .any, .any, .any, .any, .any, .any, .any, .any, .any, .any, .any, .any, .any, .any, .any, .any, .any, .any, .any, .any, .any, .any, .any, .any, .any]⟩
def f_ref25_Remark_p3 (G : Unit × ((ByteArray × Unit) × ((Int × Unit) × Unit)) → Option (Unit × ((Int × Unit) × Unit))) (T : TT_ref25_Remark) (d : Unit × ((ByteArray × Unit) × ((Int × Unit) × Unit))) : Option (Unit × ((Int × Unit) × Unit)) :=
  let x2 : Int := (d.2.1.1.size : Int)
  let x3 : Bool := (decide (d.2.2.1.1 < x2))
  bif x3 then (
  bif decide ((0 : Int) ≤ d.2.2.1.1) && decide (d.2.2.1.1 < ((d.2.1.1.size : Int) : Int)) then (
  let x4 : Int := (bt d.2.1.1 d.2.2.1.1)
  let x5 : Bool := (x4 == (41 : Int))
  bif x5 then (
  let x6 : Int := (iadd .i64 d.2.2.1.1 (1 : Int))
  some ((), ((x6, ()), ())))
  else (
  bif decide ((0 : Int) ≤ d.2.2.1.1) && decide (d.2.2.1.1 < ((d.2.1.1.size : Int) : Int)) then (
  let x7 : Int := (bt d.2.1.1 d.2.2.1.1)
  let x8 : Bool := (x7 == (40 : Int))
  bif x8 then (
  (G ((), ((d.2.1.1, ()), ((d.2.2.1.1, ()), ())))).bind fun x9 =>
  let x10 : Bool := (decide (x9.2.1.1 < (0 : Int)))
  bif x10 then (
  some ((), (((-1 : Int), ()), ())))
  else (
  (T.1 ((), ((d.2.1.1, ()), ((x9.2.1.1, ()), ()))))))
  else (
  bif decide ((0 : Int) ≤ d.2.2.1.1) && decide (d.2.2.1.1 < ((d.2.1.1.size : Int) : Int)) then (
  let x11 : Int := (bt d.2.1.1 d.2.2.1.1)
  let x12 : Bool := (x11 == (92 : Int))
  bif x12 then (
  let x13 : Int := (iadd .i64 d.2.2.1.1 (1 : Int))
  let x14 : Int := (iadd .i64 x13 (1 : Int))
  (T.1 ((), ((d.2.1.1, ()), ((x14, ()), ())))))
  else (
  let x15 : Int := (iadd .i64 d.2.2.1.1 (1 : Int))
  (T.1 ((), ((d.2.1.1, ()), ((x15, ()), ()))))))
  else none))
  else none))
  else none)
  else (
  some ((), (((-1 : Int), ()), ())))
def f_ref25_Remark_t (G : Unit × ((ByteArray × Unit) × ((Int × Unit) × Unit)) → Option (Unit × ((Int × Unit) × Unit))) : Nat → TT_ref25_Remark
  | 0 => (fun _ => none, ())
  | k + 1 => (f_ref25_Remark_p3 G (f_ref25_Remark_t G k), ())
theorem t_ref25_Remark (G : Unit × ((ByteArray × Unit) × ((Int × Unit) × Unit)) → Option (Unit × ((Int × Unit) × Unit))) (k : Nat) : f_ref25_Remark_t G (k + 1) = (f_ref25_Remark_p3 G (f_ref25_Remark_t G k), ()) := rfl
def f_ref25_Remark_m (G : Unit × ((ByteArray × Unit) × ((Int × Unit) × Unit)) → Option (Unit × ((Int × Unit) × Unit))) (T : TT_ref25_Remark) (d : Unit × ((ByteArray × Unit) × ((Int × Unit) × Unit))) : Option (Unit × ((Int × Unit) × Unit)) :=
  let x1 : Int := (iadd .i64 d.2.2.1.1 (1 : Int))
  (T.1 ((), ((d.2.1.1, ()), ((x1, ()), ()))))
def c_ref25_Remark : List Nat := []
def L_ref25_Remark (G : Unit × ((ByteArray × Unit) × ((Int × Unit) × Unit)) → Option (Unit × ((Int × Unit) × Unit))) (k : Nat) : Pts po_ref25_Remark.den := [(3, ⟨sh_ref25_Remark_3, (f_ref25_Remark_t G k).1⟩)]
def E_ref25_Remark (G : Unit × ((ByteArray × Unit) × ((Int × Unit) × Unit)) → Option (Unit × ((Int × Unit) × Unit))) : Env := (E0.add 85 (typedSem pi_ref25_Remark po_ref25_Remark G))
theorem q_ref25_Remark_3 (G : Unit × ((ByteArray × Unit) × ((Int × Unit) × Unit)) → Option (Unit × ((Int × Unit) × Unit))) (k : Nat) (d : Unit × ((ByteArray × Unit) × ((Int × Unit) × Unit))) : evAt (E_ref25_Remark G) (tab (L_ref25_Remark G k)) c_ref25_Remark 3 (bodyOf Try.f85) 0 (finK (E_ref25_Remark G) po_ref25_Remark [.tmp 4]) (ptSt sh_ref25_Remark_3 d) = f_ref25_Remark_p3 G (f_ref25_Remark_t G k) d := by kernel_rfl
theorem q_ref25_Remark_m (G : Unit × ((ByteArray × Unit) × ((Int × Unit) × Unit)) → Option (Unit × ((Int × Unit) × Unit))) (k : Nat) (d : Unit × ((ByteArray × Unit) × ((Int × Unit) × Unit))) : evCode (E_ref25_Remark G) (tab (L_ref25_Remark G k)) c_ref25_Remark (bodyOf Try.f85) 0 (finK (E_ref25_Remark G) po_ref25_Remark [.tmp 4]) (startSt pi_ref25_Remark 34 d) = f_ref25_Remark_m G (f_ref25_Remark_t G k) d := by kernel_rfl
theorem go_ref25_Remark (G : Unit × ((ByteArray × Unit) × ((Int × Unit) × Unit)) → Option (Unit × ((Int × Unit) × Unit))) (hG0 : FnOk Try.prog ET0 85 pi_ref25_Remark po_ref25_Remark G) (F : Unit × ((ByteArray × Unit) × ((Int × Unit) × Unit)) → Option (Unit × ((Int × Unit) × Unit))) (hF : ∀ d out, F d = some out → ∃ k, f_ref25_Remark_m G (f_ref25_Remark_t G k) d = some out) : FnOk Try.prog ET0 85 pi_ref25_Remark po_ref25_Remark F :=
  fn_of_body (E := (E_ref25_Remark G)) (envOk_add e0_ok (typed_ok hG0)) (fn := Try.f85) Try.func85 (by kernel_rfl) (by kernel_rfl) [.tmp 4] (by kernel_rfl) (by kernel_rfl) (by decide) rfl c_ref25_Remark (L_ref25_Remark G)
    (by intro x hx d; simp only [L_ref25_Remark, List.mem_cons, List.not_mem_nil, or_false] at hx; subst hx; rfl)
    (by intro k x hx d out h; simp only [L_ref25_Remark, List.mem_cons, List.not_mem_nil, or_false] at hx; subst hx; exact (q_ref25_Remark_3 G k d).trans h)
    (by intro d out h; obtain ⟨k, hk⟩ := hF d out h; exact ⟨k, (q_ref25_Remark_m G k d).trans hk⟩)
def r_ref25_Remark : Nat → Unit × ((ByteArray × Unit) × ((Int × Unit) × Unit)) → Option (Unit × ((Int × Unit) × Unit))
  | 0 => fun _ => none
  | n + 1 => fun d => lim fun k => f_ref25_Remark_m (r_ref25_Remark n) (f_ref25_Remark_t (r_ref25_Remark n) k) d
theorem okr_ref25_Remark : ∀ n, FnOk Try.prog ET0 85 pi_ref25_Remark po_ref25_Remark (r_ref25_Remark n)
  | 0 => ⟨⟨Try.f85, Try.func85, by kernel_rfl, by kernel_rfl⟩, fun d out h => by cases h⟩
  | n + 1 => go_ref25_Remark (r_ref25_Remark n) (okr_ref25_Remark n) (r_ref25_Remark (n + 1)) fun d out h => lim_some h
def g_ref25_Remark (d : Unit × ((ByteArray × Unit) × ((Int × Unit) × Unit))) : Option (Unit × ((Int × Unit) × Unit)) := lim fun n => r_ref25_Remark n d
theorem ok_ref25_Remark : FnOk Try.prog ET0 85 pi_ref25_Remark po_ref25_Remark g_ref25_Remark := ⟨(okr_ref25_Remark 0).fn, fun d out h => by obtain ⟨n, hn⟩ := lim_some h; exact (okr_ref25_Remark n).run d out hn⟩

/- horologe/horologeref25.Gap -/
@[reducible] def pi_ref25_Gap : PSh := ⟨[], [.mk false [.v .str], .mk false [.v (.int .i64)]]⟩
@[reducible] def po_ref25_Gap : PSh := ⟨[], [.mk false [.v (.int .i64)]]⟩
@[reducible] def TT_ref25_Gap : Type := (((Unit × ((ByteArray × Unit) × ((Int × Unit) × Unit))) → Option (Unit × ((Int × Unit) × Unit))) × Unit)
@[reducible] def sh_ref25_Gap_5 : PSh := ⟨[], [.mk false [.v .str], .mk false [.v (.int .i64)], .any, .any, .any, .any, .any, .any, .any, .any, .any, .any, .any, .any, .any, .any, .any, .any, .any, .any, .any, .any, .any, .any, .any, .any, .any, .any, .any, .any, .any, .any, .any, .any, .any, .any, .any, .any, .any, .any, .any, .any, .any, .any, .any, .any, .any, .any, .any, .any, .any, .any, .any]⟩
def f_ref25_Gap_p5 (T : TT_ref25_Gap) (d : Unit × ((ByteArray × Unit) × ((Int × Unit) × Unit))) : Option (Unit × ((Int × Unit) × Unit)) :=
  let x4 : Int := (d.2.1.1.size : Int)
  let x5 : Bool := (decide (d.2.2.1.1 < x4))
  bif x5 then (
  bif decide ((0 : Int) ≤ d.2.2.1.1) && decide (d.2.2.1.1 < ((d.2.1.1.size : Int) : Int)) then (
  let x6 : Int := (bt d.2.1.1 d.2.2.1.1)
  let x7 : Bool := (x6 == (40 : Int))
  bif x7 then (
  (g_ref25_Remark ((), ((d.2.1.1, ()), ((d.2.2.1.1, ()), ())))).bind fun x8 =>
  let x9 : Bool := (decide (x8.2.1.1 < (0 : Int)))
  bif x9 then (
  some ((), (((-1 : Int), ()), ())))
  else (
  (T.1 ((), ((d.2.1.1, ()), ((x8.2.1.1, ()), ()))))))
  else (
  bif decide ((0 : Int) ≤ d.2.2.1.1) && decide (d.2.2.1.1 < ((d.2.1.1.size : Int) : Int)) then (
  let x10 : Int := (bt d.2.1.1 d.2.2.1.1)
  let x11 : Bool := (x10 == (32 : Int))
  bif x11 then (
  let x12 : Int := (iadd .i64 d.2.2.1.1 (1 : Int))
  (T.1 ((), ((d.2.1.1, ()), ((x12, ()), ())))))
  else (
  bif decide ((0 : Int) ≤ d.2.2.1.1) && decide (d.2.2.1.1 < ((d.2.1.1.size : Int) : Int)) then (
  let x13 : Int := (bt d.2.1.1 d.2.2.1.1)
  let x14 : Bool := (x13 == (9 : Int))
  bif x14 then (
  let x15 : Int := (iadd .i64 d.2.2.1.1 (1 : Int))
  (T.1 ((), ((d.2.1.1, ()), ((x15, ()), ())))))
  else (
  bif decide ((0 : Int) ≤ d.2.2.1.1) && decide (d.2.2.1.1 < ((d.2.1.1.size : Int) : Int)) then (
  let x16 : Int := (bt d.2.1.1 d.2.2.1.1)
  let x17 : Bool := (x16 == (13 : Int))
  bif x17 then (
  let x18 : Int := (iadd .i64 d.2.2.1.1 (1 : Int))
  (T.1 ((), ((d.2.1.1, ()), ((x18, ()), ())))))
  else (
  bif decide ((0 : Int) ≤ d.2.2.1.1) && decide (d.2.2.1.1 < ((d.2.1.1.size : Int) : Int)) then (
  let x19 : Int := (bt d.2.1.1 d.2.2.1.1)
  let x20 : Bool := (x19 == (10 : Int))
  bif x20 then (
  let x21 : Int := (iadd .i64 d.2.2.1.1 (1 : Int))
  (T.1 ((), ((d.2.1.1, ()), ((x21, ()), ())))))
  else (
  some ((), ((d.2.2.1.1, ()), ()))))
  else none))
  else none))
  else none))
  else none))
  else none)
  else (
  some ((), ((d.2.2.1.1, ()), ())))
def f_ref25_Gap_t : Nat → TT_ref25_Gap
  | 0 => (fun _ => none, ())
  | k + 1 => (f_ref25_Gap_p5 (f_ref25_Gap_t k), ())
theorem t_ref25_Gap (k : Nat) : f_ref25_Gap_t (k + 1) = (f_ref25_Gap_p5 (f_ref25_Gap_t k), ()) := rfl
def f_ref25_Gap_m (T : TT_ref25_Gap) (d : Unit × ((ByteArray × Unit) × ((Int × Unit) × Unit))) : Option (Unit × ((Int × Unit) × Unit)) :=
  let x1 : Bool := (decide (d.2.2.1.1 < (0 : Int)))
  bif x1 then (
  some ((), ((d.2.2.1.1, ()), ())))
  else (
  let x2 : Int := (d.2.1.1.size : Int)
  let x3 : Bool := (decide (d.2.2.1.1 > x2))
  bif x3 then (
  some ((), ((d.2.2.1.1, ()), ())))
  else (
  (T.1 ((), ((d.2.1.1, ()), ((d.2.2.1.1, ()), ()))))))
def c_ref25_Gap : List Nat := []
def L_ref25_Gap (k : Nat) : Pts po_ref25_Gap.den := [(5, ⟨sh_ref25_Gap_5, (f_ref25_Gap_t k).1⟩)]
def E_ref25_Gap : Env := (E0.add 85 (typedSem pi_ref25_Remark po_ref25_Remark g_ref25_Remark))
theorem q_ref25_Gap_5 (k : Nat) (d : Unit × ((ByteArray × Unit) × ((Int × Unit) × Unit))) : evAt E_ref25_Gap (tab (L_ref25_Gap k)) c_ref25_Gap 5 (bodyOf Try.f35) 0 (finK E_ref25_Gap po_ref25_Gap [.tmp 4]) (ptSt sh_ref25_Gap_5 d) = f_ref25_Gap_p5 (f_ref25_Gap_t k) d := by kernel_rfl
theorem q_ref25_Gap_m (k : Nat) (d : Unit × ((ByteArray × Unit) × ((Int × Unit) × Unit))) : evCode E_ref25_Gap (tab (L_ref25_Gap k)) c_ref25_Gap (bodyOf Try.f35) 0 (finK E_ref25_Gap po_ref25_Gap [.tmp 4]) (startSt pi_ref25_Gap 53 d) = f_ref25_Gap_m (f_ref25_Gap_t k) d := by kernel_rfl
theorem go_ref25_Gap (F : Unit × ((ByteArray × Unit) × ((Int × Unit) × Unit)) → Option (Unit × ((Int × Unit) × Unit))) (hF : ∀ d out, F d = some out → ∃ k, f_ref25_Gap_m (f_ref25_Gap_t k) d = some out) : FnOk Try.prog ET0 35 pi_ref25_Gap po_ref25_Gap F :=
  fn_of_body (E := E_ref25_Gap) (envOk_add e0_ok (typed_ok ok_ref25_Remark)) (fn := Try.f35) Try.func35 (by kernel_rfl) (by kernel_rfl) [.tmp 4] (by kernel_rfl) (by kernel_rfl) (by decide) rfl c_ref25_Gap L_ref25_Gap
    (by intro x hx d; simp only [L_ref25_Gap, List.mem_cons, List.not_mem_nil, or_false] at hx; subst hx; rfl)
    (by intro k x hx d out h; simp only [L_ref25_Gap, List.mem_cons, List.not_mem_nil, or_false] at hx; subst hx; exact (q_ref25_Gap_5 k d).trans h)
    (by intro d out h; obtain ⟨k, hk⟩ := hF d out h; exact ⟨k, (q_ref25_Gap_m k d).trans hk⟩)
def g_ref25_Gap (d : Unit × ((ByteArray × Unit) × ((Int × Unit) × Unit))) : Option (Unit × ((Int × Unit) × Unit)) := lim fun k => f_ref25_Gap_m (f_ref25_Gap_t k) d
theorem ok_ref25_Gap : FnOk Try.prog ET0 35 pi_ref25_Gap po_ref25_Gap g_ref25_Gap := go_ref25_Gap g_ref25_Gap fun d out h => lim_some h

/- horologe/horologelaw25.MailParts -/
@[reducible] def pi_law25_MailParts : PSh := ⟨[], [.mk false [.v .str], .mk false [.v (.int .i64)], .mk false [.v (.int .i64)]]⟩
@[reducible] def po_law25_MailParts : PSh := ⟨[], [.mk false [.v .bool]]⟩
def f_law25_MailParts_m (T : Unit) (d : Unit × ((ByteArray × Unit) × ((Int × Unit) × ((Int × Unit) × Unit)))) : Option (Unit × ((Bool × Unit) × Unit)) :=
  (g_law25_alive ((), ())).bind fun x1 =>
  let x2 : Bool := (!x1.2.1.1)
  bif x2 then (
  some ((), ((false, ()), ())))
  else (
  let x3 : Int := (d.2.1.1.size : Int)
  let x4 : Bool := (decide (x3 > (300 : Int)))
  bif x4 then (
  some ((), ((true, ()), ())))
  else (
  (g_mail_Zone ((), ((d.2.1.1, ()), ()))).bind fun x5 =>
  (g_ref25_Zone ((), ((d.2.1.1, ()), ()))).bind fun x6 =>
  (g_mail_Gap ((), ((d.2.1.1, ()), ((d.2.2.1.1, ()), ())))).bind fun x7 =>
  (g_ref25_Gap ((), ((d.2.1.1, ()), ((d.2.2.1.1, ()), ())))).bind fun x8 =>
  let x9 : Bool := (x7.2.1.1 == x8.2.1.1)
  bif x9 then (
  let x10 : Bool := (x5.2.1.1 == x6.2.1.1)
  bif x10 then (
  let x11 : Bool := (x5.2.2.1.1 == x6.2.2.1.1)
  bif x11 then (
  (g_mail_Weekday ((), ((d.2.2.2.1.1, ()), ()))).bind fun x12 =>
  (g_ref25_Weekday ((), ((d.2.2.2.1.1, ()), ()))).bind fun x13 =>
  let x14 : Bool := (x12.2.1.1.toList == x13.2.1.1.toList)
  bif x14 then (
  (g_mail_Month ((), ((d.2.2.2.1.1, ()), ()))).bind fun x15 =>
  (g_ref25_Month ((), ((d.2.2.2.1.1, ()), ()))).bind fun x16 =>
  let x17 : Bool := (x15.2.1.1.toList == x16.2.1.1.toList)
  some ((), ((x17, ()), ())))
  else (
  some ((), ((false, ()), ()))))
  else (
  some ((), ((false, ()), ()))))
  else (
  some ((), ((false, ()), ()))))
  else (
  some ((), ((false, ()), ())))))
def c_law25_MailParts : List Nat := []
def L_law25_MailParts (_ : Nat) : Pts po_law25_MailParts.den := []
def E_law25_MailParts : Env := (((((((((E0.add 28 (typedSem pi_law25_alive po_law25_alive g_law25_alive)).add 32 (typedSem pi_mail_Zone po_mail_Zone g_mail_Zone)).add 33 (typedSem pi_ref25_Zone po_ref25_Zone g_ref25_Zone)).add 34 (typedSem pi_mail_Gap po_mail_Gap g_mail_Gap)).add 35 (typedSem pi_ref25_Gap po_ref25_Gap g_ref25_Gap)).add 36 (typedSem pi_mail_Weekday po_mail_Weekday g_mail_Weekday)).add 37 (typedSem pi_ref25_Weekday po_ref25_Weekday g_ref25_Weekday)).add 38 (typedSem pi_mail_Month po_mail_Month g_mail_Month)).add 39 (typedSem pi_ref25_Month po_ref25_Month g_ref25_Month))
theorem q_law25_MailParts_m (k : Nat) (d : Unit × ((ByteArray × Unit) × ((Int × Unit) × ((Int × Unit) × Unit)))) : evCode E_law25_MailParts (tab (L_law25_MailParts k)) c_law25_MailParts (bodyOf Try.f7) 0 (finK E_law25_MailParts po_law25_MailParts [.tmp 6]) (startSt pi_law25_MailParts 57 d) = f_law25_MailParts_m () d := by kernel_rfl
def g_law25_MailParts (d : Unit × ((ByteArray × Unit) × ((Int × Unit) × ((Int × Unit) × Unit)))) : Option (Unit × ((Bool × Unit) × Unit)) := f_law25_MailParts_m () d
theorem ok_law25_MailParts : FnOk Try.prog ET0 7 pi_law25_MailParts po_law25_MailParts g_law25_MailParts :=
  fn_of_body (E := E_law25_MailParts) (envOk_add (envOk_add (envOk_add (envOk_add (envOk_add (envOk_add (envOk_add (envOk_add (envOk_add e0_ok (typed_ok ok_law25_alive)) (typed_ok ok_mail_Zone)) (typed_ok ok_ref25_Zone)) (typed_ok ok_mail_Gap)) (typed_ok ok_ref25_Gap)) (typed_ok ok_mail_Weekday)) (typed_ok ok_ref25_Weekday)) (typed_ok ok_mail_Month)) (typed_ok ok_ref25_Month)) (fn := Try.f7) Try.func7 (by kernel_rfl) (by kernel_rfl) [.tmp 6] (by kernel_rfl) (by kernel_rfl) (by decide) rfl c_law25_MailParts L_law25_MailParts
    (by intro x hx; cases hx) (by intro k x hx; cases hx) (fun d out h => ⟨0, (q_law25_MailParts_m 0 d).trans h⟩)

/- horologe/horologelaw25.MailBack -/
@[reducible] def pi_law25_MailBack : PSh := ⟨[], [.mk true [.v (.int .i64), .v (.int .i64), .v (.int .i64), .v (.int .i64), .v (.int .i64), .v (.int .i64), .v (.int .i64), .v (.int .i64)], .mk false [.v .str]]⟩
@[reducible] def po_law25_MailBack : PSh := ⟨[], [.mk false [.v .bool]]⟩
def f_law25_MailBack_m (T : Unit) (d : Unit × ((Int × (Int × (Int × (Int × (Int × (Int × (Int × (Int × Unit)))))))) × ((ByteArray × Unit) × Unit))) : Option (Unit × ((Bool × Unit) × Unit)) :=
  (g_law25_alive ((), ())).bind fun x1 =>
  let x2 : Bool := (!x1.2.1.1)
  bif x2 then (
  some ((), ((false, ()), ())))
  else (
  let x3 : Int := (d.2.2.1.1.size : Int)
  let x4 : Bool := (decide (x3 > (300 : Int)))
  bif x4 then (
  some ((), ((true, ()), ())))
  else (
  (g_mail_Put ((), ((d.2.1.1, (d.2.1.2.1, (d.2.1.2.2.1, (d.2.1.2.2.2.1, (d.2.1.2.2.2.2.1, (d.2.1.2.2.2.2.2.1, (d.2.1.2.2.2.2.2.2.1, (d.2.1.2.2.2.2.2.2.2.1, ())))))))), ()))).bind fun x5 =>
  bif x5.2.2.1.1.isNone then (
  (g_mail_Parse ((), ((x5.2.1.1, ()), ()))).bind fun x6 =>
  let x7 : Bool := (!x6.2.2.1.1.isNone)
  bif x7 then (
  some ((), ((false, ()), ())))
  else (
  let x8 : Bool := (!((x6.2.1.1 == d.2.1.1) && ((x6.2.1.2.1 == d.2.1.2.1) && ((x6.2.1.2.2.1 == d.2.1.2.2.1) && ((x6.2.1.2.2.2.1 == d.2.1.2.2.2.1) && ((x6.2.1.2.2.2.2.1 == d.2.1.2.2.2.2.1) && ((x6.2.1.2.2.2.2.2.1 == d.2.1.2.2.2.2.2.1) && ((x6.2.1.2.2.2.2.2.2.1 == d.2.1.2.2.2.2.2.2.1) && ((x6.2.1.2.2.2.2.2.2.2.1 == d.2.1.2.2.2.2.2.2.2.1) && true)))))))))
  bif x8 then (
  some ((), ((false, ()), ())))
  else (
  (g_mail_Parse ((), ((d.2.2.1.1, ()), ()))).bind fun x9 =>
  let x10 : Bool := (!x9.2.2.1.1.isNone)
  bif x10 then (
  let x11 : Bool := ((x9.2.1.1 == (0 : Int)) && ((x9.2.1.2.1 == (0 : Int)) && ((x9.2.1.2.2.1 == (0 : Int)) && ((x9.2.1.2.2.2.1 == (0 : Int)) && ((x9.2.1.2.2.2.2.1 == (0 : Int)) && ((x9.2.1.2.2.2.2.2.1 == (0 : Int)) && ((x9.2.1.2.2.2.2.2.2.1 == (0 : Int)) && ((x9.2.1.2.2.2.2.2.2.2.1 == (0 : Int)) && true))))))))
  some ((), ((x11, ()), ())))
  else (
  (g_mail_Put ((), ((x9.2.1.1, (x9.2.1.2.1, (x9.2.1.2.2.1, (x9.2.1.2.2.2.1, (x9.2.1.2.2.2.2.1, (x9.2.1.2.2.2.2.2.1, (x9.2.1.2.2.2.2.2.2.1, (x9.2.1.2.2.2.2.2.2.2.1, ())))))))), ()))).bind fun x12 =>
  (g_mail_Parse ((), ((x12.2.1.1, ()), ()))).bind fun x13 =>
  bif x12.2.2.1.1.isNone then (
  bif x13.2.2.1.1.isNone then (
  let x14 : Bool := ((x9.2.1.1 == x13.2.1.1) && ((x9.2.1.2.1 == x13.2.1.2.1) && ((x9.2.1.2.2.1 == x13.2.1.2.2.1) && ((x9.2.1.2.2.2.1 == x13.2.1.2.2.2.1) && ((x9.2.1.2.2.2.2.1 == x13.2.1.2.2.2.2.1) && ((x9.2.1.2.2.2.2.2.1 == x13.2.1.2.2.2.2.2.1) && ((x9.2.1.2.2.2.2.2.2.1 == x13.2.1.2.2.2.2.2.2.1) && ((x9.2.1.2.2.2.2.2.2.2.1 == x13.2.1.2.2.2.2.2.2.2.1) && true))))))))
  some ((), ((x14, ()), ())))
  else (
  some ((), ((false, ()), ()))))
  else (
  some ((), ((false, ()), ())))))))
  else (
  (g_mail_Parse ((), ((d.2.2.1.1, ()), ()))).bind fun x15 =>
  let x16 : Bool := (!x15.2.2.1.1.isNone)
  bif x16 then (
  let x17 : Bool := ((x15.2.1.1 == (0 : Int)) && ((x15.2.1.2.1 == (0 : Int)) && ((x15.2.1.2.2.1 == (0 : Int)) && ((x15.2.1.2.2.2.1 == (0 : Int)) && ((x15.2.1.2.2.2.2.1 == (0 : Int)) && ((x15.2.1.2.2.2.2.2.1 == (0 : Int)) && ((x15.2.1.2.2.2.2.2.2.1 == (0 : Int)) && ((x15.2.1.2.2.2.2.2.2.2.1 == (0 : Int)) && true))))))))
  some ((), ((x17, ()), ())))
  else (
  (g_mail_Put ((), ((x15.2.1.1, (x15.2.1.2.1, (x15.2.1.2.2.1, (x15.2.1.2.2.2.1, (x15.2.1.2.2.2.2.1, (x15.2.1.2.2.2.2.2.1, (x15.2.1.2.2.2.2.2.2.1, (x15.2.1.2.2.2.2.2.2.2.1, ())))))))), ()))).bind fun x18 =>
  (g_mail_Parse ((), ((x18.2.1.1, ()), ()))).bind fun x19 =>
  bif x18.2.2.1.1.isNone then (
  bif x19.2.2.1.1.isNone then (
  let x20 : Bool := ((x15.2.1.1 == x19.2.1.1) && ((x15.2.1.2.1 == x19.2.1.2.1) && ((x15.2.1.2.2.1 == x19.2.1.2.2.1) && ((x15.2.1.2.2.2.1 == x19.2.1.2.2.2.1) && ((x15.2.1.2.2.2.2.1 == x19.2.1.2.2.2.2.1) && ((x15.2.1.2.2.2.2.2.1 == x19.2.1.2.2.2.2.2.1) && ((x15.2.1.2.2.2.2.2.2.1 == x19.2.1.2.2.2.2.2.2.1) && ((x15.2.1.2.2.2.2.2.2.2.1 == x19.2.1.2.2.2.2.2.2.2.1) && true))))))))
  some ((), ((x20, ()), ())))
  else (
  some ((), ((false, ()), ()))))
  else (
  some ((), ((false, ()), ())))))))
def c_law25_MailBack : List Nat := []
def L_law25_MailBack (_ : Nat) : Pts po_law25_MailBack.den := []
def E_law25_MailBack : Env := (((E0.add 28 (typedSem pi_law25_alive po_law25_alive g_law25_alive)).add 29 (typedSem pi_mail_Put po_mail_Put g_mail_Put)).add 40 (typedSem pi_mail_Parse po_mail_Parse g_mail_Parse))
theorem q_law25_MailBack_m (k : Nat) (d : Unit × ((Int × (Int × (Int × (Int × (Int × (Int × (Int × (Int × Unit)))))))) × ((ByteArray × Unit) × Unit))) : evCode E_law25_MailBack (tab (L_law25_MailBack k)) c_law25_MailBack (bodyOf Try.f8) 0 (finK E_law25_MailBack po_law25_MailBack [.tmp 4]) (startSt pi_law25_MailBack 69 d) = f_law25_MailBack_m () d := by kernel_rfl
def g_law25_MailBack (d : Unit × ((Int × (Int × (Int × (Int × (Int × (Int × (Int × (Int × Unit)))))))) × ((ByteArray × Unit) × Unit))) : Option (Unit × ((Bool × Unit) × Unit)) := f_law25_MailBack_m () d
theorem ok_law25_MailBack : FnOk Try.prog ET0 8 pi_law25_MailBack po_law25_MailBack g_law25_MailBack :=
  fn_of_body (E := E_law25_MailBack) (envOk_add (envOk_add (envOk_add e0_ok (typed_ok ok_law25_alive)) (typed_ok ok_mail_Put)) (typed_ok ok_mail_Parse)) (fn := Try.f8) Try.func8 (by kernel_rfl) (by kernel_rfl) [.tmp 4] (by kernel_rfl) (by kernel_rfl) (by decide) rfl c_law25_MailBack L_law25_MailBack
    (by intro x hx; cases hx) (by intro k x hx; cases hx) (fun d out h => ⟨0, (q_law25_MailBack_m 0 d).trans h⟩)

/- horologe/horologelaw25.MailGaps -/
@[reducible] def pi_law25_MailGaps : PSh := ⟨[], [.mk false [.v .str], .mk false [.v .str], .mk false [.v .str]]⟩
@[reducible] def po_law25_MailGaps : PSh := ⟨[], [.mk false [.v .bool]]⟩
def f_law25_MailGaps_m (T : Unit) (d : Unit × ((ByteArray × Unit) × ((ByteArray × Unit) × ((ByteArray × Unit) × Unit)))) : Option (Unit × ((Bool × Unit) × Unit)) :=
  (g_law25_alive ((), ())).bind fun x1 =>
  let x2 : Bool := (!x1.2.1.1)
  bif x2 then (
  some ((), ((false, ()), ())))
  else (
  let x3 : Int := (d.2.2.1.1.size : Int)
  let x4 : Bool := (decide (x3 > (300 : Int)))
  bif x4 then (
  some ((), ((true, ()), ())))
  else (
  let x5 : Int := (d.2.1.1.size : Int)
  let x6 : Bool := (decide (x5 > (100 : Int)))
  bif x6 then (
  some ((), ((true, ()), ())))
  else (
  let x7 : Int := (d.2.2.2.1.1.size : Int)
  let x8 : Bool := (decide (x7 > (100 : Int)))
  bif x8 then (
  some ((), ((true, ()), ())))
  else (
  (g_mail_Gap ((), ((d.2.1.1, ()), (((0 : Int), ()), ())))).bind fun x9 =>
  let x10 : Int := (d.2.1.1.size : Int)
  let x11 : Bool := (x9.2.1.1 != x10)
  bif x11 then (
  some ((), ((true, ()), ())))
  else (
  (g_mail_Gap ((), ((d.2.2.2.1.1, ()), (((0 : Int), ()), ())))).bind fun x12 =>
  let x13 : Int := (d.2.2.2.1.1.size : Int)
  let x14 : Bool := (x12.2.1.1 != x13)
  bif x14 then (
  some ((), ((true, ()), ())))
  else (
  let x15 : Int := (d.2.2.1.1.size : Int)
  let x16 : Bool := (decide (x15 > (0 : Int)))
  bif x16 then (
  let x17 : Int := (d.2.2.1.1.size : Int)
  let x18 : Int := (isub .i64 x17 (1 : Int))
  bif decide ((0 : Int) ≤ x18) && decide (x18 < ((d.2.2.1.1.size : Int) : Int)) then (
  let x19 : Int := (bt d.2.2.1.1 x18)
  let x20 : Bool := (x19 == (92 : Int))
  bif x20 then (
  some ((), ((true, ()), ())))
  else (
  (g_mail_Parse ((), ((d.2.2.1.1, ()), ()))).bind fun x21 =>
  bif fitsS d.2.1.1 d.2.2.1.1 then (
  let x22 : ByteArray := (d.2.1.1 ++ d.2.2.1.1)
  bif fitsS x22 d.2.2.2.1.1 then (
  let x23 : ByteArray := (x22 ++ d.2.2.2.1.1)
  (g_mail_Parse ((), ((x23, ()), ()))).bind fun x24 =>
  let x25 : Bool := ((x21.2.1.1 == x24.2.1.1) && ((x21.2.1.2.1 == x24.2.1.2.1) && ((x21.2.1.2.2.1 == x24.2.1.2.2.1) && ((x21.2.1.2.2.2.1 == x24.2.1.2.2.2.1) && ((x21.2.1.2.2.2.2.1 == x24.2.1.2.2.2.2.1) && ((x21.2.1.2.2.2.2.2.1 == x24.2.1.2.2.2.2.2.1) && ((x21.2.1.2.2.2.2.2.2.1 == x24.2.1.2.2.2.2.2.2.1) && ((x21.2.1.2.2.2.2.2.2.2.1 == x24.2.1.2.2.2.2.2.2.2.1) && true))))))))
  bif x25 then (
  (g_hnum_Num ((), ((x21.2.2.1.1, ()), ()))).bind fun x26 =>
  (g_hnum_Num ((), ((x24.2.2.1.1, ()), ()))).bind fun x27 =>
  let x28 : Bool := (x26.2.1.1 == x27.2.1.1)
  some ((), ((x28, ()), ())))
  else (
  some ((), ((false, ()), ()))))
  else none)
  else none))
  else none)
  else (
  (g_mail_Parse ((), ((d.2.2.1.1, ()), ()))).bind fun x29 =>
  bif fitsS d.2.1.1 d.2.2.1.1 then (
  let x30 : ByteArray := (d.2.1.1 ++ d.2.2.1.1)
  bif fitsS x30 d.2.2.2.1.1 then (
  let x31 : ByteArray := (x30 ++ d.2.2.2.1.1)
  (g_mail_Parse ((), ((x31, ()), ()))).bind fun x32 =>
  let x33 : Bool := ((x29.2.1.1 == x32.2.1.1) && ((x29.2.1.2.1 == x32.2.1.2.1) && ((x29.2.1.2.2.1 == x32.2.1.2.2.1) && ((x29.2.1.2.2.2.1 == x32.2.1.2.2.2.1) && ((x29.2.1.2.2.2.2.1 == x32.2.1.2.2.2.2.1) && ((x29.2.1.2.2.2.2.2.1 == x32.2.1.2.2.2.2.2.1) && ((x29.2.1.2.2.2.2.2.2.1 == x32.2.1.2.2.2.2.2.2.1) && ((x29.2.1.2.2.2.2.2.2.2.1 == x32.2.1.2.2.2.2.2.2.2.1) && true))))))))
  bif x33 then (
  (g_hnum_Num ((), ((x29.2.2.1.1, ()), ()))).bind fun x34 =>
  (g_hnum_Num ((), ((x32.2.2.1.1, ()), ()))).bind fun x35 =>
  let x36 : Bool := (x34.2.1.1 == x35.2.1.1)
  some ((), ((x36, ()), ())))
  else (
  some ((), ((false, ()), ()))))
  else none)
  else none)))))))
def c_law25_MailGaps : List Nat := []
def L_law25_MailGaps (_ : Nat) : Pts po_law25_MailGaps.den := []
def E_law25_MailGaps : Env := ((((E0.add 15 (typedSem pi_hnum_Num po_hnum_Num g_hnum_Num)).add 28 (typedSem pi_law25_alive po_law25_alive g_law25_alive)).add 34 (typedSem pi_mail_Gap po_mail_Gap g_mail_Gap)).add 40 (typedSem pi_mail_Parse po_mail_Parse g_mail_Parse))
theorem q_law25_MailGaps_m (k : Nat) (d : Unit × ((ByteArray × Unit) × ((ByteArray × Unit) × ((ByteArray × Unit) × Unit)))) : evCode E_law25_MailGaps (tab (L_law25_MailGaps k)) c_law25_MailGaps (bodyOf Try.f9) 0 (finK E_law25_MailGaps po_law25_MailGaps [.tmp 6]) (startSt pi_law25_MailGaps 75 d) = f_law25_MailGaps_m () d := by kernel_rfl
def g_law25_MailGaps (d : Unit × ((ByteArray × Unit) × ((ByteArray × Unit) × ((ByteArray × Unit) × Unit)))) : Option (Unit × ((Bool × Unit) × Unit)) := f_law25_MailGaps_m () d
theorem ok_law25_MailGaps : FnOk Try.prog ET0 9 pi_law25_MailGaps po_law25_MailGaps g_law25_MailGaps :=
  fn_of_body (E := E_law25_MailGaps) (envOk_add (envOk_add (envOk_add (envOk_add e0_ok (typed_ok ok_hnum_Num)) (typed_ok ok_law25_alive)) (typed_ok ok_mail_Gap)) (typed_ok ok_mail_Parse)) (fn := Try.f9) Try.func9 (by kernel_rfl) (by kernel_rfl) [.tmp 6] (by kernel_rfl) (by kernel_rfl) (by decide) rfl c_law25_MailGaps L_law25_MailGaps
    (by intro x hx; cases hx) (by intro k x hx; cases hx) (fun d out h => ⟨0, (q_law25_MailGaps_m 0 d).trans h⟩)
end
end Go.Proofs.Yticfncahnhbhbaa.Ev
