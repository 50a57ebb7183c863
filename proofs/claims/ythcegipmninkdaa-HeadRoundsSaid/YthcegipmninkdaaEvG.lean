/- Printed by wip/tools/evgen.py. -/
import Derived.Test.YthcegipmninkdaaEvE
import Derived.Test.YthcegipmninkdaaProg
import Derived.KernelRfl
set_option maxRecDepth 100000
set_option maxHeartbeats 2000000
set_option linter.unusedVariables false
namespace Go.Proofs.Ythcegipmninkdaa.Ev
open Go
noncomputable section
def rows0 : List (TypeId × Row) := [
  (2, ⟨.int .i64, 1, 8, (.int .i64), [AV.val (.int .i64) (0 : Int)], none⟩),
  (3, ⟨.int .i64, 1, 8, (.int .i64), [AV.val (.int .i64) (0 : Int)], none⟩),
  (4, ⟨.bool, 1, 1, .bool, [AV.val .bool false], none⟩),
  (5, ⟨.int .u8, 1, 1, (.int .u8), [AV.val (.int .u8) (0 : Int)], none⟩),
  (9, ⟨.str, 1, 16, .str, [AV.val .str ByteArray.empty], none⟩),
  (21, ⟨.int .i32, 1, 4, (.int .i32), [AV.val (.int .i32) (0 : Int)], none⟩),
  (22, ⟨.int .i8, 1, 1, (.int .i8), [AV.val (.int .i8) (0 : Int)], none⟩),
  (23, ⟨.int .u16, 1, 2, (.int .u16), [AV.val (.int .u16) (0 : Int)], none⟩),
  (25, ⟨.struct [(0, 1, false), (1, 1, false)], 2, 4, (.pair (.int .u16) (.int .u16)), [AV.val (.int .u16) (0 : Int), AV.val (.int .u16) (0 : Int)], some [.int .u16, .int .u16]⟩),
  (26, ⟨.arr 4 5, 4, 4, (.pair (.int .u8) (.pair (.int .u8) (.pair (.int .u8) (.int .u8)))), [AV.val (.int .u8) (0 : Int), AV.val (.int .u8) (0 : Int), AV.val (.int .u8) (0 : Int), AV.val (.int .u8) (0 : Int)], some [.int .u8, .int .u8, .int .u8, .int .u8]⟩),
  (27, ⟨.int .u32, 1, 4, (.int .u32), [AV.val (.int .u32) (0 : Int)], none⟩),
  (29, ⟨.struct [(0, 1, false), (1, 1, false)], 2, 8, (.pair (.int .u32) (.int .u32)), [AV.val (.int .u32) (0 : Int), AV.val (.int .u32) (0 : Int)], some [.int .u32, .int .u32]⟩),
  (31, ⟨.struct [(0, 1, false), (1, 1, false), (2, 1, false), (3, 1, false), (4, 1, false), (5, 1, false), (6, 2, true), (8, 2, true), (10, 4, true), (14, 2, true), (16, 2, true), (18, 2, true), (20, 2, true)], 22, 72, (.pair (.int .i64) (.pair (.int .i64) (.pair (.int .i64) (.pair (.int .u8) (.pair (.int .i8) (.pair (.int .i8) (.pair (.pair (.int .u16) (.int .u16)) (.pair (.pair (.int .u16) (.int .u16)) (.pair (.pair (.int .u8) (.pair (.int .u8) (.pair (.int .u8) (.int .u8)))) (.pair (.pair (.int .u32) (.int .u32)) (.pair (.pair (.int .u32) (.int .u32)) (.pair (.pair (.int .u32) (.int .u32)) (.pair (.int .u32) (.int .u32)))))))))))))), [AV.val (.int .i64) (0 : Int), AV.val (.int .i64) (0 : Int), AV.val (.int .i64) (0 : Int), AV.val (.int .u8) (0 : Int), AV.val (.int .i8) (0 : Int), AV.val (.int .i8) (0 : Int), AV.val (.int .u16) (0 : Int), AV.val (.int .u16) (0 : Int), AV.val (.int .u16) (0 : Int), AV.val (.int .u16) (0 : Int), AV.val (.int .u8) (0 : Int), AV.val (.int .u8) (0 : Int), AV.val (.int .u8) (0 : Int), AV.val (.int .u8) (0 : Int), AV.val (.int .u32) (0 : Int), AV.val (.int .u32) (0 : Int), AV.val (.int .u32) (0 : Int), AV.val (.int .u32) (0 : Int), AV.val (.int .u32) (0 : Int), AV.val (.int .u32) (0 : Int), AV.val (.int .u32) (0 : Int), AV.val (.int .u32) (0 : Int)], some [.int .i64, .int .i64, .int .i64, .int .u8, .int .i8, .int .i8, .int .u16, .int .u16, .int .u16, .int .u16, .int .u8, .int .u8, .int .u8, .int .u8, .int .u32, .int .u32, .int .u32, .int .u32, .int .u32, .int .u32, .int .u32, .int .u32]⟩),
  (33, ⟨.slice 5, 1, 24, (.sl (.int .u8)), [AV.nilS], none⟩),
  (35, ⟨.iface, 1, 16, .err, [AV.val .err (none : Option Int)], none⟩),
  (39, ⟨.int .u64, 1, 8, (.int .u64), [AV.val (.int .u64) (0 : Int)], none⟩),
  (41, ⟨.struct [(0, 1, false), (1, 1, false), (2, 1, false), (3, 1, false), (4, 1, false), (5, 1, false), (6, 1, false), (7, 1, false), (8, 4, true), (12, 1, false), (13, 1, false), (14, 1, false), (15, 1, false)], 16, 104, (.pair (.int .i64) (.pair (.int .i64) (.pair (.int .i64) (.pair (.int .i64) (.pair (.int .i64) (.pair (.int .i64) (.pair (.int .u64) (.pair (.int .u64) (.pair (.pair (.int .u8) (.pair (.int .u8) (.pair (.int .u8) (.int .u8)))) (.pair (.int .u64) (.pair (.int .u64) (.pair (.int .u64) (.int .u64))))))))))))), [AV.val (.int .i64) (0 : Int), AV.val (.int .i64) (0 : Int), AV.val (.int .i64) (0 : Int), AV.val (.int .i64) (0 : Int), AV.val (.int .i64) (0 : Int), AV.val (.int .i64) (0 : Int), AV.val (.int .u64) (0 : Int), AV.val (.int .u64) (0 : Int), AV.val (.int .u8) (0 : Int), AV.val (.int .u8) (0 : Int), AV.val (.int .u8) (0 : Int), AV.val (.int .u8) (0 : Int), AV.val (.int .u64) (0 : Int), AV.val (.int .u64) (0 : Int), AV.val (.int .u64) (0 : Int), AV.val (.int .u64) (0 : Int)], some [.int .i64, .int .i64, .int .i64, .int .i64, .int .i64, .int .i64, .int .u64, .int .u64, .int .u8, .int .u8, .int .u8, .int .u8, .int .u64, .int .u64, .int .u64, .int .u64]⟩),
  (48, ⟨.slice 27, 1, 24, (.sl (.int .u32)), [AV.nilS], none⟩),
  (82, ⟨.int .i64, 1, 8, (.int .i64), [AV.val (.int .i64) (0 : Int)], none⟩),
  (84, ⟨.arr 2 21, 2, 8, (.pair (.int .i32) (.int .i32)), [AV.val (.int .i32) (0 : Int), AV.val (.int .i32) (0 : Int)], some [.int .i32, .int .i32]⟩),
  (105, ⟨.ptr, 1, 8, (.nptr (.pair (.int .u32) (.int .u32))), [AV.nilP], none⟩),
  (106, ⟨.arr 4 105, 4, 32, (.pair (.nptr (.pair (.int .u32) (.int .u32))) (.pair (.nptr (.pair (.int .u32) (.int .u32))) (.pair (.nptr (.pair (.int .u32) (.int .u32))) (.nptr (.pair (.int .u32) (.int .u32)))))), [AV.nilP, AV.nilP, AV.nilP, AV.nilP], none⟩),
  (111, ⟨.slice 39, 1, 24, (.sl (.int .u64)), [AV.nilS], none⟩),
  (114, ⟨.slice 23, 1, 24, (.sl (.int .u16)), [AV.nilS], none⟩)]
def ET0 : TypeId := 82
def E0 : Env := ⟨rows0, [], ET0, 0, [], [], []⟩
theorem e0_ok : EnvOk Try.prog E0 := envOk_rows (by kernel_rfl) (by kernel_rfl) 0

/- horologe/head.in -/
@[reducible] def pi_head_in : PSh := ⟨[], [.mk false [.v (.int .i64)], .mk false [.v (.int .i64)]]⟩
@[reducible] def po_head_in : PSh := ⟨[], [.mk false [.v .bool]]⟩
def f_head_in_m (T : Unit) (d : Unit × ((Int × Unit) × ((Int × Unit) × Unit))) : Option (Unit × ((Bool × Unit) × Unit)) :=
  let x1 : Bool := (decide (d.2.1.1 ≥ (0 : Int)))
  bif x1 then (
  let x2 : Bool := (decide (d.2.1.1 ≤ d.2.2.1.1))
  some ((), ((x2, ()), ())))
  else (
  some ((), ((false, ()), ())))
def c_head_in : List Nat := []
def L_head_in (_ : Nat) : Pts po_head_in.den := []
def R_head_in (_ : Nat) : PtsR po_head_in.den := []
def E_head_in : Env := E0
theorem q_head_in_m (k : Nat) (d : Unit × ((Int × Unit) × ((Int × Unit) × Unit))) : evCode E_head_in (tb (L_head_in k) (R_head_in k)) c_head_in (bodyOf Try.f58) 0 (finK E_head_in po_head_in [.tmp 4]) (startSt pi_head_in 12 d) = f_head_in_m () d := by kernel_rfl
def g_head_in (d : Unit × ((Int × Unit) × ((Int × Unit) × Unit))) : Option (Unit × ((Bool × Unit) × Unit)) := f_head_in_m () d
theorem ok_head_in : FnOk Try.prog ET0 58 pi_head_in po_head_in g_head_in :=
  fn_of_body (E := E_head_in) e0_ok (fn := Try.f58) Try.func58 (by kernel_rfl) (by kernel_rfl) [.tmp 4] (by kernel_rfl) (by kernel_rfl) (by decide) rfl c_head_in L_head_in R_head_in
    (by intro x hx; cases hx) (by intro k x hx; cases hx) (by intro x hx; cases hx) (by intro k x hx; cases hx) (fun d out h => ⟨0, (q_head_in_m 0 d).trans h⟩)

/- horologe/head.Check -/
@[reducible] def pi_head_Check : PSh := ⟨[], [.mk true [.v (.int .i64), .v (.int .i64), .v (.int .i64), .v (.int .u8), .v (.int .i8), .v (.int .i8), .v (.int .u16), .v (.int .u16), .v (.int .u16), .v (.int .u16), .v (.int .u8), .v (.int .u8), .v (.int .u8), .v (.int .u8), .v (.int .u32), .v (.int .u32), .v (.int .u32), .v (.int .u32), .v (.int .u32), .v (.int .u32), .v (.int .u32), .v (.int .u32)]]⟩
@[reducible] def po_head_Check : PSh := ⟨[], [.mk false [.v .err]]⟩
def f_head_Check_m (T : Unit) (d : Unit × ((Int × (Int × (Int × (Int × (Int × (Int × (Int × (Int × (Int × (Int × (Int × (Int × (Int × (Int × (Int × (Int × (Int × (Int × (Int × (Int × (Int × (Int × Unit)))))))))))))))))))))) × Unit)) : Option (Unit × (((Option Int) × Unit) × Unit)) :=
  (g_head_in ((), ((d.2.1.1, ()), (((3 : Int), ()), ())))).bind fun x1 =>
  let x2 : Bool := (!x1.2.1.1)
  bif x2 then (
  let x3 : (Option Int) := (some (1 : Int))
  some ((), ((x3, ()), ())))
  else (
  (g_head_in ((), ((d.2.1.2.1, ()), (((7 : Int), ()), ())))).bind fun x4 =>
  let x5 : Bool := (!x4.2.1.1)
  bif x5 then (
  let x6 : (Option Int) := (some (1 : Int))
  some ((), ((x6, ()), ())))
  else (
  (g_head_in ((), ((d.2.1.2.2.1, ()), (((7 : Int), ()), ())))).bind fun x7 =>
  let x8 : Bool := (!x7.2.1.1)
  bif x8 then (
  let x9 : (Option Int) := (some (1 : Int))
  some ((), ((x9, ()), ())))
  else (
  some ((), (((none : Option Int), ()), ())))))
def c_head_Check : List Nat := []
def L_head_Check (_ : Nat) : Pts po_head_Check.den := []
def R_head_Check (_ : Nat) : PtsR po_head_Check.den := []
def E_head_Check : Env := (E0.add 58 (typedSem pi_head_in po_head_in g_head_in))
theorem q_head_Check_m (k : Nat) (d : Unit × ((Int × (Int × (Int × (Int × (Int × (Int × (Int × (Int × (Int × (Int × (Int × (Int × (Int × (Int × (Int × (Int × (Int × (Int × (Int × (Int × (Int × (Int × Unit)))))))))))))))))))))) × Unit)) : evCode E_head_Check (tb (L_head_Check k) (R_head_Check k)) c_head_Check (bodyOf Try.f16) 0 (finK E_head_Check po_head_Check [.tmp 2]) (startSt pi_head_Check 20 d) = f_head_Check_m () d := by kernel_rfl
def g_head_Check (d : Unit × ((Int × (Int × (Int × (Int × (Int × (Int × (Int × (Int × (Int × (Int × (Int × (Int × (Int × (Int × (Int × (Int × (Int × (Int × (Int × (Int × (Int × (Int × Unit)))))))))))))))))))))) × Unit)) : Option (Unit × (((Option Int) × Unit) × Unit)) := f_head_Check_m () d
theorem ok_head_Check : FnOk Try.prog ET0 16 pi_head_Check po_head_Check g_head_Check :=
  fn_of_body (E := E_head_Check) (envOk_add e0_ok (typed_ok ok_head_in)) (fn := Try.f16) Try.func16 (by kernel_rfl) (by kernel_rfl) [.tmp 2] (by kernel_rfl) (by kernel_rfl) (by decide) rfl c_head_Check L_head_Check R_head_Check
    (by intro x hx; cases hx) (by intro k x hx; cases hx) (by intro x hx; cases hx) (by intro k x hx; cases hx) (fun d out h => ⟨0, (q_head_Check_m 0 d).trans h⟩)

/- horologe/octets.Size[uint32] -/
@[reducible] def pi_octets_Size_u32 : PSh := ⟨[], []⟩
@[reducible] def po_octets_Size_u32 : PSh := ⟨[], [.mk false [.v (.int .i64)]]⟩
@[reducible] def TT_octets_Size_u32 : Type := (((Unit × ((Int × Unit) × ((Int × Unit) × Unit))) → Option (Unit × ((Int × Unit) × Unit))) × Unit)
@[reducible] def sh_octets_Size_u32_4 : PSh := ⟨[], [.any, .mk false [.v (.int .i64)], .mk false [.v (.int .u32)], .any, .any, .any, .any, .any, .any, .any, .any, .any, .any, .any]⟩
def f_octets_Size_u32_p4 (T : TT_octets_Size_u32) (d : Unit × ((Int × Unit) × ((Int × Unit) × Unit))) : Option (Unit × ((Int × Unit) × Unit)) :=
  let x3 : Bool := (decide (d.2.2.1.1 > (0 : Int)))
  bif x3 then (
  let x4 : Int := (iadd .i64 d.2.1.1 (1 : Int))
  let x5 : Int := (iconv .u64 d.2.2.1.1)
  let x6 : Int := (ishr .u64 x5 (8 : Int))
  let x7 : Int := (iconv .u32 x6)
  (T.1 ((), ((x4, ()), ((x7, ()), ())))))
  else (
  some ((), ((d.2.1.1, ()), ())))
def f_octets_Size_u32_t : Nat → TT_octets_Size_u32
  | 0 => (fun _ => none, ())
  | k + 1 => (f_octets_Size_u32_p4 (f_octets_Size_u32_t k), ())
theorem t_octets_Size_u32 (k : Nat) : f_octets_Size_u32_t (k + 1) = (f_octets_Size_u32_p4 (f_octets_Size_u32_t k), ()) := rfl
def f_octets_Size_u32_m (T : TT_octets_Size_u32) (d : Unit × Unit) : Option (Unit × ((Int × Unit) × Unit)) :=
  let x1 : Int := (iconv .u32 (0 : Int))
  let x2 : Int := (inot .u32 x1)
  (T.1 ((), (((0 : Int), ()), ((x2, ()), ()))))
def c_octets_Size_u32 : List Nat := []
def L_octets_Size_u32 (k : Nat) : Pts po_octets_Size_u32.den := [(4, ⟨sh_octets_Size_u32_4, (f_octets_Size_u32_t k).1⟩)]
def R_octets_Size_u32 (_ : Nat) : PtsR po_octets_Size_u32.den := []
def E_octets_Size_u32 : Env := E0
theorem q_octets_Size_u32_4 (k : Nat) (d : Unit × ((Int × Unit) × ((Int × Unit) × Unit))) : evAt E_octets_Size_u32 (tb (L_octets_Size_u32 k) (R_octets_Size_u32 k)) c_octets_Size_u32 4 (bodyOf Try.f60) 0 (finK E_octets_Size_u32 po_octets_Size_u32 [.tmp 0]) (ptSt sh_octets_Size_u32_4 d) = f_octets_Size_u32_p4 (f_octets_Size_u32_t k) d := by kernel_rfl
theorem q_octets_Size_u32_m (k : Nat) (d : Unit × Unit) : evCode E_octets_Size_u32 (tb (L_octets_Size_u32 k) (R_octets_Size_u32 k)) c_octets_Size_u32 (bodyOf Try.f60) 0 (finK E_octets_Size_u32 po_octets_Size_u32 [.tmp 0]) (startSt pi_octets_Size_u32 14 d) = f_octets_Size_u32_m (f_octets_Size_u32_t k) d := by kernel_rfl
theorem go_octets_Size_u32 (F : Unit × Unit → Option (Unit × ((Int × Unit) × Unit))) (hF : ∀ d out, F d = some out → ∃ k, f_octets_Size_u32_m (f_octets_Size_u32_t k) d = some out) : FnOk Try.prog ET0 60 pi_octets_Size_u32 po_octets_Size_u32 F :=
  fn_of_body (E := E_octets_Size_u32) e0_ok (fn := Try.f60) Try.func60 (by kernel_rfl) (by kernel_rfl) [.tmp 0] (by kernel_rfl) (by kernel_rfl) (by decide) rfl c_octets_Size_u32 L_octets_Size_u32 R_octets_Size_u32
    (by intro x hx d; simp only [L_octets_Size_u32, List.mem_cons, List.not_mem_nil, or_false] at hx; subst hx; rfl)
    (by intro k x hx d out h; simp only [L_octets_Size_u32, List.mem_cons, List.not_mem_nil, or_false] at hx; subst hx; exact (q_octets_Size_u32_4 k d).trans h)
    (by intro x hx; cases hx)
    (by intro k x hx; cases hx)
    (by intro d out h; obtain ⟨k, hk⟩ := hF d out h; exact ⟨k, (q_octets_Size_u32_m k d).trans hk⟩)
def g_octets_Size_u32 (d : Unit × Unit) : Option (Unit × ((Int × Unit) × Unit)) := lim fun k => f_octets_Size_u32_m (f_octets_Size_u32_t k) d
theorem ok_octets_Size_u32 : FnOk Try.prog ET0 60 pi_octets_Size_u32 po_octets_Size_u32 g_octets_Size_u32 := go_octets_Size_u32 g_octets_Size_u32 fun d out h => lim_some h

/- slices.Clone[[]byte,byte] -/
@[reducible] def pi_slices_Clone_byte_byte : PSh := ⟨[], [.mk false [.v (.sl (.int .u8))]]⟩
@[reducible] def po_slices_Clone_byte_byte : PSh := ⟨[.row 5 (.int .u8)], [.mk false [.osl 0]]⟩
def f_slices_Clone_byte_byte_m (T : Unit) (d : Unit × (((List Int) × Unit) × Unit)) : Option (((List Int) × Unit) × (Unit × Unit)) :=
  bif d.2.1.1.isEmpty then (
  agree (
  some ((([] : List Int), ()), ((), ()))) (
  let x1 : (List Int) := ([] : List Int)
  bif decide (((x1.length + d.2.1.1.length) * 1 : Nat) ≤ 140737488355328) && decide (x1.length + d.2.1.1.length ≤ 9223372036854775807) then (
  let x2 : (List Int) := (x1 ++ d.2.1.1)
  some ((x2, ()), ((), ())))
  else none))
  else (
  let x3 : (List Int) := ([] : List Int)
  bif decide (((x3.length + d.2.1.1.length) * 1 : Nat) ≤ 140737488355328) && decide (x3.length + d.2.1.1.length ≤ 9223372036854775807) then (
  let x4 : (List Int) := (x3 ++ d.2.1.1)
  some ((x4, ()), ((), ())))
  else none)
def c_slices_Clone_byte_byte : List Nat := []
def L_slices_Clone_byte_byte (_ : Nat) : Pts po_slices_Clone_byte_byte.den := []
def R_slices_Clone_byte_byte (_ : Nat) : PtsR po_slices_Clone_byte_byte.den := []
def E_slices_Clone_byte_byte : Env := E0
theorem q_slices_Clone_byte_byte_m (k : Nat) (d : Unit × (((List Int) × Unit) × Unit)) : evCode E_slices_Clone_byte_byte (tb (L_slices_Clone_byte_byte k) (R_slices_Clone_byte_byte k)) c_slices_Clone_byte_byte (bodyOf Try.f61) 0 (finK E_slices_Clone_byte_byte po_slices_Clone_byte_byte [.tmp 2]) (startSt pi_slices_Clone_byte_byte 8 d) = f_slices_Clone_byte_byte_m () d := by kernel_rfl
def g_slices_Clone_byte_byte (d : Unit × (((List Int) × Unit) × Unit)) : Option (((List Int) × Unit) × (Unit × Unit)) := f_slices_Clone_byte_byte_m () d
theorem ok_slices_Clone_byte_byte : FnOk Try.prog ET0 61 pi_slices_Clone_byte_byte po_slices_Clone_byte_byte g_slices_Clone_byte_byte :=
  fn_of_body (E := E_slices_Clone_byte_byte) e0_ok (fn := Try.f61) Try.func61 (by kernel_rfl) (by kernel_rfl) [.tmp 2] (by kernel_rfl) (by kernel_rfl) (by decide) rfl c_slices_Clone_byte_byte L_slices_Clone_byte_byte R_slices_Clone_byte_byte
    (by intro x hx; cases hx) (by intro k x hx; cases hx) (by intro x hx; cases hx) (by intro k x hx; cases hx) (fun d out h => ⟨0, (q_slices_Clone_byte_byte_m 0 d).trans h⟩)

/- horologe/octets.Put[uint32] -/
@[reducible] def pi_octets_Put_u32 : PSh := ⟨[], [.mk false [.v (.sl (.int .u8))], .mk false [.v (.sl (.int .u32))]]⟩
@[reducible] def po_octets_Put_u32 : PSh := ⟨[.row 5 (.int .u8)], [.mk false [.osl 0]]⟩
@[reducible] def TT_octets_Put_u32 : Type := (((((List Int) × Unit) × ((Int × Unit) × (Unit × (((List Int) × Unit) × ((Int × Unit) × ((Int × Unit) × Unit)))))) → Option (((List Int) × Unit) × (Unit × Unit))) × (((((List Int) × Unit) × ((Int × Unit) × (Unit × ((Int × Unit) × ((Int × Unit) × (((List Int) × Unit) × ((Int × Unit) × ((Int × Unit) × Unit)))))))) → Option (((List Int) × Unit) × (Unit × Unit))) × Unit))
@[reducible] def sh_octets_Put_u32_5 : PSh := ⟨[.row 5 (.int .u8)], [.any, .any, .any, .any, .any, .mk false [.v (.int .i64)], .mk false [.osl 0], .any, .any, .any, .any, .any, .any, .mk false [.v (.sl (.int .u32))], .mk false [.v (.int .i64)], .mk false [.v (.int .i64)], .any, .any, .any, .any, .any, .any, .any, .any, .any, .any, .any, .any, .any, .any, .any, .any, .any, .any, .any, .any]⟩
@[reducible] def sh_octets_Put_u32_11 : PSh := ⟨[.row 5 (.int .u8)], [.any, .any, .any, .any, .any, .mk false [.v (.int .i64)], .mk false [.osl 0], .any, .mk false [.v (.int .u32)], .mk false [.v (.int .i64)], .any, .any, .any, .mk false [.v (.sl (.int .u32))], .mk false [.v (.int .i64)], .mk false [.v (.int .i64)], .any, .any, .any, .any, .any, .any, .any, .any, .any, .any, .any, .any, .any, .any, .any, .any, .any, .any, .any, .any]⟩
def f_octets_Put_u32_p5 (T : TT_octets_Put_u32) (d : ((List Int) × Unit) × ((Int × Unit) × (Unit × (((List Int) × Unit) × ((Int × Unit) × ((Int × Unit) × Unit)))))) : Option (((List Int) × Unit) × (Unit × Unit)) :=
  let x4 : Bool := (decide (d.2.2.2.2.2.1.1 < d.2.2.2.2.1.1))
  bif x4 then (
  bif decide ((0 : Int) ≤ d.2.2.2.2.2.1.1) && decide (d.2.2.2.2.2.1.1 < (d.2.2.2.1.1.length : Int)) then (
  let x5 : Int := (isub .i64 d.2.1.1 (1 : Int))
  (T.2.1 ((d.1.1, ()), ((d.2.1.1, ()), ((), (((gd (.int .u32) d.2.2.2.1.1 d.2.2.2.2.2.1.1), ()), ((x5, ()), ((d.2.2.2.1.1, ()), ((d.2.2.2.2.1.1, ()), ((d.2.2.2.2.2.1.1, ()), ()))))))))))
  else none)
  else (
  some ((d.1.1, ()), ((), ())))
def f_octets_Put_u32_p11 (T : TT_octets_Put_u32) (d : ((List Int) × Unit) × ((Int × Unit) × (Unit × ((Int × Unit) × ((Int × Unit) × (((List Int) × Unit) × ((Int × Unit) × ((Int × Unit) × Unit)))))))) : Option (((List Int) × Unit) × (Unit × Unit)) :=
  let x6 : Bool := (decide (d.2.2.2.2.1.1 ≥ (0 : Int)))
  bif x6 then (
  let x7 : Int := (iconv .u64 d.2.2.2.1.1)
  let x8 : Int := (imul .i64 (8 : Int) d.2.2.2.2.1.1)
  bif decide (x8 < 0) then (
  none)
  else (
  let x9 : Int := (ishr .u64 x7 x8)
  let x10 : Int := (iconv .u8 x9)
  let x11 : (List Int) := ([x10] : List Int)
  bif decide (((d.1.1.length + x11.length) * 1 : Nat) ≤ 140737488355328) && decide (d.1.1.length + x11.length ≤ 9223372036854775807) then (
  let x12 : (List Int) := (d.1.1 ++ x11)
  let x13 : Int := (isub .i64 d.2.2.2.2.1.1 (1 : Int))
  (T.2.1 ((x12, ()), ((d.2.1.1, ()), ((), ((d.2.2.2.1.1, ()), ((x13, ()), ((d.2.2.2.2.2.1.1, ()), ((d.2.2.2.2.2.2.1.1, ()), ((d.2.2.2.2.2.2.2.1.1, ()), ()))))))))))
  else none))
  else (
  let x14 : Int := (iadd .i64 d.2.2.2.2.2.2.2.1.1 (1 : Int))
  (T.1 ((d.1.1, ()), ((d.2.1.1, ()), ((), ((d.2.2.2.2.2.1.1, ()), ((d.2.2.2.2.2.2.1.1, ()), ((x14, ()), ()))))))))
def f_octets_Put_u32_t : Nat → TT_octets_Put_u32
  | 0 => (fun _ => none, (fun _ => none, ()))
  | k + 1 => (f_octets_Put_u32_p5 (f_octets_Put_u32_t k), (f_octets_Put_u32_p11 (f_octets_Put_u32_t k), ()))
theorem t_octets_Put_u32 (k : Nat) : f_octets_Put_u32_t (k + 1) = (f_octets_Put_u32_p5 (f_octets_Put_u32_t k), (f_octets_Put_u32_p11 (f_octets_Put_u32_t k), ())) := rfl
def f_octets_Put_u32_m (T : TT_octets_Put_u32) (d : Unit × (((List Int) × Unit) × (((List Int) × Unit) × Unit))) : Option (((List Int) × Unit) × (Unit × Unit)) :=
  (g_octets_Size_u32 ((), ())).bind fun x1 =>
  (g_slices_Clone_byte_byte ((), ((d.2.1.1, ()), ()))).bind fun x2 =>
  let x3 : Int := (d.2.2.1.1.length : Int)
  (T.1 ((x2.1.1, ()), ((x1.2.1.1, ()), ((), ((d.2.2.1.1, ()), ((x3, ()), (((0 : Int), ()), ())))))))
def c_octets_Put_u32 : List Nat := []
def L_octets_Put_u32 (k : Nat) : Pts po_octets_Put_u32.den := [(5, ⟨sh_octets_Put_u32_5, (f_octets_Put_u32_t k).1⟩), (11, ⟨sh_octets_Put_u32_11, (f_octets_Put_u32_t k).2.1⟩)]
def R_octets_Put_u32 (_ : Nat) : PtsR po_octets_Put_u32.den := []
def E_octets_Put_u32 : Env := ((E0.add 60 (typedSem pi_octets_Size_u32 po_octets_Size_u32 g_octets_Size_u32)).add 61 (typedSem pi_slices_Clone_byte_byte po_slices_Clone_byte_byte g_slices_Clone_byte_byte))
theorem q_octets_Put_u32_5 (k : Nat) (d : ((List Int) × Unit) × ((Int × Unit) × (Unit × (((List Int) × Unit) × ((Int × Unit) × ((Int × Unit) × Unit)))))) : evAt E_octets_Put_u32 (tb (L_octets_Put_u32 k) (R_octets_Put_u32 k)) c_octets_Put_u32 5 (bodyOf Try.f20) 0 (finK E_octets_Put_u32 po_octets_Put_u32 [.tmp 4]) (ptSt sh_octets_Put_u32_5 d) = f_octets_Put_u32_p5 (f_octets_Put_u32_t k) d := by kernel_rfl
theorem q_octets_Put_u32_11 (k : Nat) (d : ((List Int) × Unit) × ((Int × Unit) × (Unit × ((Int × Unit) × ((Int × Unit) × (((List Int) × Unit) × ((Int × Unit) × ((Int × Unit) × Unit)))))))) : evAt E_octets_Put_u32 (tb (L_octets_Put_u32 k) (R_octets_Put_u32 k)) c_octets_Put_u32 11 (bodyOf Try.f20) 0 (finK E_octets_Put_u32 po_octets_Put_u32 [.tmp 4]) (ptSt sh_octets_Put_u32_11 d) = f_octets_Put_u32_p11 (f_octets_Put_u32_t k) d := by kernel_rfl
theorem q_octets_Put_u32_m (k : Nat) (d : Unit × (((List Int) × Unit) × (((List Int) × Unit) × Unit))) : evCode E_octets_Put_u32 (tb (L_octets_Put_u32 k) (R_octets_Put_u32 k)) c_octets_Put_u32 (bodyOf Try.f20) 0 (finK E_octets_Put_u32 po_octets_Put_u32 [.tmp 4]) (startSt pi_octets_Put_u32 36 d) = f_octets_Put_u32_m (f_octets_Put_u32_t k) d := by kernel_rfl
theorem go_octets_Put_u32 (F : Unit × (((List Int) × Unit) × (((List Int) × Unit) × Unit)) → Option (((List Int) × Unit) × (Unit × Unit))) (hF : ∀ d out, F d = some out → ∃ k, f_octets_Put_u32_m (f_octets_Put_u32_t k) d = some out) : FnOk Try.prog ET0 20 pi_octets_Put_u32 po_octets_Put_u32 F :=
  fn_of_body (E := E_octets_Put_u32) (envOk_add (envOk_add e0_ok (typed_ok ok_octets_Size_u32)) (typed_ok ok_slices_Clone_byte_byte)) (fn := Try.f20) Try.func20 (by kernel_rfl) (by kernel_rfl) [.tmp 4] (by kernel_rfl) (by kernel_rfl) (by decide) rfl c_octets_Put_u32 L_octets_Put_u32 R_octets_Put_u32
    (by intro x hx d; simp only [L_octets_Put_u32, List.mem_cons, List.not_mem_nil, or_false] at hx; rcases hx with rfl | rfl; rfl; rfl)
    (by intro k x hx d out h; simp only [L_octets_Put_u32, List.mem_cons, List.not_mem_nil, or_false] at hx; rcases hx with rfl | rfl; exact (q_octets_Put_u32_5 k d).trans h; exact (q_octets_Put_u32_11 k d).trans h)
    (by intro x hx; cases hx)
    (by intro k x hx; cases hx)
    (by intro d out h; obtain ⟨k, hk⟩ := hF d out h; exact ⟨k, (q_octets_Put_u32_m k d).trans hk⟩)
def g_octets_Put_u32 (d : Unit × (((List Int) × Unit) × (((List Int) × Unit) × Unit))) : Option (((List Int) × Unit) × (Unit × Unit)) := lim fun k => f_octets_Put_u32_m (f_octets_Put_u32_t k) d
theorem ok_octets_Put_u32 : FnOk Try.prog ET0 20 pi_octets_Put_u32 po_octets_Put_u32 g_octets_Put_u32 := go_octets_Put_u32 g_octets_Put_u32 fun d out h => lim_some h

/- horologe/stamp.Bytes -/
@[reducible] def pi_stamp_Bytes : PSh := ⟨[], [.mk true [.v (.int .u32), .v (.int .u32)]]⟩
@[reducible] def po_stamp_Bytes : PSh := ⟨[.row 5 (.int .u8)], [.mk false [.osl 0]]⟩
def f_stamp_Bytes_m (T : Unit) (d : Unit × ((Int × (Int × Unit)) × Unit)) : Option (((List Int) × Unit) × (Unit × Unit)) :=
  let x1 : (List Int) := ([d.2.1.1, d.2.1.2.1] : List Int)
  (g_octets_Put_u32 ((), ((([] : List Int), ()), ((x1, ()), ())))).bind fun x2 =>
  some ((x2.1.1, ()), ((), ()))
def c_stamp_Bytes : List Nat := []
def L_stamp_Bytes (_ : Nat) : Pts po_stamp_Bytes.den := []
def R_stamp_Bytes (_ : Nat) : PtsR po_stamp_Bytes.den := []
def E_stamp_Bytes : Env := (E0.add 20 (typedSem pi_octets_Put_u32 po_octets_Put_u32 g_octets_Put_u32))
theorem q_stamp_Bytes_m (k : Nat) (d : Unit × ((Int × (Int × Unit)) × Unit)) : evCode E_stamp_Bytes (tb (L_stamp_Bytes k) (R_stamp_Bytes k)) c_stamp_Bytes (bodyOf Try.f34) 0 (finK E_stamp_Bytes po_stamp_Bytes [.tmp 2]) (startSt pi_stamp_Bytes 9 d) = f_stamp_Bytes_m () d := by kernel_rfl
def g_stamp_Bytes (d : Unit × ((Int × (Int × Unit)) × Unit)) : Option (((List Int) × Unit) × (Unit × Unit)) := f_stamp_Bytes_m () d
theorem ok_stamp_Bytes : FnOk Try.prog ET0 34 pi_stamp_Bytes po_stamp_Bytes g_stamp_Bytes :=
  fn_of_body (E := E_stamp_Bytes) (envOk_add e0_ok (typed_ok ok_octets_Put_u32)) (fn := Try.f34) Try.func34 (by kernel_rfl) (by kernel_rfl) [.tmp 2] (by kernel_rfl) (by kernel_rfl) (by decide) rfl c_stamp_Bytes L_stamp_Bytes R_stamp_Bytes
    (by intro x hx; cases hx) (by intro k x hx; cases hx) (by intro x hx; cases hx) (by intro k x hx; cases hx) (fun d out h => ⟨0, (q_stamp_Bytes_m 0 d).trans h⟩)

/- horologe/octets.Size[uint16] -/
@[reducible] def pi_octets_Size_u16 : PSh := ⟨[], []⟩
@[reducible] def po_octets_Size_u16 : PSh := ⟨[], [.mk false [.v (.int .i64)]]⟩
@[reducible] def TT_octets_Size_u16 : Type := (((Unit × ((Int × Unit) × ((Int × Unit) × Unit))) → Option (Unit × ((Int × Unit) × Unit))) × Unit)
@[reducible] def sh_octets_Size_u16_4 : PSh := ⟨[], [.any, .mk false [.v (.int .i64)], .mk false [.v (.int .u16)], .any, .any, .any, .any, .any, .any, .any, .any, .any, .any, .any]⟩
def f_octets_Size_u16_p4 (T : TT_octets_Size_u16) (d : Unit × ((Int × Unit) × ((Int × Unit) × Unit))) : Option (Unit × ((Int × Unit) × Unit)) :=
  let x3 : Bool := (decide (d.2.2.1.1 > (0 : Int)))
  bif x3 then (
  let x4 : Int := (iadd .i64 d.2.1.1 (1 : Int))
  let x5 : Int := (iconv .u64 d.2.2.1.1)
  let x6 : Int := (ishr .u64 x5 (8 : Int))
  let x7 : Int := (iconv .u16 x6)
  (T.1 ((), ((x4, ()), ((x7, ()), ())))))
  else (
  some ((), ((d.2.1.1, ()), ())))
def f_octets_Size_u16_t : Nat → TT_octets_Size_u16
  | 0 => (fun _ => none, ())
  | k + 1 => (f_octets_Size_u16_p4 (f_octets_Size_u16_t k), ())
theorem t_octets_Size_u16 (k : Nat) : f_octets_Size_u16_t (k + 1) = (f_octets_Size_u16_p4 (f_octets_Size_u16_t k), ()) := rfl
def f_octets_Size_u16_m (T : TT_octets_Size_u16) (d : Unit × Unit) : Option (Unit × ((Int × Unit) × Unit)) :=
  let x1 : Int := (iconv .u16 (0 : Int))
  let x2 : Int := (inot .u16 x1)
  (T.1 ((), (((0 : Int), ()), ((x2, ()), ()))))
def c_octets_Size_u16 : List Nat := []
def L_octets_Size_u16 (k : Nat) : Pts po_octets_Size_u16.den := [(4, ⟨sh_octets_Size_u16_4, (f_octets_Size_u16_t k).1⟩)]
def R_octets_Size_u16 (_ : Nat) : PtsR po_octets_Size_u16.den := []
def E_octets_Size_u16 : Env := E0
theorem q_octets_Size_u16_4 (k : Nat) (d : Unit × ((Int × Unit) × ((Int × Unit) × Unit))) : evAt E_octets_Size_u16 (tb (L_octets_Size_u16 k) (R_octets_Size_u16 k)) c_octets_Size_u16 4 (bodyOf Try.f62) 0 (finK E_octets_Size_u16 po_octets_Size_u16 [.tmp 0]) (ptSt sh_octets_Size_u16_4 d) = f_octets_Size_u16_p4 (f_octets_Size_u16_t k) d := by kernel_rfl
theorem q_octets_Size_u16_m (k : Nat) (d : Unit × Unit) : evCode E_octets_Size_u16 (tb (L_octets_Size_u16 k) (R_octets_Size_u16 k)) c_octets_Size_u16 (bodyOf Try.f62) 0 (finK E_octets_Size_u16 po_octets_Size_u16 [.tmp 0]) (startSt pi_octets_Size_u16 14 d) = f_octets_Size_u16_m (f_octets_Size_u16_t k) d := by kernel_rfl
theorem go_octets_Size_u16 (F : Unit × Unit → Option (Unit × ((Int × Unit) × Unit))) (hF : ∀ d out, F d = some out → ∃ k, f_octets_Size_u16_m (f_octets_Size_u16_t k) d = some out) : FnOk Try.prog ET0 62 pi_octets_Size_u16 po_octets_Size_u16 F :=
  fn_of_body (E := E_octets_Size_u16) e0_ok (fn := Try.f62) Try.func62 (by kernel_rfl) (by kernel_rfl) [.tmp 0] (by kernel_rfl) (by kernel_rfl) (by decide) rfl c_octets_Size_u16 L_octets_Size_u16 R_octets_Size_u16
    (by intro x hx d; simp only [L_octets_Size_u16, List.mem_cons, List.not_mem_nil, or_false] at hx; subst hx; rfl)
    (by intro k x hx d out h; simp only [L_octets_Size_u16, List.mem_cons, List.not_mem_nil, or_false] at hx; subst hx; exact (q_octets_Size_u16_4 k d).trans h)
    (by intro x hx; cases hx)
    (by intro k x hx; cases hx)
    (by intro d out h; obtain ⟨k, hk⟩ := hF d out h; exact ⟨k, (q_octets_Size_u16_m k d).trans hk⟩)
def g_octets_Size_u16 (d : Unit × Unit) : Option (Unit × ((Int × Unit) × Unit)) := lim fun k => f_octets_Size_u16_m (f_octets_Size_u16_t k) d
theorem ok_octets_Size_u16 : FnOk Try.prog ET0 62 pi_octets_Size_u16 po_octets_Size_u16 g_octets_Size_u16 := go_octets_Size_u16 g_octets_Size_u16 fun d out h => lim_some h

/- horologe/octets.Put[uint16] -/
@[reducible] def pi_octets_Put_u16 : PSh := ⟨[], [.mk false [.v (.sl (.int .u8))], .mk false [.v (.sl (.int .u16))]]⟩
@[reducible] def po_octets_Put_u16 : PSh := ⟨[.row 5 (.int .u8)], [.mk false [.osl 0]]⟩
@[reducible] def TT_octets_Put_u16 : Type := (((((List Int) × Unit) × ((Int × Unit) × (Unit × (((List Int) × Unit) × ((Int × Unit) × ((Int × Unit) × Unit)))))) → Option (((List Int) × Unit) × (Unit × Unit))) × (((((List Int) × Unit) × ((Int × Unit) × (Unit × ((Int × Unit) × ((Int × Unit) × (((List Int) × Unit) × ((Int × Unit) × ((Int × Unit) × Unit)))))))) → Option (((List Int) × Unit) × (Unit × Unit))) × Unit))
@[reducible] def sh_octets_Put_u16_5 : PSh := ⟨[.row 5 (.int .u8)], [.any, .any, .any, .any, .any, .mk false [.v (.int .i64)], .mk false [.osl 0], .any, .any, .any, .any, .any, .any, .mk false [.v (.sl (.int .u16))], .mk false [.v (.int .i64)], .mk false [.v (.int .i64)], .any, .any, .any, .any, .any, .any, .any, .any, .any, .any, .any, .any, .any, .any, .any, .any, .any, .any, .any, .any]⟩
@[reducible] def sh_octets_Put_u16_11 : PSh := ⟨[.row 5 (.int .u8)], [.any, .any, .any, .any, .any, .mk false [.v (.int .i64)], .mk false [.osl 0], .any, .mk false [.v (.int .u16)], .mk false [.v (.int .i64)], .any, .any, .any, .mk false [.v (.sl (.int .u16))], .mk false [.v (.int .i64)], .mk false [.v (.int .i64)], .any, .any, .any, .any, .any, .any, .any, .any, .any, .any, .any, .any, .any, .any, .any, .any, .any, .any, .any, .any]⟩
def f_octets_Put_u16_p5 (T : TT_octets_Put_u16) (d : ((List Int) × Unit) × ((Int × Unit) × (Unit × (((List Int) × Unit) × ((Int × Unit) × ((Int × Unit) × Unit)))))) : Option (((List Int) × Unit) × (Unit × Unit)) :=
  let x4 : Bool := (decide (d.2.2.2.2.2.1.1 < d.2.2.2.2.1.1))
  bif x4 then (
  bif decide ((0 : Int) ≤ d.2.2.2.2.2.1.1) && decide (d.2.2.2.2.2.1.1 < (d.2.2.2.1.1.length : Int)) then (
  let x5 : Int := (isub .i64 d.2.1.1 (1 : Int))
  (T.2.1 ((d.1.1, ()), ((d.2.1.1, ()), ((), (((gd (.int .u16) d.2.2.2.1.1 d.2.2.2.2.2.1.1), ()), ((x5, ()), ((d.2.2.2.1.1, ()), ((d.2.2.2.2.1.1, ()), ((d.2.2.2.2.2.1.1, ()), ()))))))))))
  else none)
  else (
  some ((d.1.1, ()), ((), ())))
def f_octets_Put_u16_p11 (T : TT_octets_Put_u16) (d : ((List Int) × Unit) × ((Int × Unit) × (Unit × ((Int × Unit) × ((Int × Unit) × (((List Int) × Unit) × ((Int × Unit) × ((Int × Unit) × Unit)))))))) : Option (((List Int) × Unit) × (Unit × Unit)) :=
  let x6 : Bool := (decide (d.2.2.2.2.1.1 ≥ (0 : Int)))
  bif x6 then (
  let x7 : Int := (iconv .u64 d.2.2.2.1.1)
  let x8 : Int := (imul .i64 (8 : Int) d.2.2.2.2.1.1)
  bif decide (x8 < 0) then (
  none)
  else (
  let x9 : Int := (ishr .u64 x7 x8)
  let x10 : Int := (iconv .u8 x9)
  let x11 : (List Int) := ([x10] : List Int)
  bif decide (((d.1.1.length + x11.length) * 1 : Nat) ≤ 140737488355328) && decide (d.1.1.length + x11.length ≤ 9223372036854775807) then (
  let x12 : (List Int) := (d.1.1 ++ x11)
  let x13 : Int := (isub .i64 d.2.2.2.2.1.1 (1 : Int))
  (T.2.1 ((x12, ()), ((d.2.1.1, ()), ((), ((d.2.2.2.1.1, ()), ((x13, ()), ((d.2.2.2.2.2.1.1, ()), ((d.2.2.2.2.2.2.1.1, ()), ((d.2.2.2.2.2.2.2.1.1, ()), ()))))))))))
  else none))
  else (
  let x14 : Int := (iadd .i64 d.2.2.2.2.2.2.2.1.1 (1 : Int))
  (T.1 ((d.1.1, ()), ((d.2.1.1, ()), ((), ((d.2.2.2.2.2.1.1, ()), ((d.2.2.2.2.2.2.1.1, ()), ((x14, ()), ()))))))))
def f_octets_Put_u16_t : Nat → TT_octets_Put_u16
  | 0 => (fun _ => none, (fun _ => none, ()))
  | k + 1 => (f_octets_Put_u16_p5 (f_octets_Put_u16_t k), (f_octets_Put_u16_p11 (f_octets_Put_u16_t k), ()))
theorem t_octets_Put_u16 (k : Nat) : f_octets_Put_u16_t (k + 1) = (f_octets_Put_u16_p5 (f_octets_Put_u16_t k), (f_octets_Put_u16_p11 (f_octets_Put_u16_t k), ())) := rfl
def f_octets_Put_u16_m (T : TT_octets_Put_u16) (d : Unit × (((List Int) × Unit) × (((List Int) × Unit) × Unit))) : Option (((List Int) × Unit) × (Unit × Unit)) :=
  (g_octets_Size_u16 ((), ())).bind fun x1 =>
  (g_slices_Clone_byte_byte ((), ((d.2.1.1, ()), ()))).bind fun x2 =>
  let x3 : Int := (d.2.2.1.1.length : Int)
  (T.1 ((x2.1.1, ()), ((x1.2.1.1, ()), ((), ((d.2.2.1.1, ()), ((x3, ()), (((0 : Int), ()), ())))))))
def c_octets_Put_u16 : List Nat := []
def L_octets_Put_u16 (k : Nat) : Pts po_octets_Put_u16.den := [(5, ⟨sh_octets_Put_u16_5, (f_octets_Put_u16_t k).1⟩), (11, ⟨sh_octets_Put_u16_11, (f_octets_Put_u16_t k).2.1⟩)]
def R_octets_Put_u16 (_ : Nat) : PtsR po_octets_Put_u16.den := []
def E_octets_Put_u16 : Env := ((E0.add 61 (typedSem pi_slices_Clone_byte_byte po_slices_Clone_byte_byte g_slices_Clone_byte_byte)).add 62 (typedSem pi_octets_Size_u16 po_octets_Size_u16 g_octets_Size_u16))
theorem q_octets_Put_u16_5 (k : Nat) (d : ((List Int) × Unit) × ((Int × Unit) × (Unit × (((List Int) × Unit) × ((Int × Unit) × ((Int × Unit) × Unit)))))) : evAt E_octets_Put_u16 (tb (L_octets_Put_u16 k) (R_octets_Put_u16 k)) c_octets_Put_u16 5 (bodyOf Try.f21) 0 (finK E_octets_Put_u16 po_octets_Put_u16 [.tmp 4]) (ptSt sh_octets_Put_u16_5 d) = f_octets_Put_u16_p5 (f_octets_Put_u16_t k) d := by kernel_rfl
theorem q_octets_Put_u16_11 (k : Nat) (d : ((List Int) × Unit) × ((Int × Unit) × (Unit × ((Int × Unit) × ((Int × Unit) × (((List Int) × Unit) × ((Int × Unit) × ((Int × Unit) × Unit)))))))) : evAt E_octets_Put_u16 (tb (L_octets_Put_u16 k) (R_octets_Put_u16 k)) c_octets_Put_u16 11 (bodyOf Try.f21) 0 (finK E_octets_Put_u16 po_octets_Put_u16 [.tmp 4]) (ptSt sh_octets_Put_u16_11 d) = f_octets_Put_u16_p11 (f_octets_Put_u16_t k) d := by kernel_rfl
theorem q_octets_Put_u16_m (k : Nat) (d : Unit × (((List Int) × Unit) × (((List Int) × Unit) × Unit))) : evCode E_octets_Put_u16 (tb (L_octets_Put_u16 k) (R_octets_Put_u16 k)) c_octets_Put_u16 (bodyOf Try.f21) 0 (finK E_octets_Put_u16 po_octets_Put_u16 [.tmp 4]) (startSt pi_octets_Put_u16 36 d) = f_octets_Put_u16_m (f_octets_Put_u16_t k) d := by kernel_rfl
theorem go_octets_Put_u16 (F : Unit × (((List Int) × Unit) × (((List Int) × Unit) × Unit)) → Option (((List Int) × Unit) × (Unit × Unit))) (hF : ∀ d out, F d = some out → ∃ k, f_octets_Put_u16_m (f_octets_Put_u16_t k) d = some out) : FnOk Try.prog ET0 21 pi_octets_Put_u16 po_octets_Put_u16 F :=
  fn_of_body (E := E_octets_Put_u16) (envOk_add (envOk_add e0_ok (typed_ok ok_slices_Clone_byte_byte)) (typed_ok ok_octets_Size_u16)) (fn := Try.f21) Try.func21 (by kernel_rfl) (by kernel_rfl) [.tmp 4] (by kernel_rfl) (by kernel_rfl) (by decide) rfl c_octets_Put_u16 L_octets_Put_u16 R_octets_Put_u16
    (by intro x hx d; simp only [L_octets_Put_u16, List.mem_cons, List.not_mem_nil, or_false] at hx; rcases hx with rfl | rfl; rfl; rfl)
    (by intro k x hx d out h; simp only [L_octets_Put_u16, List.mem_cons, List.not_mem_nil, or_false] at hx; rcases hx with rfl | rfl; exact (q_octets_Put_u16_5 k d).trans h; exact (q_octets_Put_u16_11 k d).trans h)
    (by intro x hx; cases hx)
    (by intro k x hx; cases hx)
    (by intro d out h; obtain ⟨k, hk⟩ := hF d out h; exact ⟨k, (q_octets_Put_u16_m k d).trans hk⟩)
def g_octets_Put_u16 (d : Unit × (((List Int) × Unit) × (((List Int) × Unit) × Unit))) : Option (((List Int) × Unit) × (Unit × Unit)) := lim fun k => f_octets_Put_u16_m (f_octets_Put_u16_t k) d
theorem ok_octets_Put_u16 : FnOk Try.prog ET0 21 pi_octets_Put_u16 po_octets_Put_u16 g_octets_Put_u16 := go_octets_Put_u16 g_octets_Put_u16 fun d out h => lim_some h

/- horologe/stamp.ShortBytes -/
@[reducible] def pi_stamp_ShortBytes : PSh := ⟨[], [.mk true [.v (.int .u16), .v (.int .u16)]]⟩
@[reducible] def po_stamp_ShortBytes : PSh := ⟨[.row 5 (.int .u8)], [.mk false [.osl 0]]⟩
def f_stamp_ShortBytes_m (T : Unit) (d : Unit × ((Int × (Int × Unit)) × Unit)) : Option (((List Int) × Unit) × (Unit × Unit)) :=
  let x1 : (List Int) := ([d.2.1.1, d.2.1.2.1] : List Int)
  (g_octets_Put_u16 ((), ((([] : List Int), ()), ((x1, ()), ())))).bind fun x2 =>
  some ((x2.1.1, ()), ((), ()))
def c_stamp_ShortBytes : List Nat := []
def L_stamp_ShortBytes (_ : Nat) : Pts po_stamp_ShortBytes.den := []
def R_stamp_ShortBytes (_ : Nat) : PtsR po_stamp_ShortBytes.den := []
def E_stamp_ShortBytes : Env := (E0.add 21 (typedSem pi_octets_Put_u16 po_octets_Put_u16 g_octets_Put_u16))
theorem q_stamp_ShortBytes_m (k : Nat) (d : Unit × ((Int × (Int × Unit)) × Unit)) : evCode E_stamp_ShortBytes (tb (L_stamp_ShortBytes k) (R_stamp_ShortBytes k)) c_stamp_ShortBytes (bodyOf Try.f36) 0 (finK E_stamp_ShortBytes po_stamp_ShortBytes [.tmp 2]) (startSt pi_stamp_ShortBytes 9 d) = f_stamp_ShortBytes_m () d := by kernel_rfl
def g_stamp_ShortBytes (d : Unit × ((Int × (Int × Unit)) × Unit)) : Option (((List Int) × Unit) × (Unit × Unit)) := f_stamp_ShortBytes_m () d
theorem ok_stamp_ShortBytes : FnOk Try.prog ET0 36 pi_stamp_ShortBytes po_stamp_ShortBytes g_stamp_ShortBytes :=
  fn_of_body (E := E_stamp_ShortBytes) (envOk_add e0_ok (typed_ok ok_octets_Put_u16)) (fn := Try.f36) Try.func36 (by kernel_rfl) (by kernel_rfl) [.tmp 2] (by kernel_rfl) (by kernel_rfl) (by decide) rfl c_stamp_ShortBytes L_stamp_ShortBytes R_stamp_ShortBytes
    (by intro x hx; cases hx) (by intro k x hx; cases hx) (by intro x hx; cases hx) (by intro k x hx; cases hx) (fun d out h => ⟨0, (q_stamp_ShortBytes_m 0 d).trans h⟩)

/- (*horologe/head.Head).longs -/
@[reducible] def pi_head_Head_longs : PSh := ⟨[], [.mk false [.v (.nptr (.pair (.int .i64) (.pair (.int .i64) (.pair (.int .i64) (.pair (.int .u8) (.pair (.int .i8) (.pair (.int .i8) (.pair (.pair (.int .u16) (.int .u16)) (.pair (.pair (.int .u16) (.int .u16)) (.pair (.pair (.int .u8) (.pair (.int .u8) (.pair (.int .u8) (.int .u8)))) (.pair (.pair (.int .u32) (.int .u32)) (.pair (.pair (.int .u32) (.int .u32)) (.pair (.pair (.int .u32) (.int .u32)) (.pair (.int .u32) (.int .u32)))))))))))))))]]⟩
@[reducible] def po_head_Head_longs : PSh := ⟨[], [.mk true [.v (.nptr (.pair (.int .u32) (.int .u32))), .v (.nptr (.pair (.int .u32) (.int .u32))), .v (.nptr (.pair (.int .u32) (.int .u32))), .v (.nptr (.pair (.int .u32) (.int .u32)))]]⟩
def f_head_Head_longs_m (T : Unit) (d : Unit × (((Option (Int × (Int × (Int × (Int × (Int × (Int × ((Int × Int) × ((Int × Int) × ((Int × (Int × (Int × Int))) × ((Int × Int) × ((Int × Int) × ((Int × Int) × (Int × Int)))))))))))))) × Unit) × Unit)) : Option (Unit × (((Option (Int × Int)) × ((Option (Int × Int)) × ((Option (Int × Int)) × ((Option (Int × Int)) × Unit)))) × Unit)) :=
  d.2.1.1.bind fun x1 =>
  d.2.1.1.bind fun x2 =>
  d.2.1.1.bind fun x3 =>
  d.2.1.1.bind fun x4 =>
  some ((), (((some x1.2.2.2.2.2.2.2.2.2.1), ((some x2.2.2.2.2.2.2.2.2.2.2.1), ((some x3.2.2.2.2.2.2.2.2.2.2.2.1), ((some x4.2.2.2.2.2.2.2.2.2.2.2.2), ())))), ()))
def c_head_Head_longs : List Nat := []
def L_head_Head_longs (_ : Nat) : Pts po_head_Head_longs.den := []
def R_head_Head_longs (_ : Nat) : PtsR po_head_Head_longs.den := []
def E_head_Head_longs : Env := E0
theorem q_head_Head_longs_m (k : Nat) (d : Unit × (((Option (Int × (Int × (Int × (Int × (Int × (Int × ((Int × Int) × ((Int × Int) × ((Int × (Int × (Int × Int))) × ((Int × Int) × ((Int × Int) × ((Int × Int) × (Int × Int)))))))))))))) × Unit) × Unit)) : evCode E_head_Head_longs (tb (L_head_Head_longs k) (R_head_Head_longs k)) c_head_Head_longs (bodyOf Try.f56) 0 (finK E_head_Head_longs po_head_Head_longs [.cell 2 106]) (startSt pi_head_Head_longs 16 d) = f_head_Head_longs_m () d := by kernel_rfl
def g_head_Head_longs (d : Unit × (((Option (Int × (Int × (Int × (Int × (Int × (Int × ((Int × Int) × ((Int × Int) × ((Int × (Int × (Int × Int))) × ((Int × Int) × ((Int × Int) × ((Int × Int) × (Int × Int)))))))))))))) × Unit) × Unit)) : Option (Unit × (((Option (Int × Int)) × ((Option (Int × Int)) × ((Option (Int × Int)) × ((Option (Int × Int)) × Unit)))) × Unit)) := f_head_Head_longs_m () d
theorem ok_head_Head_longs : FnOk Try.prog ET0 56 pi_head_Head_longs po_head_Head_longs g_head_Head_longs :=
  fn_of_body (E := E_head_Head_longs) e0_ok (fn := Try.f56) Try.func56 (by kernel_rfl) (by kernel_rfl) [.cell 2 106] (by kernel_rfl) (by kernel_rfl) (by decide) rfl c_head_Head_longs L_head_Head_longs R_head_Head_longs
    (by intro x hx; cases hx) (by intro k x hx; cases hx) (by intro x hx; cases hx) (by intro k x hx; cases hx) (fun d out h => ⟨0, (q_head_Head_longs_m 0 d).trans h⟩)

/- horologe/head.Put -/
@[reducible] def pi_head_Put : PSh := ⟨[], [.mk true [.v (.int .i64), .v (.int .i64), .v (.int .i64), .v (.int .u8), .v (.int .i8), .v (.int .i8), .v (.int .u16), .v (.int .u16), .v (.int .u16), .v (.int .u16), .v (.int .u8), .v (.int .u8), .v (.int .u8), .v (.int .u8), .v (.int .u32), .v (.int .u32), .v (.int .u32), .v (.int .u32), .v (.int .u32), .v (.int .u32), .v (.int .u32), .v (.int .u32)]]⟩
@[reducible] def po_head_Put : PSh := ⟨[.row 5 (.int .u8)], [.mk false [.osl 0], .mk false [.v .err]]⟩
@[reducible] def TT_head_Put : Type := (((((List Int) × Unit) × (Unit × (((Option (Int × Int)) × ((Option (Int × Int)) × ((Option (Int × Int)) × ((Option (Int × Int)) × Unit)))) × ((Int × Unit) × Unit)))) → Option (((List Int) × Unit) × (Unit × (((Option Int) × Unit) × Unit)))) × Unit)
@[reducible] def sh_head_Put_10 : PSh := ⟨[.row 5 (.int .u8)], [.any, .any, .any, .any, .any, .mk false [.osl 0], .any, .any, .any, .any, .any, .any, .any, .any, .any, .any, .any, .any, .any, .any, .any, .any, .any, .any, .any, .any, .any, .any, .any, .any, .any, .any, .any, .any, .any, .any, .any, .any, .any, .any, .any, .any, .any, .any, .any, .any, .mk true [.v (.nptr (.pair (.int .u32) (.int .u32))), .v (.nptr (.pair (.int .u32) (.int .u32))), .v (.nptr (.pair (.int .u32) (.int .u32))), .v (.nptr (.pair (.int .u32) (.int .u32)))], .mk false [.v (.int .i64)], .any, .any, .any, .any, .any, .any, .any, .any, .any, .any]⟩
def f_head_Put_p10 (T : TT_head_Put) (d : ((List Int) × Unit) × (Unit × (((Option (Int × Int)) × ((Option (Int × Int)) × ((Option (Int × Int)) × ((Option (Int × Int)) × Unit)))) × ((Int × Unit) × Unit)))) : Option (((List Int) × Unit) × (Unit × (((Option Int) × Unit) × Unit))) :=
  let x19 : Bool := (decide (d.2.2.2.1.1 < (4 : Int)))
  bif x19 then (
  bif decide ((0 : Int) ≤ d.2.2.2.1.1) && decide (d.2.2.2.1.1 < (4 : Int)) then (
  bif decide (d.2.2.2.1.1 = (0 : Int)) then (
  d.2.2.1.1.bind fun x32 =>
  (g_stamp_Bytes ((), ((x32.1, (x32.2, ())), ()))).bind fun x33 =>
  bif decide (((d.1.1.length + x33.1.1.length) * 1 : Nat) ≤ 140737488355328) && decide (d.1.1.length + x33.1.1.length ≤ 9223372036854775807) then (
  let x34 : (List Int) := (d.1.1 ++ x33.1.1)
  let x35 : Int := (iadd .i64 d.2.2.2.1.1 (1 : Int))
  (T.1 ((x34, ()), ((), ((d.2.2.1.1, (d.2.2.1.2.1, (d.2.2.1.2.2.1, (d.2.2.1.2.2.2.1, ())))), ((x35, ()), ()))))))
  else none)
  else (
  bif decide (d.2.2.2.1.1 = (1 : Int)) then (
  d.2.2.1.2.1.bind fun x28 =>
  (g_stamp_Bytes ((), ((x28.1, (x28.2, ())), ()))).bind fun x29 =>
  bif decide (((d.1.1.length + x29.1.1.length) * 1 : Nat) ≤ 140737488355328) && decide (d.1.1.length + x29.1.1.length ≤ 9223372036854775807) then (
  let x30 : (List Int) := (d.1.1 ++ x29.1.1)
  let x31 : Int := (iadd .i64 d.2.2.2.1.1 (1 : Int))
  (T.1 ((x30, ()), ((), ((d.2.2.1.1, (d.2.2.1.2.1, (d.2.2.1.2.2.1, (d.2.2.1.2.2.2.1, ())))), ((x31, ()), ()))))))
  else none)
  else (
  bif decide (d.2.2.2.1.1 = (2 : Int)) then (
  d.2.2.1.2.2.1.bind fun x24 =>
  (g_stamp_Bytes ((), ((x24.1, (x24.2, ())), ()))).bind fun x25 =>
  bif decide (((d.1.1.length + x25.1.1.length) * 1 : Nat) ≤ 140737488355328) && decide (d.1.1.length + x25.1.1.length ≤ 9223372036854775807) then (
  let x26 : (List Int) := (d.1.1 ++ x25.1.1)
  let x27 : Int := (iadd .i64 d.2.2.2.1.1 (1 : Int))
  (T.1 ((x26, ()), ((), ((d.2.2.1.1, (d.2.2.1.2.1, (d.2.2.1.2.2.1, (d.2.2.1.2.2.2.1, ())))), ((x27, ()), ()))))))
  else none)
  else (
  bif decide (d.2.2.2.1.1 = (3 : Int)) then (
  d.2.2.1.2.2.2.1.bind fun x20 =>
  (g_stamp_Bytes ((), ((x20.1, (x20.2, ())), ()))).bind fun x21 =>
  bif decide (((d.1.1.length + x21.1.1.length) * 1 : Nat) ≤ 140737488355328) && decide (d.1.1.length + x21.1.1.length ≤ 9223372036854775807) then (
  let x22 : (List Int) := (d.1.1 ++ x21.1.1)
  let x23 : Int := (iadd .i64 d.2.2.2.1.1 (1 : Int))
  (T.1 ((x22, ()), ((), ((d.2.2.1.1, (d.2.2.1.2.1, (d.2.2.1.2.2.1, (d.2.2.1.2.2.2.1, ())))), ((x23, ()), ()))))))
  else none)
  else (
  none)))))
  else none)
  else (
  some ((d.1.1, ()), ((), (((none : Option Int), ()), ()))))
def f_head_Put_t : Nat → TT_head_Put
  | 0 => (fun _ => none, ())
  | k + 1 => (f_head_Put_p10 (f_head_Put_t k), ())
theorem t_head_Put (k : Nat) : f_head_Put_t (k + 1) = (f_head_Put_p10 (f_head_Put_t k), ()) := rfl
def f_head_Put_m (T : TT_head_Put) (d : Unit × ((Int × (Int × (Int × (Int × (Int × (Int × (Int × (Int × (Int × (Int × (Int × (Int × (Int × (Int × (Int × (Int × (Int × (Int × (Int × (Int × (Int × (Int × Unit)))))))))))))))))))))) × Unit)) : Option (((List Int) × Unit) × (Unit × (((Option Int) × Unit) × Unit))) :=
  (g_head_Check ((), ((d.2.1.1, (d.2.1.2.1, (d.2.1.2.2.1, (d.2.1.2.2.2.1, (d.2.1.2.2.2.2.1, (d.2.1.2.2.2.2.2.1, (d.2.1.2.2.2.2.2.2.1, (d.2.1.2.2.2.2.2.2.2.1, (d.2.1.2.2.2.2.2.2.2.2.1, (d.2.1.2.2.2.2.2.2.2.2.2.1, (d.2.1.2.2.2.2.2.2.2.2.2.2.1, (d.2.1.2.2.2.2.2.2.2.2.2.2.2.1, (d.2.1.2.2.2.2.2.2.2.2.2.2.2.2.1, (d.2.1.2.2.2.2.2.2.2.2.2.2.2.2.2.1, (d.2.1.2.2.2.2.2.2.2.2.2.2.2.2.2.2.1, (d.2.1.2.2.2.2.2.2.2.2.2.2.2.2.2.2.2.1, (d.2.1.2.2.2.2.2.2.2.2.2.2.2.2.2.2.2.2.1, (d.2.1.2.2.2.2.2.2.2.2.2.2.2.2.2.2.2.2.2.1, (d.2.1.2.2.2.2.2.2.2.2.2.2.2.2.2.2.2.2.2.2.1, (d.2.1.2.2.2.2.2.2.2.2.2.2.2.2.2.2.2.2.2.2.2.1, (d.2.1.2.2.2.2.2.2.2.2.2.2.2.2.2.2.2.2.2.2.2.2.1, (d.2.1.2.2.2.2.2.2.2.2.2.2.2.2.2.2.2.2.2.2.2.2.2.1, ())))))))))))))))))))))), ()))).bind fun x1 =>
  let x2 : Bool := (!x1.2.1.1.isNone)
  bif x2 then (
  some ((([] : List Int), ()), ((), ((x1.2.1.1, ()), ()))))
  else (
  let x3 : Int := (ishl .i64 d.2.1.1 (6 : Int))
  let x4 : Int := (ishl .i64 d.2.1.2.1 (3 : Int))
  let x5 : Int := (ior .i64 x3 x4)
  let x6 : Int := (ior .i64 x5 d.2.1.2.2.1)
  let x7 : Int := (iconv .u8 x6)
  let x8 : Int := (iconv .u8 d.2.1.2.2.2.2.1)
  let x9 : Int := (iconv .u8 d.2.1.2.2.2.2.2.1)
  let x10 : (List Int) := ([x7, d.2.1.2.2.2.1, x8, x9] : List Int)
  (g_stamp_ShortBytes ((), ((d.2.1.2.2.2.2.2.2.1, (d.2.1.2.2.2.2.2.2.2.1, ())), ()))).bind fun x11 =>
  bif decide (((x10.length + x11.1.1.length) * 1 : Nat) ≤ 140737488355328) && decide (x10.length + x11.1.1.length ≤ 9223372036854775807) then (
  let x12 : (List Int) := (x10 ++ x11.1.1)
  (g_stamp_ShortBytes ((), ((d.2.1.2.2.2.2.2.2.2.2.1, (d.2.1.2.2.2.2.2.2.2.2.2.1, ())), ()))).bind fun x13 =>
  bif decide (((x12.length + x13.1.1.length) * 1 : Nat) ≤ 140737488355328) && decide (x12.length + x13.1.1.length ≤ 9223372036854775807) then (
  let x14 : (List Int) := (x12 ++ x13.1.1)
  let x15 : (Int × (Int × (Int × (Int × (Int × (Int × ((Int × Int) × ((Int × Int) × ((Int × (Int × (Int × Int))) × ((Int × Int) × ((Int × Int) × ((Int × Int) × (Int × Int))))))))))))) := (d.2.1.1, (d.2.1.2.1, (d.2.1.2.2.1, (d.2.1.2.2.2.1, (d.2.1.2.2.2.2.1, (d.2.1.2.2.2.2.2.1, ((d.2.1.2.2.2.2.2.2.1, d.2.1.2.2.2.2.2.2.2.1), ((d.2.1.2.2.2.2.2.2.2.2.1, d.2.1.2.2.2.2.2.2.2.2.2.1), ((d.2.1.2.2.2.2.2.2.2.2.2.2.1, (d.2.1.2.2.2.2.2.2.2.2.2.2.2.1, (d.2.1.2.2.2.2.2.2.2.2.2.2.2.2.1, d.2.1.2.2.2.2.2.2.2.2.2.2.2.2.2.1))), ((d.2.1.2.2.2.2.2.2.2.2.2.2.2.2.2.2.1, d.2.1.2.2.2.2.2.2.2.2.2.2.2.2.2.2.2.1), ((d.2.1.2.2.2.2.2.2.2.2.2.2.2.2.2.2.2.2.1, d.2.1.2.2.2.2.2.2.2.2.2.2.2.2.2.2.2.2.2.1), ((d.2.1.2.2.2.2.2.2.2.2.2.2.2.2.2.2.2.2.2.2.1, d.2.1.2.2.2.2.2.2.2.2.2.2.2.2.2.2.2.2.2.2.2.1), (d.2.1.2.2.2.2.2.2.2.2.2.2.2.2.2.2.2.2.2.2.2.2.1, d.2.1.2.2.2.2.2.2.2.2.2.2.2.2.2.2.2.2.2.2.2.2.2.1)))))))))))))
  let x16 : (List Int) := ([x15.2.2.2.2.2.2.2.2.1.1, x15.2.2.2.2.2.2.2.2.1.2.1, x15.2.2.2.2.2.2.2.2.1.2.2.1, x15.2.2.2.2.2.2.2.2.1.2.2.2] : List Int)
  bif decide (((x14.length + x16.length) * 1 : Nat) ≤ 140737488355328) && decide (x14.length + x16.length ≤ 9223372036854775807) then (
  let x17 : (List Int) := (x14 ++ x16)
  (g_head_Head_longs ((), (((some x15), ()), ()))).bind fun x18 =>
  (T.1 ((x17, ()), ((), ((x18.2.1.1, (x18.2.1.2.1, (x18.2.1.2.2.1, (x18.2.1.2.2.2.1, ())))), (((0 : Int), ()), ()))))))
  else none)
  else none)
  else none)
def c_head_Put : List Nat := []
def L_head_Put (k : Nat) : Pts po_head_Put.den := [(10, ⟨sh_head_Put_10, (f_head_Put_t k).1⟩)]
def R_head_Put (_ : Nat) : PtsR po_head_Put.den := []
def E_head_Put : Env := (((((E0.add 16 (typedSem pi_head_Check po_head_Check g_head_Check)).add 34 (typedSem pi_stamp_Bytes po_stamp_Bytes g_stamp_Bytes)).add 36 (typedSem pi_stamp_ShortBytes po_stamp_ShortBytes g_stamp_ShortBytes)).add 56 (typedSem pi_head_Head_longs po_head_Head_longs g_head_Head_longs)).fr [(44, [43])])
theorem q_head_Put_10 (k : Nat) (d : ((List Int) × Unit) × (Unit × (((Option (Int × Int)) × ((Option (Int × Int)) × ((Option (Int × Int)) × ((Option (Int × Int)) × Unit)))) × ((Int × Unit) × Unit)))) : evAt E_head_Put (tb (L_head_Put k) (R_head_Put k)) c_head_Put 10 (bodyOf Try.f12) 0 (finK E_head_Put po_head_Put [.tmp 2, .tmp 3]) (ptSt sh_head_Put_10 d) = f_head_Put_p10 (f_head_Put_t k) d := by kernel_rfl
theorem q_head_Put_m (k : Nat) (d : Unit × ((Int × (Int × (Int × (Int × (Int × (Int × (Int × (Int × (Int × (Int × (Int × (Int × (Int × (Int × (Int × (Int × (Int × (Int × (Int × (Int × (Int × (Int × Unit)))))))))))))))))))))) × Unit)) : evCode E_head_Put (tb (L_head_Put k) (R_head_Put k)) c_head_Put (bodyOf Try.f12) 0 (finK E_head_Put po_head_Put [.tmp 2, .tmp 3]) (startSt pi_head_Put 58 d) = f_head_Put_m (f_head_Put_t k) d := by kernel_rfl
theorem go_head_Put (F : Unit × ((Int × (Int × (Int × (Int × (Int × (Int × (Int × (Int × (Int × (Int × (Int × (Int × (Int × (Int × (Int × (Int × (Int × (Int × (Int × (Int × (Int × (Int × Unit)))))))))))))))))))))) × Unit) → Option (((List Int) × Unit) × (Unit × (((Option Int) × Unit) × Unit)))) (hF : ∀ d out, F d = some out → ∃ k, f_head_Put_m (f_head_Put_t k) d = some out) : FnOk Try.prog ET0 12 pi_head_Put po_head_Put F :=
  fn_of_body (E := E_head_Put) (envOk_fr (envOk_add (envOk_add (envOk_add (envOk_add e0_ok (typed_ok ok_head_Check)) (typed_ok ok_stamp_Bytes)) (typed_ok ok_stamp_ShortBytes)) (typed_ok ok_head_Head_longs))) (fn := Try.f12) Try.func12 (by kernel_rfl) (by kernel_rfl) [.tmp 2, .tmp 3] (by kernel_rfl) (by kernel_rfl) (by decide) rfl c_head_Put L_head_Put R_head_Put
    (by intro x hx d; simp only [L_head_Put, List.mem_cons, List.not_mem_nil, or_false] at hx; subst hx; rfl)
    (by intro k x hx d out h; simp only [L_head_Put, List.mem_cons, List.not_mem_nil, or_false] at hx; subst hx; exact (q_head_Put_10 k d).trans h)
    (by intro x hx; cases hx)
    (by intro k x hx; cases hx)
    (by intro d out h; obtain ⟨k, hk⟩ := hF d out h; exact ⟨k, (q_head_Put_m k d).trans hk⟩)
def g_head_Put (d : Unit × ((Int × (Int × (Int × (Int × (Int × (Int × (Int × (Int × (Int × (Int × (Int × (Int × (Int × (Int × (Int × (Int × (Int × (Int × (Int × (Int × (Int × (Int × Unit)))))))))))))))))))))) × Unit)) : Option (((List Int) × Unit) × (Unit × (((Option Int) × Unit) × Unit))) := lim fun k => f_head_Put_m (f_head_Put_t k) d
theorem ok_head_Put : FnOk Try.prog ET0 12 pi_head_Put po_head_Put g_head_Put := go_head_Put g_head_Put fun d out h => lim_some h

/- horologe/octets.from -/
@[reducible] def pi_octets_from : PSh := ⟨[], [.mk false [.v (.sl (.int .u8))], .mk false [.v (.int .i64)], .mk false [.v (.int .i64)]]⟩
@[reducible] def po_octets_from : PSh := ⟨[], [.mk false [.v (.sl (.int .u8))], .mk false [.v .err]]⟩
def f_octets_from_m (T : Unit) (d : Unit × (((List Int) × Unit) × ((Int × Unit) × ((Int × Unit) × Unit)))) : Option (Unit × (((List Int) × Unit) × (((Option Int) × Unit) × Unit))) :=
  let x1 : Bool := (decide (d.2.2.1.1 < (0 : Int)))
  bif x1 then (
  let x2 : (Option Int) := (some (1 : Int))
  some ((), ((([] : List Int), ()), ((x2, ()), ()))))
  else (
  let x3 : Int := (d.2.1.1.length : Int)
  let x4 : Bool := (decide (d.2.2.1.1 > x3))
  bif x4 then (
  let x5 : (Option Int) := (some (1 : Int))
  some ((), ((([] : List Int), ()), ((x5, ()), ()))))
  else (
  let x6 : Bool := (decide (d.2.2.2.1.1 < (0 : Int)))
  bif x6 then (
  let x7 : (Option Int) := (some (1 : Int))
  some ((), ((([] : List Int), ()), ((x7, ()), ()))))
  else (
  let x8 : Int := (d.2.1.1.length : Int)
  let x9 : Int := (isub .i64 x8 d.2.2.1.1)
  let x10 : Bool := (decide (d.2.2.2.1.1 > x9))
  bif x10 then (
  let x11 : (Option Int) := (some (4 : Int))
  some ((), ((([] : List Int), ()), ((x11, ()), ()))))
  else (
  let x12 : Int := (iadd .i64 d.2.2.1.1 d.2.2.2.1.1)
  bif decide ((0 : Int) ≤ d.2.2.1.1) && decide (d.2.2.1.1 ≤ x12) && decide (x12 ≤ (d.2.1.1.length : Int)) then (
  let x13 : (List Int) := (List.drop (Int.toNat d.2.2.1.1) (List.take (Int.toNat x12) d.2.1.1))
  some ((), ((x13, ()), (((none : Option Int), ()), ()))))
  else none))))
def c_octets_from : List Nat := []
def L_octets_from (_ : Nat) : Pts po_octets_from.den := []
def R_octets_from (_ : Nat) : PtsR po_octets_from.den := []
def E_octets_from : Env := E0
theorem q_octets_from_m (k : Nat) (d : Unit × (((List Int) × Unit) × ((Int × Unit) × ((Int × Unit) × Unit)))) : evCode E_octets_from (tb (L_octets_from k) (R_octets_from k)) c_octets_from (bodyOf Try.f63) 0 (finK E_octets_from po_octets_from [.tmp 6, .tmp 7]) (startSt pi_octets_from 36 d) = f_octets_from_m () d := by kernel_rfl
def g_octets_from (d : Unit × (((List Int) × Unit) × ((Int × Unit) × ((Int × Unit) × Unit)))) : Option (Unit × (((List Int) × Unit) × (((Option Int) × Unit) × Unit))) := f_octets_from_m () d
theorem ok_octets_from : FnOk Try.prog ET0 63 pi_octets_from po_octets_from g_octets_from :=
  fn_of_body (E := E_octets_from) e0_ok (fn := Try.f63) Try.func63 (by kernel_rfl) (by kernel_rfl) [.tmp 6, .tmp 7] (by kernel_rfl) (by kernel_rfl) (by decide) rfl c_octets_from L_octets_from R_octets_from
    (by intro x hx; cases hx) (by intro k x hx; cases hx) (by intro x hx; cases hx) (by intro k x hx; cases hx) (fun d out h => ⟨0, (q_octets_from_m 0 d).trans h⟩)

/- horologe/octets.Size[uint8] -/
@[reducible] def pi_octets_Size_u8 : PSh := ⟨[], []⟩
@[reducible] def po_octets_Size_u8 : PSh := ⟨[], [.mk false [.v (.int .i64)]]⟩
@[reducible] def TT_octets_Size_u8 : Type := (((Unit × ((Int × Unit) × ((Int × Unit) × Unit))) → Option (Unit × ((Int × Unit) × Unit))) × Unit)
@[reducible] def sh_octets_Size_u8_4 : PSh := ⟨[], [.any, .mk false [.v (.int .i64)], .mk false [.v (.int .u8)], .any, .any, .any, .any, .any, .any, .any, .any, .any, .any, .any]⟩
def f_octets_Size_u8_p4 (T : TT_octets_Size_u8) (d : Unit × ((Int × Unit) × ((Int × Unit) × Unit))) : Option (Unit × ((Int × Unit) × Unit)) :=
  let x3 : Bool := (decide (d.2.2.1.1 > (0 : Int)))
  bif x3 then (
  let x4 : Int := (iadd .i64 d.2.1.1 (1 : Int))
  let x5 : Int := (iconv .u64 d.2.2.1.1)
  let x6 : Int := (ishr .u64 x5 (8 : Int))
  let x7 : Int := (iconv .u8 x6)
  (T.1 ((), ((x4, ()), ((x7, ()), ())))))
  else (
  some ((), ((d.2.1.1, ()), ())))
def f_octets_Size_u8_t : Nat → TT_octets_Size_u8
  | 0 => (fun _ => none, ())
  | k + 1 => (f_octets_Size_u8_p4 (f_octets_Size_u8_t k), ())
theorem t_octets_Size_u8 (k : Nat) : f_octets_Size_u8_t (k + 1) = (f_octets_Size_u8_p4 (f_octets_Size_u8_t k), ()) := rfl
def f_octets_Size_u8_m (T : TT_octets_Size_u8) (d : Unit × Unit) : Option (Unit × ((Int × Unit) × Unit)) :=
  let x1 : Int := (iconv .u8 (0 : Int))
  let x2 : Int := (inot .u8 x1)
  (T.1 ((), (((0 : Int), ()), ((x2, ()), ()))))
def c_octets_Size_u8 : List Nat := []
def L_octets_Size_u8 (k : Nat) : Pts po_octets_Size_u8.den := [(4, ⟨sh_octets_Size_u8_4, (f_octets_Size_u8_t k).1⟩)]
def R_octets_Size_u8 (_ : Nat) : PtsR po_octets_Size_u8.den := []
def E_octets_Size_u8 : Env := E0
theorem q_octets_Size_u8_4 (k : Nat) (d : Unit × ((Int × Unit) × ((Int × Unit) × Unit))) : evAt E_octets_Size_u8 (tb (L_octets_Size_u8 k) (R_octets_Size_u8 k)) c_octets_Size_u8 4 (bodyOf Try.f69) 0 (finK E_octets_Size_u8 po_octets_Size_u8 [.tmp 0]) (ptSt sh_octets_Size_u8_4 d) = f_octets_Size_u8_p4 (f_octets_Size_u8_t k) d := by kernel_rfl
theorem q_octets_Size_u8_m (k : Nat) (d : Unit × Unit) : evCode E_octets_Size_u8 (tb (L_octets_Size_u8 k) (R_octets_Size_u8 k)) c_octets_Size_u8 (bodyOf Try.f69) 0 (finK E_octets_Size_u8 po_octets_Size_u8 [.tmp 0]) (startSt pi_octets_Size_u8 14 d) = f_octets_Size_u8_m (f_octets_Size_u8_t k) d := by kernel_rfl
theorem go_octets_Size_u8 (F : Unit × Unit → Option (Unit × ((Int × Unit) × Unit))) (hF : ∀ d out, F d = some out → ∃ k, f_octets_Size_u8_m (f_octets_Size_u8_t k) d = some out) : FnOk Try.prog ET0 69 pi_octets_Size_u8 po_octets_Size_u8 F :=
  fn_of_body (E := E_octets_Size_u8) e0_ok (fn := Try.f69) Try.func69 (by kernel_rfl) (by kernel_rfl) [.tmp 0] (by kernel_rfl) (by kernel_rfl) (by decide) rfl c_octets_Size_u8 L_octets_Size_u8 R_octets_Size_u8
    (by intro x hx d; simp only [L_octets_Size_u8, List.mem_cons, List.not_mem_nil, or_false] at hx; subst hx; rfl)
    (by intro k x hx d out h; simp only [L_octets_Size_u8, List.mem_cons, List.not_mem_nil, or_false] at hx; subst hx; exact (q_octets_Size_u8_4 k d).trans h)
    (by intro x hx; cases hx)
    (by intro k x hx; cases hx)
    (by intro d out h; obtain ⟨k, hk⟩ := hF d out h; exact ⟨k, (q_octets_Size_u8_m k d).trans hk⟩)
def g_octets_Size_u8 (d : Unit × Unit) : Option (Unit × ((Int × Unit) × Unit)) := lim fun k => f_octets_Size_u8_m (f_octets_Size_u8_t k) d
theorem ok_octets_Size_u8 : FnOk Try.prog ET0 69 pi_octets_Size_u8 po_octets_Size_u8 g_octets_Size_u8 := go_octets_Size_u8 g_octets_Size_u8 fun d out h => lim_some h

/- horologe/octets.word[uint8] -/
@[reducible] def pi_octets_word_u8 : PSh := ⟨[], [.mk false [.v (.sl (.int .u8))]]⟩
@[reducible] def po_octets_word_u8 : PSh := ⟨[], [.mk false [.v (.int .u8)]]⟩
@[reducible] def TT_octets_word_u8 : Type := (((Unit × ((Int × Unit) × (((List Int) × Unit) × ((Int × Unit) × ((Int × Unit) × Unit))))) → Option (Unit × ((Int × Unit) × Unit))) × Unit)
@[reducible] def sh_octets_word_u8_4 : PSh := ⟨[], [.any, .any, .any, .mk false [.v (.int .u64)], .any, .any, .mk false [.v (.sl (.int .u8))], .mk false [.v (.int .i64)], .mk false [.v (.int .i64)], .any, .any, .any, .any, .any, .any, .any, .any, .any, .any, .any]⟩
def f_octets_word_u8_p4 (T : TT_octets_word_u8) (d : Unit × ((Int × Unit) × (((List Int) × Unit) × ((Int × Unit) × ((Int × Unit) × Unit))))) : Option (Unit × ((Int × Unit) × Unit)) :=
  let x2 : Bool := (decide (d.2.2.2.2.1.1 < d.2.2.2.1.1))
  bif x2 then (
  bif decide ((0 : Int) ≤ d.2.2.2.2.1.1) && decide (d.2.2.2.2.1.1 < (d.2.2.1.1.length : Int)) then (
  let x3 : Int := (ishl .u64 d.2.1.1 (8 : Int))
  let x4 : Int := (iconv .u64 (gd (.int .u8) d.2.2.1.1 d.2.2.2.2.1.1))
  let x5 : Int := (ior .u64 x3 x4)
  let x6 : Int := (iadd .i64 d.2.2.2.2.1.1 (1 : Int))
  (T.1 ((), ((x5, ()), ((d.2.2.1.1, ()), ((d.2.2.2.1.1, ()), ((x6, ()), ())))))))
  else none)
  else (
  let x7 : Int := (iconv .u8 d.2.1.1)
  some ((), ((x7, ()), ())))
def f_octets_word_u8_t : Nat → TT_octets_word_u8
  | 0 => (fun _ => none, ())
  | k + 1 => (f_octets_word_u8_p4 (f_octets_word_u8_t k), ())
theorem t_octets_word_u8 (k : Nat) : f_octets_word_u8_t (k + 1) = (f_octets_word_u8_p4 (f_octets_word_u8_t k), ()) := rfl
def f_octets_word_u8_m (T : TT_octets_word_u8) (d : Unit × (((List Int) × Unit) × Unit)) : Option (Unit × ((Int × Unit) × Unit)) :=
  let x1 : Int := (d.2.1.1.length : Int)
  (T.1 ((), (((0 : Int), ()), ((d.2.1.1, ()), ((x1, ()), (((0 : Int), ()), ()))))))
def c_octets_word_u8 : List Nat := []
def L_octets_word_u8 (k : Nat) : Pts po_octets_word_u8.den := [(4, ⟨sh_octets_word_u8_4, (f_octets_word_u8_t k).1⟩)]
def R_octets_word_u8 (_ : Nat) : PtsR po_octets_word_u8.den := []
def E_octets_word_u8 : Env := E0
theorem q_octets_word_u8_4 (k : Nat) (d : Unit × ((Int × Unit) × (((List Int) × Unit) × ((Int × Unit) × ((Int × Unit) × Unit))))) : evAt E_octets_word_u8 (tb (L_octets_word_u8 k) (R_octets_word_u8 k)) c_octets_word_u8 4 (bodyOf Try.f92) 0 (finK E_octets_word_u8 po_octets_word_u8 [.tmp 2]) (ptSt sh_octets_word_u8_4 d) = f_octets_word_u8_p4 (f_octets_word_u8_t k) d := by kernel_rfl
theorem q_octets_word_u8_m (k : Nat) (d : Unit × (((List Int) × Unit) × Unit)) : evCode E_octets_word_u8 (tb (L_octets_word_u8 k) (R_octets_word_u8 k)) c_octets_word_u8 (bodyOf Try.f92) 0 (finK E_octets_word_u8 po_octets_word_u8 [.tmp 2]) (startSt pi_octets_word_u8 20 d) = f_octets_word_u8_m (f_octets_word_u8_t k) d := by kernel_rfl
theorem go_octets_word_u8 (F : Unit × (((List Int) × Unit) × Unit) → Option (Unit × ((Int × Unit) × Unit))) (hF : ∀ d out, F d = some out → ∃ k, f_octets_word_u8_m (f_octets_word_u8_t k) d = some out) : FnOk Try.prog ET0 92 pi_octets_word_u8 po_octets_word_u8 F :=
  fn_of_body (E := E_octets_word_u8) e0_ok (fn := Try.f92) Try.func92 (by kernel_rfl) (by kernel_rfl) [.tmp 2] (by kernel_rfl) (by kernel_rfl) (by decide) rfl c_octets_word_u8 L_octets_word_u8 R_octets_word_u8
    (by intro x hx d; simp only [L_octets_word_u8, List.mem_cons, List.not_mem_nil, or_false] at hx; subst hx; rfl)
    (by intro k x hx d out h; simp only [L_octets_word_u8, List.mem_cons, List.not_mem_nil, or_false] at hx; subst hx; exact (q_octets_word_u8_4 k d).trans h)
    (by intro x hx; cases hx)
    (by intro k x hx; cases hx)
    (by intro d out h; obtain ⟨k, hk⟩ := hF d out h; exact ⟨k, (q_octets_word_u8_m k d).trans hk⟩)
def g_octets_word_u8 (d : Unit × (((List Int) × Unit) × Unit)) : Option (Unit × ((Int × Unit) × Unit)) := lim fun k => f_octets_word_u8_m (f_octets_word_u8_t k) d
theorem ok_octets_word_u8 : FnOk Try.prog ET0 92 pi_octets_word_u8 po_octets_word_u8 g_octets_word_u8 := go_octets_word_u8 g_octets_word_u8 fun d out h => lim_some h

/- horologe/octets.Get[uint8] -/
@[reducible] def pi_octets_Get_u8 : PSh := ⟨[], [.mk false [.v (.sl (.int .u8))], .mk false [.v (.int .i64)]]⟩
@[reducible] def po_octets_Get_u8 : PSh := ⟨[], [.mk false [.v (.int .u8)], .mk false [.v .err]]⟩
def f_octets_Get_u8_m (T : Unit) (d : Unit × (((List Int) × Unit) × ((Int × Unit) × Unit))) : Option (Unit × ((Int × Unit) × (((Option Int) × Unit) × Unit))) :=
  (g_octets_Size_u8 ((), ())).bind fun x1 =>
  (g_octets_from ((), ((d.2.1.1, ()), ((d.2.2.1.1, ()), ((x1.2.1.1, ()), ()))))).bind fun x2 =>
  let x3 : Bool := (!x2.2.2.1.1.isNone)
  bif x3 then (
  some ((), (((0 : Int), ()), ((x2.2.2.1.1, ()), ()))))
  else (
  (g_octets_word_u8 ((), ((x2.2.1.1, ()), ()))).bind fun x4 =>
  some ((), ((x4.2.1.1, ()), (((none : Option Int), ()), ()))))
def c_octets_Get_u8 : List Nat := []
def L_octets_Get_u8 (_ : Nat) : Pts po_octets_Get_u8.den := []
def R_octets_Get_u8 (_ : Nat) : PtsR po_octets_Get_u8.den := []
def E_octets_Get_u8 : Env := (((E0.add 63 (typedSem pi_octets_from po_octets_from g_octets_from)).add 69 (typedSem pi_octets_Size_u8 po_octets_Size_u8 g_octets_Size_u8)).add 92 (typedSem pi_octets_word_u8 po_octets_word_u8 g_octets_word_u8))
theorem q_octets_Get_u8_m (k : Nat) (d : Unit × (((List Int) × Unit) × ((Int × Unit) × Unit))) : evCode E_octets_Get_u8 (tb (L_octets_Get_u8 k) (R_octets_Get_u8 k)) c_octets_Get_u8 (bodyOf Try.f70) 0 (finK E_octets_Get_u8 po_octets_Get_u8 [.tmp 4, .tmp 5]) (startSt pi_octets_Get_u8 20 d) = f_octets_Get_u8_m () d := by kernel_rfl
def g_octets_Get_u8 (d : Unit × (((List Int) × Unit) × ((Int × Unit) × Unit))) : Option (Unit × ((Int × Unit) × (((Option Int) × Unit) × Unit))) := f_octets_Get_u8_m () d
theorem ok_octets_Get_u8 : FnOk Try.prog ET0 70 pi_octets_Get_u8 po_octets_Get_u8 g_octets_Get_u8 :=
  fn_of_body (E := E_octets_Get_u8) (envOk_add (envOk_add (envOk_add e0_ok (typed_ok ok_octets_from)) (typed_ok ok_octets_Size_u8)) (typed_ok ok_octets_word_u8)) (fn := Try.f70) Try.func70 (by kernel_rfl) (by kernel_rfl) [.tmp 4, .tmp 5] (by kernel_rfl) (by kernel_rfl) (by decide) rfl c_octets_Get_u8 L_octets_Get_u8 R_octets_Get_u8
    (by intro x hx; cases hx) (by intro k x hx; cases hx) (by intro x hx; cases hx) (by intro k x hx; cases hx) (fun d out h => ⟨0, (q_octets_Get_u8_m 0 d).trans h⟩)

/- horologe/head.First -/
@[reducible] def pi_head_First : PSh := ⟨[], [.mk false [.v (.sl (.int .u8))]]⟩
@[reducible] def po_head_First : PSh := ⟨[], [.mk false [.v (.int .i64)], .mk false [.v (.int .i64)], .mk false [.v (.int .i64)], .mk false [.v .err]]⟩
def f_head_First_m (T : Unit) (d : Unit × (((List Int) × Unit) × Unit)) : Option (Unit × ((Int × Unit) × ((Int × Unit) × ((Int × Unit) × (((Option Int) × Unit) × Unit))))) :=
  (g_octets_Get_u8 ((), ((d.2.1.1, ()), (((0 : Int), ()), ())))).bind fun x1 =>
  let x2 : Bool := (!x1.2.2.1.1.isNone)
  bif x2 then (
  some ((), (((0 : Int), ()), (((0 : Int), ()), (((0 : Int), ()), ((x1.2.2.1.1, ()), ()))))))
  else (
  let x3 : Int := (ishr .u8 x1.2.1.1 (6 : Int))
  let x4 : Int := (iconv .i64 x3)
  let x5 : Int := (ishr .u8 x1.2.1.1 (3 : Int))
  let x6 : Int := (iand .u8 x5 (7 : Int))
  let x7 : Int := (iconv .i64 x6)
  let x8 : Int := (iand .u8 x1.2.1.1 (7 : Int))
  let x9 : Int := (iconv .i64 x8)
  some ((), ((x4, ()), ((x7, ()), ((x9, ()), (((none : Option Int), ()), ()))))))
def c_head_First : List Nat := []
def L_head_First (_ : Nat) : Pts po_head_First.den := []
def R_head_First (_ : Nat) : PtsR po_head_First.den := []
def E_head_First : Env := (E0.add 70 (typedSem pi_octets_Get_u8 po_octets_Get_u8 g_octets_Get_u8))
theorem q_head_First_m (k : Nat) (d : Unit × (((List Int) × Unit) × Unit)) : evCode E_head_First (tb (L_head_First k) (R_head_First k)) c_head_First (bodyOf Try.f52) 0 (finK E_head_First po_head_First [.tmp 2, .tmp 3, .tmp 4, .tmp 5]) (startSt pi_head_First 25 d) = f_head_First_m () d := by kernel_rfl
def g_head_First (d : Unit × (((List Int) × Unit) × Unit)) : Option (Unit × ((Int × Unit) × ((Int × Unit) × ((Int × Unit) × (((Option Int) × Unit) × Unit))))) := f_head_First_m () d
theorem ok_head_First : FnOk Try.prog ET0 52 pi_head_First po_head_First g_head_First :=
  fn_of_body (E := E_head_First) (envOk_add e0_ok (typed_ok ok_octets_Get_u8)) (fn := Try.f52) Try.func52 (by kernel_rfl) (by kernel_rfl) [.tmp 2, .tmp 3, .tmp 4, .tmp 5] (by kernel_rfl) (by kernel_rfl) (by decide) rfl c_head_First L_head_First R_head_First
    (by intro x hx; cases hx) (by intro k x hx; cases hx) (by intro x hx; cases hx) (by intro k x hx; cases hx) (fun d out h => ⟨0, (q_head_First_m 0 d).trans h⟩)

/- horologe/horologelaw28.alive -/
@[reducible] def pi_law28_alive : PSh := ⟨[], []⟩
@[reducible] def po_law28_alive : PSh := ⟨[], [.mk false [.v .bool]]⟩
def f_law28_alive_m (T : Unit) (d : Unit × Unit) : Option (Unit × ((Bool × Unit) × Unit)) :=
  let x1 : (List Int) := ([(35 : Int)] : List Int)
  (g_head_First ((), ((x1, ()), ()))).bind fun x2 =>
  (g_head_Put ((), (((0 : Int), ((4 : Int), ((3 : Int), ((9 : Int), ((0 : Int), ((0 : Int), ((0 : Int), ((0 : Int), ((0 : Int), ((0 : Int), ((0 : Int), ((0 : Int), ((0 : Int), ((0 : Int), ((0 : Int), ((0 : Int), ((0 : Int), ((0 : Int), ((0 : Int), ((0 : Int), ((0 : Int), ((0 : Int), ())))))))))))))))))))))), ()))).bind fun x3 =>
  bif x2.2.2.2.2.1.1.isNone then (
  bif x3.2.2.1.1.isNone then (
  let x4 : Bool := (x2.2.1.1 == (0 : Int))
  bif x4 then (
  let x5 : Bool := (x2.2.2.1.1 == (4 : Int))
  bif x5 then (
  let x6 : Bool := (x2.2.2.2.1.1 == (3 : Int))
  bif x6 then (
  let x7 : Int := (x3.1.1.length : Int)
  let x8 : Bool := (x7 == (48 : Int))
  bif x8 then (
  bif decide ((0 : Int) ≤ (0 : Int)) && decide ((0 : Int) < (x3.1.1.length : Int)) then (
  let x9 : Bool := ((gd (.int .u8) x3.1.1 (0 : Int)) == (35 : Int))
  bif x9 then (
  bif decide ((0 : Int) ≤ (1 : Int)) && decide ((1 : Int) < (x3.1.1.length : Int)) then (
  let x10 : Bool := ((gd (.int .u8) x3.1.1 (1 : Int)) == (9 : Int))
  some ((), ((x10, ()), ())))
  else none)
  else (
  some ((), ((false, ()), ()))))
  else none)
  else (
  some ((), ((false, ()), ()))))
  else (
  some ((), ((false, ()), ()))))
  else (
  some ((), ((false, ()), ()))))
  else (
  some ((), ((false, ()), ()))))
  else (
  some ((), ((false, ()), ()))))
  else (
  some ((), ((false, ()), ())))
def c_law28_alive : List Nat := []
def L_law28_alive (_ : Nat) : Pts po_law28_alive.den := []
def R_law28_alive (_ : Nat) : PtsR po_law28_alive.den := []
def E_law28_alive : Env := ((E0.add 12 (typedSem pi_head_Put po_head_Put g_head_Put)).add 52 (typedSem pi_head_First po_head_First g_head_First))
theorem q_law28_alive_m (k : Nat) (d : Unit × Unit) : evCode E_law28_alive (tb (L_law28_alive k) (R_law28_alive k)) c_law28_alive (bodyOf Try.f11) 0 (finK E_law28_alive po_law28_alive [.tmp 0]) (startSt pi_law28_alive 54 d) = f_law28_alive_m () d := by kernel_rfl
def g_law28_alive (d : Unit × Unit) : Option (Unit × ((Bool × Unit) × Unit)) := f_law28_alive_m () d
theorem ok_law28_alive : FnOk Try.prog ET0 11 pi_law28_alive po_law28_alive g_law28_alive :=
  fn_of_body (E := E_law28_alive) (envOk_add (envOk_add e0_ok (typed_ok ok_head_Put)) (typed_ok ok_head_First)) (fn := Try.f11) Try.func11 (by kernel_rfl) (by kernel_rfl) [.tmp 0] (by kernel_rfl) (by kernel_rfl) (by decide) rfl c_law28_alive L_law28_alive R_law28_alive
    (by intro x hx; cases hx) (by intro k x hx; cases hx) (by intro x hx; cases hx) (by intro k x hx; cases hx) (fun d out h => ⟨0, (q_law28_alive_m 0 d).trans h⟩)

/- horologe/horologeref28.Check -/
@[reducible] def pi_ref28_Check : PSh := ⟨[], [.mk true [.v (.int .i64), .v (.int .i64), .v (.int .i64), .v (.int .i64), .v (.int .i64), .v (.int .i64), .v (.int .u64), .v (.int .u64), .v (.int .u8), .v (.int .u8), .v (.int .u8), .v (.int .u8), .v (.int .u64), .v (.int .u64), .v (.int .u64), .v (.int .u64)]]⟩
@[reducible] def po_ref28_Check : PSh := ⟨[], [.mk false [.v (.int .i64)]]⟩
def f_ref28_Check_m (T : Unit) (d : Unit × ((Int × (Int × (Int × (Int × (Int × (Int × (Int × (Int × (Int × (Int × (Int × (Int × (Int × (Int × (Int × (Int × Unit)))))))))))))))) × Unit)) : Option (Unit × ((Int × Unit) × Unit)) :=
  let x1 : Bool := (decide (d.2.1.1 < (0 : Int)))
  bif x1 then (
  some ((), (((1 : Int), ()), ())))
  else (
  let x2 : Bool := (decide (d.2.1.1 > (3 : Int)))
  bif x2 then (
  some ((), (((1 : Int), ()), ())))
  else (
  let x3 : Bool := (decide (d.2.1.2.1 < (0 : Int)))
  bif x3 then (
  some ((), (((1 : Int), ()), ())))
  else (
  let x4 : Bool := (decide (d.2.1.2.1 > (7 : Int)))
  bif x4 then (
  some ((), (((1 : Int), ()), ())))
  else (
  let x5 : Bool := (decide (d.2.1.2.2.1 < (0 : Int)))
  bif x5 then (
  some ((), (((1 : Int), ()), ())))
  else (
  let x6 : Bool := (decide (d.2.1.2.2.1 > (7 : Int)))
  bif x6 then (
  some ((), (((1 : Int), ()), ())))
  else (
  some ((), (((0 : Int), ()), ()))))))))
def c_ref28_Check : List Nat := []
def L_ref28_Check (_ : Nat) : Pts po_ref28_Check.den := []
def R_ref28_Check (_ : Nat) : PtsR po_ref28_Check.den := []
def E_ref28_Check : Env := E0
theorem q_ref28_Check_m (k : Nat) (d : Unit × ((Int × (Int × (Int × (Int × (Int × (Int × (Int × (Int × (Int × (Int × (Int × (Int × (Int × (Int × (Int × (Int × Unit)))))))))))))))) × Unit)) : evCode E_ref28_Check (tb (L_ref28_Check k) (R_ref28_Check k)) c_ref28_Check (bodyOf Try.f13) 0 (finK E_ref28_Check po_ref28_Check [.tmp 2]) (startSt pi_ref28_Check 31 d) = f_ref28_Check_m () d := by kernel_rfl
def g_ref28_Check (d : Unit × ((Int × (Int × (Int × (Int × (Int × (Int × (Int × (Int × (Int × (Int × (Int × (Int × (Int × (Int × (Int × (Int × Unit)))))))))))))))) × Unit)) : Option (Unit × ((Int × Unit) × Unit)) := f_ref28_Check_m () d
theorem ok_ref28_Check : FnOk Try.prog ET0 13 pi_ref28_Check po_ref28_Check g_ref28_Check :=
  fn_of_body (E := E_ref28_Check) e0_ok (fn := Try.f13) Try.func13 (by kernel_rfl) (by kernel_rfl) [.tmp 2] (by kernel_rfl) (by kernel_rfl) (by decide) rfl c_ref28_Check L_ref28_Check R_ref28_Check
    (by intro x hx; cases hx) (by intro k x hx; cases hx) (by intro x hx; cases hx) (by intro k x hx; cases hx) (fun d out h => ⟨0, (q_ref28_Check_m 0 d).trans h⟩)

/- horologe/horologelaw28.bits -/
@[reducible] def pi_law28_bits : PSh := ⟨[], [.mk true [.v (.int .u32), .v (.int .u32)]]⟩
@[reducible] def po_law28_bits : PSh := ⟨[], [.mk false [.v (.int .u64)]]⟩
def f_law28_bits_m (T : Unit) (d : Unit × ((Int × (Int × Unit)) × Unit)) : Option (Unit × ((Int × Unit) × Unit)) :=
  let x1 : Int := (iconv .u64 d.2.1.1)
  let x2 : Int := (ishl .u64 x1 (32 : Int))
  let x3 : Int := (iconv .u64 d.2.1.2.1)
  let x4 : Int := (ior .u64 x2 x3)
  some ((), ((x4, ()), ()))
def c_law28_bits : List Nat := []
def L_law28_bits (_ : Nat) : Pts po_law28_bits.den := []
def R_law28_bits (_ : Nat) : PtsR po_law28_bits.den := []
def E_law28_bits : Env := E0
theorem q_law28_bits_m (k : Nat) (d : Unit × ((Int × (Int × Unit)) × Unit)) : evCode E_law28_bits (tb (L_law28_bits k) (R_law28_bits k)) c_law28_bits (bodyOf Try.f50) 0 (finK E_law28_bits po_law28_bits [.tmp 2]) (startSt pi_law28_bits 11 d) = f_law28_bits_m () d := by kernel_rfl
def g_law28_bits (d : Unit × ((Int × (Int × Unit)) × Unit)) : Option (Unit × ((Int × Unit) × Unit)) := f_law28_bits_m () d
theorem ok_law28_bits : FnOk Try.prog ET0 50 pi_law28_bits po_law28_bits g_law28_bits :=
  fn_of_body (E := E_law28_bits) e0_ok (fn := Try.f50) Try.func50 (by kernel_rfl) (by kernel_rfl) [.tmp 2] (by kernel_rfl) (by kernel_rfl) (by decide) rfl c_law28_bits L_law28_bits R_law28_bits
    (by intro x hx; cases hx) (by intro k x hx; cases hx) (by intro x hx; cases hx) (by intro k x hx; cases hx) (fun d out h => ⟨0, (q_law28_bits_m 0 d).trans h⟩)

/- horologe/horologelaw28.short -/
@[reducible] def pi_law28_short : PSh := ⟨[], [.mk true [.v (.int .u16), .v (.int .u16)]]⟩
@[reducible] def po_law28_short : PSh := ⟨[], [.mk false [.v (.int .u64)]]⟩
def f_law28_short_m (T : Unit) (d : Unit × ((Int × (Int × Unit)) × Unit)) : Option (Unit × ((Int × Unit) × Unit)) :=
  let x1 : Int := (iconv .u64 d.2.1.1)
  let x2 : Int := (ishl .u64 x1 (16 : Int))
  let x3 : Int := (iconv .u64 d.2.1.2.1)
  let x4 : Int := (ior .u64 x2 x3)
  some ((), ((x4, ()), ()))
def c_law28_short : List Nat := []
def L_law28_short (_ : Nat) : Pts po_law28_short.den := []
def R_law28_short (_ : Nat) : PtsR po_law28_short.den := []
def E_law28_short : Env := E0
theorem q_law28_short_m (k : Nat) (d : Unit × ((Int × (Int × Unit)) × Unit)) : evCode E_law28_short (tb (L_law28_short k) (R_law28_short k)) c_law28_short (bodyOf Try.f57) 0 (finK E_law28_short po_law28_short [.tmp 2]) (startSt pi_law28_short 11 d) = f_law28_short_m () d := by kernel_rfl
def g_law28_short (d : Unit × ((Int × (Int × Unit)) × Unit)) : Option (Unit × ((Int × Unit) × Unit)) := f_law28_short_m () d
theorem ok_law28_short : FnOk Try.prog ET0 57 pi_law28_short po_law28_short g_law28_short :=
  fn_of_body (E := E_law28_short) e0_ok (fn := Try.f57) Try.func57 (by kernel_rfl) (by kernel_rfl) [.tmp 2] (by kernel_rfl) (by kernel_rfl) (by decide) rfl c_law28_short L_law28_short R_law28_short
    (by intro x hx; cases hx) (by intro k x hx; cases hx) (by intro x hx; cases hx) (by intro k x hx; cases hx) (fun d out h => ⟨0, (q_law28_short_m 0 d).trans h⟩)

/- horologe/horologelaw28.Document -/
@[reducible] def pi_law28_Document : PSh := ⟨[], [.mk true [.v (.int .i64), .v (.int .i64), .v (.int .i64), .v (.int .u8), .v (.int .i8), .v (.int .i8), .v (.int .u16), .v (.int .u16), .v (.int .u16), .v (.int .u16), .v (.int .u8), .v (.int .u8), .v (.int .u8), .v (.int .u8), .v (.int .u32), .v (.int .u32), .v (.int .u32), .v (.int .u32), .v (.int .u32), .v (.int .u32), .v (.int .u32), .v (.int .u32)]]⟩
@[reducible] def po_law28_Document : PSh := ⟨[], [.mk true [.v (.int .i64), .v (.int .i64), .v (.int .i64), .v (.int .i64), .v (.int .i64), .v (.int .i64), .v (.int .u64), .v (.int .u64), .v (.int .u8), .v (.int .u8), .v (.int .u8), .v (.int .u8), .v (.int .u64), .v (.int .u64), .v (.int .u64), .v (.int .u64)]]⟩
def f_law28_Document_m (T : Unit) (d : Unit × ((Int × (Int × (Int × (Int × (Int × (Int × (Int × (Int × (Int × (Int × (Int × (Int × (Int × (Int × (Int × (Int × (Int × (Int × (Int × (Int × (Int × (Int × Unit)))))))))))))))))))))) × Unit)) : Option (Unit × ((Int × (Int × (Int × (Int × (Int × (Int × (Int × (Int × (Int × (Int × (Int × (Int × (Int × (Int × (Int × (Int × Unit)))))))))))))))) × Unit)) :=
  let x1 : Int := (iconv .i64 d.2.1.2.2.2.1)
  let x2 : Int := (iconv .i64 d.2.1.2.2.2.2.1)
  let x3 : Int := (iconv .i64 d.2.1.2.2.2.2.2.1)
  (g_law28_short ((), ((d.2.1.2.2.2.2.2.2.1, (d.2.1.2.2.2.2.2.2.2.1, ())), ()))).bind fun x4 =>
  (g_law28_short ((), ((d.2.1.2.2.2.2.2.2.2.2.1, (d.2.1.2.2.2.2.2.2.2.2.2.1, ())), ()))).bind fun x5 =>
  (g_law28_bits ((), ((d.2.1.2.2.2.2.2.2.2.2.2.2.2.2.2.2.1, (d.2.1.2.2.2.2.2.2.2.2.2.2.2.2.2.2.2.1, ())), ()))).bind fun x6 =>
  (g_law28_bits ((), ((d.2.1.2.2.2.2.2.2.2.2.2.2.2.2.2.2.2.2.1, (d.2.1.2.2.2.2.2.2.2.2.2.2.2.2.2.2.2.2.2.1, ())), ()))).bind fun x7 =>
  (g_law28_bits ((), ((d.2.1.2.2.2.2.2.2.2.2.2.2.2.2.2.2.2.2.2.2.1, (d.2.1.2.2.2.2.2.2.2.2.2.2.2.2.2.2.2.2.2.2.2.1, ())), ()))).bind fun x8 =>
  (g_law28_bits ((), ((d.2.1.2.2.2.2.2.2.2.2.2.2.2.2.2.2.2.2.2.2.2.2.1, (d.2.1.2.2.2.2.2.2.2.2.2.2.2.2.2.2.2.2.2.2.2.2.2.1, ())), ()))).bind fun x9 =>
  some ((), ((d.2.1.1, (d.2.1.2.1, (d.2.1.2.2.1, (x1, (x2, (x3, (x4.2.1.1, (x5.2.1.1, (d.2.1.2.2.2.2.2.2.2.2.2.2.1, (d.2.1.2.2.2.2.2.2.2.2.2.2.2.1, (d.2.1.2.2.2.2.2.2.2.2.2.2.2.2.1, (d.2.1.2.2.2.2.2.2.2.2.2.2.2.2.2.1, (x6.2.1.1, (x7.2.1.1, (x8.2.1.1, (x9.2.1.1, ())))))))))))))))), ()))
def c_law28_Document : List Nat := []
def L_law28_Document (_ : Nat) : Pts po_law28_Document.den := []
def R_law28_Document (_ : Nat) : PtsR po_law28_Document.den := []
def E_law28_Document : Env := ((E0.add 50 (typedSem pi_law28_bits po_law28_bits g_law28_bits)).add 57 (typedSem pi_law28_short po_law28_short g_law28_short))
theorem q_law28_Document_m (k : Nat) (d : Unit × ((Int × (Int × (Int × (Int × (Int × (Int × (Int × (Int × (Int × (Int × (Int × (Int × (Int × (Int × (Int × (Int × (Int × (Int × (Int × (Int × (Int × (Int × Unit)))))))))))))))))))))) × Unit)) : evCode E_law28_Document (tb (L_law28_Document k) (R_law28_Document k)) c_law28_Document (bodyOf Try.f14) 0 (finK E_law28_Document po_law28_Document [.cell 2 41]) (startSt pi_law28_Document 39 d) = f_law28_Document_m () d := by kernel_rfl
def g_law28_Document (d : Unit × ((Int × (Int × (Int × (Int × (Int × (Int × (Int × (Int × (Int × (Int × (Int × (Int × (Int × (Int × (Int × (Int × (Int × (Int × (Int × (Int × (Int × (Int × Unit)))))))))))))))))))))) × Unit)) : Option (Unit × ((Int × (Int × (Int × (Int × (Int × (Int × (Int × (Int × (Int × (Int × (Int × (Int × (Int × (Int × (Int × (Int × Unit)))))))))))))))) × Unit)) := f_law28_Document_m () d
theorem ok_law28_Document : FnOk Try.prog ET0 14 pi_law28_Document po_law28_Document g_law28_Document :=
  fn_of_body (E := E_law28_Document) (envOk_add (envOk_add e0_ok (typed_ok ok_law28_bits)) (typed_ok ok_law28_short)) (fn := Try.f14) Try.func14 (by kernel_rfl) (by kernel_rfl) [.cell 2 41] (by kernel_rfl) (by kernel_rfl) (by decide) rfl c_law28_Document L_law28_Document R_law28_Document
    (by intro x hx; cases hx) (by intro k x hx; cases hx) (by intro x hx; cases hx) (by intro k x hx; cases hx) (fun d out h => ⟨0, (q_law28_Document_m 0 d).trans h⟩)

/- horologe/horologenum.Num -/
@[reducible] def pi_hnum_Num : PSh := ⟨[], [.mk false [.v .err]]⟩
@[reducible] def po_hnum_Num : PSh := ⟨[], [.mk false [.v (.int .i64)]]⟩
def f_hnum_Num_m (T : Unit) (d : Unit × (((Option Int) × Unit) × Unit)) : Option (Unit × ((Int × Unit) × Unit)) :=
  bif d.2.1.1.isNone then (
  some ((), (((0 : Int), ()), ())))
  else (
  bif d.2.1.1.isSome then (
  let x1 : Bool := ((d.2.1.1.getD 0) != (0 : Int))
  bif x1 then (
  some ((), (((d.2.1.1.getD 0), ()), ())))
  else (
  some ((), (((-1 : Int), ()), ()))))
  else (
  some ((), (((-1 : Int), ()), ()))))
def c_hnum_Num : List Nat := []
def L_hnum_Num (_ : Nat) : Pts po_hnum_Num.den := []
def R_hnum_Num (_ : Nat) : PtsR po_hnum_Num.den := []
def E_hnum_Num : Env := E0
theorem q_hnum_Num_m (k : Nat) (d : Unit × (((Option Int) × Unit) × Unit)) : evCode E_hnum_Num (tb (L_hnum_Num k) (R_hnum_Num k)) c_hnum_Num (bodyOf Try.f15) 0 (finK E_hnum_Num po_hnum_Num [.tmp 2]) (startSt pi_hnum_Num 18 d) = f_hnum_Num_m () d := by kernel_rfl
def g_hnum_Num (d : Unit × (((Option Int) × Unit) × Unit)) : Option (Unit × ((Int × Unit) × Unit)) := f_hnum_Num_m () d
theorem ok_hnum_Num : FnOk Try.prog ET0 15 pi_hnum_Num po_hnum_Num g_hnum_Num :=
  fn_of_body (E := E_hnum_Num) e0_ok (fn := Try.f15) Try.func15 (by kernel_rfl) (by kernel_rfl) [.tmp 2] (by kernel_rfl) (by kernel_rfl) (by decide) rfl c_hnum_Num L_hnum_Num R_hnum_Num
    (by intro x hx; cases hx) (by intro k x hx; cases hx) (by intro x hx; cases hx) (by intro k x hx; cases hx) (fun d out h => ⟨0, (q_hnum_Num_m 0 d).trans h⟩)

/- horologe/horologenum.Bytes -/
@[reducible] def pi_hnum_Bytes : PSh := ⟨[], [.mk false [.v (.sl (.int .u8))], .mk false [.v (.sl (.int .u8))]]⟩
@[reducible] def po_hnum_Bytes : PSh := ⟨[], [.mk false [.v .bool]]⟩
def f_hnum_Bytes_m (T : Unit) (d : Unit × (((List Int) × Unit) × (((List Int) × Unit) × Unit))) : Option (Unit × ((Bool × Unit) × Unit)) :=
  let x1 : ByteArray := (strOf d.2.1.1)
  let x2 : ByteArray := (strOf d.2.2.1.1)
  let x3 : Bool := (x1.toList == x2.toList)
  some ((), ((x3, ()), ()))
def c_hnum_Bytes : List Nat := []
def L_hnum_Bytes (_ : Nat) : Pts po_hnum_Bytes.den := []
def R_hnum_Bytes (_ : Nat) : PtsR po_hnum_Bytes.den := []
def E_hnum_Bytes : Env := E0
theorem q_hnum_Bytes_m (k : Nat) (d : Unit × (((List Int) × Unit) × (((List Int) × Unit) × Unit))) : evCode E_hnum_Bytes (tb (L_hnum_Bytes k) (R_hnum_Bytes k)) c_hnum_Bytes (bodyOf Try.f17) 0 (finK E_hnum_Bytes po_hnum_Bytes [.tmp 4]) (startSt pi_hnum_Bytes 10 d) = f_hnum_Bytes_m () d := by kernel_rfl
def g_hnum_Bytes (d : Unit × (((List Int) × Unit) × (((List Int) × Unit) × Unit))) : Option (Unit × ((Bool × Unit) × Unit)) := f_hnum_Bytes_m () d
theorem ok_hnum_Bytes : FnOk Try.prog ET0 17 pi_hnum_Bytes po_hnum_Bytes g_hnum_Bytes :=
  fn_of_body (E := E_hnum_Bytes) e0_ok (fn := Try.f17) Try.func17 (by kernel_rfl) (by kernel_rfl) [.tmp 4] (by kernel_rfl) (by kernel_rfl) (by decide) rfl c_hnum_Bytes L_hnum_Bytes R_hnum_Bytes
    (by intro x hx; cases hx) (by intro k x hx; cases hx) (by intro x hx; cases hx) (by intro k x hx; cases hx) (fun d out h => ⟨0, (q_hnum_Bytes_m 0 d).trans h⟩)

/- horologe/horologeref03.Number -/
@[reducible] def pi_ref03_Number : PSh := ⟨[], [.mk false [.v (.int .u64)], .mk false [.v (.int .i64)]]⟩
@[reducible] def po_ref03_Number : PSh := ⟨[.row 5 (.int .u8)], [.mk false [.osl 0]]⟩
@[reducible] def TT_ref03_Number : Type := (((((List Int) × Unit) × ((Int × Unit) × (Unit × ((Int × Unit) × Unit)))) → Option (((List Int) × Unit) × (Unit × Unit))) × Unit)
@[reducible] def sh_ref03_Number_4 : PSh := ⟨[.row 5 (.int .u8)], [.mk false [.v (.int .u64)], .any, .any, .any, .any, .mk false [.osl 0], .mk false [.v (.int .i64)], .any, .any, .any, .any, .any, .any, .any, .any, .any, .any, .any, .any, .any, .any, .any, .any, .any]⟩
def f_ref03_Number_p4 (T : TT_ref03_Number) (d : ((List Int) × Unit) × ((Int × Unit) × (Unit × ((Int × Unit) × Unit)))) : Option (((List Int) × Unit) × (Unit × Unit)) :=
  let x3 : Bool := (decide (d.2.2.2.1.1 ≥ (0 : Int)))
  bif x3 then (
  let x4 : Int := (Int.tmod d.2.1.1 (256 : Int))
  let x5 : Int := (iconv .u8 x4)
  bif decide ((0 : Int) ≤ d.2.2.2.1.1) && decide (d.2.2.2.1.1 < (d.1.1.length : Int)) then (
  let x6 : (List Int) := (List.set d.1.1 (Int.toNat d.2.2.2.1.1) x5)
  let x7 : Int := (iquo .u64 d.2.1.1 (256 : Int))
  let x8 : Int := (isub .i64 d.2.2.2.1.1 (1 : Int))
  (T.1 ((x6, ()), ((x7, ()), ((), ((x8, ()), ()))))))
  else none)
  else (
  some ((d.1.1, ()), ((), ())))
def f_ref03_Number_t : Nat → TT_ref03_Number
  | 0 => (fun _ => none, ())
  | k + 1 => (f_ref03_Number_p4 (f_ref03_Number_t k), ())
theorem t_ref03_Number (k : Nat) : f_ref03_Number_t (k + 1) = (f_ref03_Number_p4 (f_ref03_Number_t k), ()) := rfl
def f_ref03_Number_m (T : TT_ref03_Number) (d : Unit × ((Int × Unit) × ((Int × Unit) × Unit))) : Option (((List Int) × Unit) × (Unit × Unit)) :=
  bif decide ((0 : Int) ≤ d.2.2.1.1) && decide (d.2.2.1.1 ≤ d.2.2.1.1) && decide (d.2.2.1.1 * (1 : Int) ≤ 140737488355328) && decide (d.2.2.1.1 ≤ 9223372036854775807) then (
  let x1 : (List Int) := (List.replicate (Int.toNat d.2.2.1.1) (0 : Int))
  let x2 : Int := (isub .i64 d.2.2.1.1 (1 : Int))
  (T.1 ((x1, ()), ((d.2.1.1, ()), ((), ((x2, ()), ()))))))
  else none
def c_ref03_Number : List Nat := []
def L_ref03_Number (k : Nat) : Pts po_ref03_Number.den := [(4, ⟨sh_ref03_Number_4, (f_ref03_Number_t k).1⟩)]
def R_ref03_Number (_ : Nat) : PtsR po_ref03_Number.den := []
def E_ref03_Number : Env := E0
theorem q_ref03_Number_4 (k : Nat) (d : ((List Int) × Unit) × ((Int × Unit) × (Unit × ((Int × Unit) × Unit)))) : evAt E_ref03_Number (tb (L_ref03_Number k) (R_ref03_Number k)) c_ref03_Number 4 (bodyOf Try.f35) 0 (finK E_ref03_Number po_ref03_Number [.tmp 4]) (ptSt sh_ref03_Number_4 d) = f_ref03_Number_p4 (f_ref03_Number_t k) d := by kernel_rfl
theorem q_ref03_Number_m (k : Nat) (d : Unit × ((Int × Unit) × ((Int × Unit) × Unit))) : evCode E_ref03_Number (tb (L_ref03_Number k) (R_ref03_Number k)) c_ref03_Number (bodyOf Try.f35) 0 (finK E_ref03_Number po_ref03_Number [.tmp 4]) (startSt pi_ref03_Number 24 d) = f_ref03_Number_m (f_ref03_Number_t k) d := by kernel_rfl
theorem go_ref03_Number (F : Unit × ((Int × Unit) × ((Int × Unit) × Unit)) → Option (((List Int) × Unit) × (Unit × Unit))) (hF : ∀ d out, F d = some out → ∃ k, f_ref03_Number_m (f_ref03_Number_t k) d = some out) : FnOk Try.prog ET0 35 pi_ref03_Number po_ref03_Number F :=
  fn_of_body (E := E_ref03_Number) e0_ok (fn := Try.f35) Try.func35 (by kernel_rfl) (by kernel_rfl) [.tmp 4] (by kernel_rfl) (by kernel_rfl) (by decide) rfl c_ref03_Number L_ref03_Number R_ref03_Number
    (by intro x hx d; simp only [L_ref03_Number, List.mem_cons, List.not_mem_nil, or_false] at hx; subst hx; rfl)
    (by intro k x hx d out h; simp only [L_ref03_Number, List.mem_cons, List.not_mem_nil, or_false] at hx; subst hx; exact (q_ref03_Number_4 k d).trans h)
    (by intro x hx; cases hx)
    (by intro k x hx; cases hx)
    (by intro d out h; obtain ⟨k, hk⟩ := hF d out h; exact ⟨k, (q_ref03_Number_m k d).trans hk⟩)
def g_ref03_Number (d : Unit × ((Int × Unit) × ((Int × Unit) × Unit))) : Option (((List Int) × Unit) × (Unit × Unit)) := lim fun k => f_ref03_Number_m (f_ref03_Number_t k) d
theorem ok_ref03_Number : FnOk Try.prog ET0 35 pi_ref03_Number po_ref03_Number g_ref03_Number := go_ref03_Number g_ref03_Number fun d out h => lim_some h

/- horologe/horologeref28.Put -/
@[reducible] def pi_ref28_Put : PSh := ⟨[], [.mk true [.v (.int .i64), .v (.int .i64), .v (.int .i64), .v (.int .i64), .v (.int .i64), .v (.int .i64), .v (.int .u64), .v (.int .u64), .v (.int .u8), .v (.int .u8), .v (.int .u8), .v (.int .u8), .v (.int .u64), .v (.int .u64), .v (.int .u64), .v (.int .u64)]]⟩
@[reducible] def po_ref28_Put : PSh := ⟨[.row 5 (.int .u8)], [.mk false [.osl 0]]⟩
@[reducible] def TT_ref28_Put : Type := (((((List Int) × ((List Int) × Unit)) × (Unit × (Unit × ((Int × Unit) × ((Int × Unit) × Unit))))) → Option (((List Int) × Unit) × (Unit × Unit))) × Unit)
@[reducible] def sh_ref28_Put_7 : PSh := ⟨[.row 5 (.int .u8), .row 39 (.int .u64)], [.any, .any, .any, .mk false [.osl 0], .any, .any, .any, .any, .any, .any, .any, .any, .any, .any, .any, .any, .any, .any, .any, .any, .any, .any, .any, .any, .any, .any, .any, .any, .any, .any, .any, .any, .any, .any, .any, .any, .any, .any, .any, .any, .any, .any, .any, .any, .any, .any, .any, .any, .any, .mk false [.osl 1], .mk false [.v (.int .i64)], .mk false [.v (.int .i64)], .any, .any, .any, .any, .any, .any, .any, .any, .any]⟩
def f_ref28_Put_p7 (T : TT_ref28_Put) (d : ((List Int) × ((List Int) × Unit)) × (Unit × (Unit × ((Int × Unit) × ((Int × Unit) × Unit))))) : Option (((List Int) × Unit) × (Unit × Unit)) :=
  let x19 : Bool := (decide (d.2.2.2.2.1.1 < d.2.2.2.1.1))
  bif x19 then (
  bif decide ((0 : Int) ≤ d.2.2.2.2.1.1) && decide (d.2.2.2.2.1.1 < (d.1.2.1.length : Int)) then (
  (g_ref03_Number ((), (((gd (.int .u64) d.1.2.1 d.2.2.2.2.1.1), ()), (((8 : Int), ()), ())))).bind fun x20 =>
  bif decide (((d.1.1.length + x20.1.1.length) * 1 : Nat) ≤ 140737488355328) && decide (d.1.1.length + x20.1.1.length ≤ 9223372036854775807) then (
  let x21 : (List Int) := (d.1.1 ++ x20.1.1)
  let x22 : Int := (iadd .i64 d.2.2.2.2.1.1 (1 : Int))
  (T.1 ((x21, (d.1.2.1, ())), ((), ((), ((d.2.2.2.1.1, ()), ((x22, ()), ())))))))
  else none)
  else none)
  else (
  some ((d.1.1, ()), ((), ())))
def f_ref28_Put_t : Nat → TT_ref28_Put
  | 0 => (fun _ => none, ())
  | k + 1 => (f_ref28_Put_p7 (f_ref28_Put_t k), ())
theorem t_ref28_Put (k : Nat) : f_ref28_Put_t (k + 1) = (f_ref28_Put_p7 (f_ref28_Put_t k), ()) := rfl
def f_ref28_Put_m (T : TT_ref28_Put) (d : Unit × ((Int × (Int × (Int × (Int × (Int × (Int × (Int × (Int × (Int × (Int × (Int × (Int × (Int × (Int × (Int × (Int × Unit)))))))))))))))) × Unit)) : Option (((List Int) × Unit) × (Unit × Unit)) :=
  let x1 : Int := (imul .i64 d.2.1.1 (64 : Int))
  let x2 : Int := (imul .i64 d.2.1.2.1 (8 : Int))
  let x3 : Int := (iadd .i64 x1 x2)
  let x4 : Int := (iadd .i64 x3 d.2.1.2.2.1)
  let x5 : Int := (iconv .u8 x4)
  let x6 : Int := (iconv .u8 d.2.1.2.2.2.1)
  let x7 : Int := (iconv .u8 d.2.1.2.2.2.2.1)
  let x8 : Int := (iconv .u8 d.2.1.2.2.2.2.2.1)
  let x9 : (List Int) := ([x5, x6, x7, x8] : List Int)
  (g_ref03_Number ((), ((d.2.1.2.2.2.2.2.2.1, ()), (((4 : Int), ()), ())))).bind fun x10 =>
  bif decide (((x9.length + x10.1.1.length) * 1 : Nat) ≤ 140737488355328) && decide (x9.length + x10.1.1.length ≤ 9223372036854775807) then (
  let x11 : (List Int) := (x9 ++ x10.1.1)
  (g_ref03_Number ((), ((d.2.1.2.2.2.2.2.2.2.1, ()), (((4 : Int), ()), ())))).bind fun x12 =>
  bif decide (((x11.length + x12.1.1.length) * 1 : Nat) ≤ 140737488355328) && decide (x11.length + x12.1.1.length ≤ 9223372036854775807) then (
  let x13 : (List Int) := (x11 ++ x12.1.1)
  let x14 : (Int × (Int × (Int × (Int × (Int × (Int × (Int × (Int × ((Int × (Int × (Int × Int))) × (Int × (Int × (Int × Int)))))))))))) := (d.2.1.1, (d.2.1.2.1, (d.2.1.2.2.1, (d.2.1.2.2.2.1, (d.2.1.2.2.2.2.1, (d.2.1.2.2.2.2.2.1, (d.2.1.2.2.2.2.2.2.1, (d.2.1.2.2.2.2.2.2.2.1, ((d.2.1.2.2.2.2.2.2.2.2.1, (d.2.1.2.2.2.2.2.2.2.2.2.1, (d.2.1.2.2.2.2.2.2.2.2.2.2.1, d.2.1.2.2.2.2.2.2.2.2.2.2.2.1))), (d.2.1.2.2.2.2.2.2.2.2.2.2.2.2.1, (d.2.1.2.2.2.2.2.2.2.2.2.2.2.2.2.1, (d.2.1.2.2.2.2.2.2.2.2.2.2.2.2.2.2.1, d.2.1.2.2.2.2.2.2.2.2.2.2.2.2.2.2.2.1))))))))))))
  let x15 : (List Int) := ([x14.2.2.2.2.2.2.2.2.1.1, x14.2.2.2.2.2.2.2.2.1.2.1, x14.2.2.2.2.2.2.2.2.1.2.2.1, x14.2.2.2.2.2.2.2.2.1.2.2.2] : List Int)
  bif decide (((x13.length + x15.length) * 1 : Nat) ≤ 140737488355328) && decide (x13.length + x15.length ≤ 9223372036854775807) then (
  let x16 : (List Int) := (x13 ++ x15)
  let x17 : (List Int) := ([x14.2.2.2.2.2.2.2.2.2.1, x14.2.2.2.2.2.2.2.2.2.2.1, x14.2.2.2.2.2.2.2.2.2.2.2.1, x14.2.2.2.2.2.2.2.2.2.2.2.2] : List Int)
  let x18 : Int := (x17.length : Int)
  (T.1 ((x16, (x17, ())), ((), ((), ((x18, ()), (((0 : Int), ()), ())))))))
  else none)
  else none)
  else none
def c_ref28_Put : List Nat := []
def L_ref28_Put (k : Nat) : Pts po_ref28_Put.den := [(7, ⟨sh_ref28_Put_7, (f_ref28_Put_t k).1⟩)]
def R_ref28_Put (_ : Nat) : PtsR po_ref28_Put.den := []
def E_ref28_Put : Env := ((E0.add 35 (typedSem pi_ref03_Number po_ref03_Number g_ref03_Number)).fr [(39, [38])])
theorem q_ref28_Put_7 (k : Nat) (d : ((List Int) × ((List Int) × Unit)) × (Unit × (Unit × ((Int × Unit) × ((Int × Unit) × Unit))))) : evAt E_ref28_Put (tb (L_ref28_Put k) (R_ref28_Put k)) c_ref28_Put 7 (bodyOf Try.f18) 0 (finK E_ref28_Put po_ref28_Put [.tmp 2]) (ptSt sh_ref28_Put_7 d) = f_ref28_Put_p7 (f_ref28_Put_t k) d := by kernel_rfl
theorem q_ref28_Put_m (k : Nat) (d : Unit × ((Int × (Int × (Int × (Int × (Int × (Int × (Int × (Int × (Int × (Int × (Int × (Int × (Int × (Int × (Int × (Int × Unit)))))))))))))))) × Unit)) : evCode E_ref28_Put (tb (L_ref28_Put k) (R_ref28_Put k)) c_ref28_Put (bodyOf Try.f18) 0 (finK E_ref28_Put po_ref28_Put [.tmp 2]) (startSt pi_ref28_Put 61 d) = f_ref28_Put_m (f_ref28_Put_t k) d := by kernel_rfl
theorem go_ref28_Put (F : Unit × ((Int × (Int × (Int × (Int × (Int × (Int × (Int × (Int × (Int × (Int × (Int × (Int × (Int × (Int × (Int × (Int × Unit)))))))))))))))) × Unit) → Option (((List Int) × Unit) × (Unit × Unit))) (hF : ∀ d out, F d = some out → ∃ k, f_ref28_Put_m (f_ref28_Put_t k) d = some out) : FnOk Try.prog ET0 18 pi_ref28_Put po_ref28_Put F :=
  fn_of_body (E := E_ref28_Put) (envOk_fr (envOk_add e0_ok (typed_ok ok_ref03_Number))) (fn := Try.f18) Try.func18 (by kernel_rfl) (by kernel_rfl) [.tmp 2] (by kernel_rfl) (by kernel_rfl) (by decide) rfl c_ref28_Put L_ref28_Put R_ref28_Put
    (by intro x hx d; simp only [L_ref28_Put, List.mem_cons, List.not_mem_nil, or_false] at hx; subst hx; rfl)
    (by intro k x hx d out h; simp only [L_ref28_Put, List.mem_cons, List.not_mem_nil, or_false] at hx; subst hx; exact (q_ref28_Put_7 k d).trans h)
    (by intro x hx; cases hx)
    (by intro k x hx; cases hx)
    (by intro d out h; obtain ⟨k, hk⟩ := hF d out h; exact ⟨k, (q_ref28_Put_m k d).trans hk⟩)
def g_ref28_Put (d : Unit × ((Int × (Int × (Int × (Int × (Int × (Int × (Int × (Int × (Int × (Int × (Int × (Int × (Int × (Int × (Int × (Int × Unit)))))))))))))))) × Unit)) : Option (((List Int) × Unit) × (Unit × Unit)) := lim fun k => f_ref28_Put_m (f_ref28_Put_t k) d
theorem ok_ref28_Put : FnOk Try.prog ET0 18 pi_ref28_Put po_ref28_Put g_ref28_Put := go_ref28_Put g_ref28_Put fun d out h => lim_some h

/- horologe/horologelaw28.HeadPuts -/
@[reducible] def pi_law28_HeadPuts : PSh := ⟨[], [.mk true [.v (.int .i64), .v (.int .i64), .v (.int .i64), .v (.int .u8), .v (.int .i8), .v (.int .i8), .v (.int .u16), .v (.int .u16), .v (.int .u16), .v (.int .u16), .v (.int .u8), .v (.int .u8), .v (.int .u8), .v (.int .u8), .v (.int .u32), .v (.int .u32), .v (.int .u32), .v (.int .u32), .v (.int .u32), .v (.int .u32), .v (.int .u32), .v (.int .u32)]]⟩
@[reducible] def po_law28_HeadPuts : PSh := ⟨[], [.mk false [.v .bool]]⟩
def f_law28_HeadPuts_m (T : Unit) (d : Unit × ((Int × (Int × (Int × (Int × (Int × (Int × (Int × (Int × (Int × (Int × (Int × (Int × (Int × (Int × (Int × (Int × (Int × (Int × (Int × (Int × (Int × (Int × Unit)))))))))))))))))))))) × Unit)) : Option (Unit × ((Bool × Unit) × Unit)) :=
  (g_law28_alive ((), ())).bind fun x1 =>
  let x2 : Bool := (!x1.2.1.1)
  bif x2 then (
  some ((), ((false, ()), ())))
  else (
  (g_head_Put ((), ((d.2.1.1, (d.2.1.2.1, (d.2.1.2.2.1, (d.2.1.2.2.2.1, (d.2.1.2.2.2.2.1, (d.2.1.2.2.2.2.2.1, (d.2.1.2.2.2.2.2.2.1, (d.2.1.2.2.2.2.2.2.2.1, (d.2.1.2.2.2.2.2.2.2.2.1, (d.2.1.2.2.2.2.2.2.2.2.2.1, (d.2.1.2.2.2.2.2.2.2.2.2.2.1, (d.2.1.2.2.2.2.2.2.2.2.2.2.2.1, (d.2.1.2.2.2.2.2.2.2.2.2.2.2.2.1, (d.2.1.2.2.2.2.2.2.2.2.2.2.2.2.2.1, (d.2.1.2.2.2.2.2.2.2.2.2.2.2.2.2.2.1, (d.2.1.2.2.2.2.2.2.2.2.2.2.2.2.2.2.2.1, (d.2.1.2.2.2.2.2.2.2.2.2.2.2.2.2.2.2.2.1, (d.2.1.2.2.2.2.2.2.2.2.2.2.2.2.2.2.2.2.2.1, (d.2.1.2.2.2.2.2.2.2.2.2.2.2.2.2.2.2.2.2.2.1, (d.2.1.2.2.2.2.2.2.2.2.2.2.2.2.2.2.2.2.2.2.2.1, (d.2.1.2.2.2.2.2.2.2.2.2.2.2.2.2.2.2.2.2.2.2.2.1, (d.2.1.2.2.2.2.2.2.2.2.2.2.2.2.2.2.2.2.2.2.2.2.2.1, ())))))))))))))))))))))), ()))).bind fun x3 =>
  (g_law28_Document ((), ((d.2.1.1, (d.2.1.2.1, (d.2.1.2.2.1, (d.2.1.2.2.2.1, (d.2.1.2.2.2.2.1, (d.2.1.2.2.2.2.2.1, (d.2.1.2.2.2.2.2.2.1, (d.2.1.2.2.2.2.2.2.2.1, (d.2.1.2.2.2.2.2.2.2.2.1, (d.2.1.2.2.2.2.2.2.2.2.2.1, (d.2.1.2.2.2.2.2.2.2.2.2.2.1, (d.2.1.2.2.2.2.2.2.2.2.2.2.2.1, (d.2.1.2.2.2.2.2.2.2.2.2.2.2.2.1, (d.2.1.2.2.2.2.2.2.2.2.2.2.2.2.2.1, (d.2.1.2.2.2.2.2.2.2.2.2.2.2.2.2.2.1, (d.2.1.2.2.2.2.2.2.2.2.2.2.2.2.2.2.2.1, (d.2.1.2.2.2.2.2.2.2.2.2.2.2.2.2.2.2.2.1, (d.2.1.2.2.2.2.2.2.2.2.2.2.2.2.2.2.2.2.2.1, (d.2.1.2.2.2.2.2.2.2.2.2.2.2.2.2.2.2.2.2.2.1, (d.2.1.2.2.2.2.2.2.2.2.2.2.2.2.2.2.2.2.2.2.2.1, (d.2.1.2.2.2.2.2.2.2.2.2.2.2.2.2.2.2.2.2.2.2.2.1, (d.2.1.2.2.2.2.2.2.2.2.2.2.2.2.2.2.2.2.2.2.2.2.2.1, ())))))))))))))))))))))), ()))).bind fun x4 =>
  (g_ref28_Check ((), ((x4.2.1.1, (x4.2.1.2.1, (x4.2.1.2.2.1, (x4.2.1.2.2.2.1, (x4.2.1.2.2.2.2.1, (x4.2.1.2.2.2.2.2.1, (x4.2.1.2.2.2.2.2.2.1, (x4.2.1.2.2.2.2.2.2.2.1, (x4.2.1.2.2.2.2.2.2.2.2.1, (x4.2.1.2.2.2.2.2.2.2.2.2.1, (x4.2.1.2.2.2.2.2.2.2.2.2.2.1, (x4.2.1.2.2.2.2.2.2.2.2.2.2.2.1, (x4.2.1.2.2.2.2.2.2.2.2.2.2.2.2.1, (x4.2.1.2.2.2.2.2.2.2.2.2.2.2.2.2.1, (x4.2.1.2.2.2.2.2.2.2.2.2.2.2.2.2.2.1, (x4.2.1.2.2.2.2.2.2.2.2.2.2.2.2.2.2.2.1, ())))))))))))))))), ()))).bind fun x5 =>
  (g_head_Check ((), ((d.2.1.1, (d.2.1.2.1, (d.2.1.2.2.1, (d.2.1.2.2.2.1, (d.2.1.2.2.2.2.1, (d.2.1.2.2.2.2.2.1, (d.2.1.2.2.2.2.2.2.1, (d.2.1.2.2.2.2.2.2.2.1, (d.2.1.2.2.2.2.2.2.2.2.1, (d.2.1.2.2.2.2.2.2.2.2.2.1, (d.2.1.2.2.2.2.2.2.2.2.2.2.1, (d.2.1.2.2.2.2.2.2.2.2.2.2.2.1, (d.2.1.2.2.2.2.2.2.2.2.2.2.2.2.1, (d.2.1.2.2.2.2.2.2.2.2.2.2.2.2.2.1, (d.2.1.2.2.2.2.2.2.2.2.2.2.2.2.2.2.1, (d.2.1.2.2.2.2.2.2.2.2.2.2.2.2.2.2.2.1, (d.2.1.2.2.2.2.2.2.2.2.2.2.2.2.2.2.2.2.1, (d.2.1.2.2.2.2.2.2.2.2.2.2.2.2.2.2.2.2.2.1, (d.2.1.2.2.2.2.2.2.2.2.2.2.2.2.2.2.2.2.2.2.1, (d.2.1.2.2.2.2.2.2.2.2.2.2.2.2.2.2.2.2.2.2.2.1, (d.2.1.2.2.2.2.2.2.2.2.2.2.2.2.2.2.2.2.2.2.2.2.1, (d.2.1.2.2.2.2.2.2.2.2.2.2.2.2.2.2.2.2.2.2.2.2.2.1, ())))))))))))))))))))))), ()))).bind fun x6 =>
  (g_hnum_Num ((), ((x6.2.1.1, ()), ()))).bind fun x7 =>
  let x8 : Bool := (x7.2.1.1 != x5.2.1.1)
  bif x8 then (
  some ((), ((false, ()), ())))
  else (
  (g_hnum_Num ((), ((x3.2.2.1.1, ()), ()))).bind fun x9 =>
  let x10 : Bool := (x9.2.1.1 != x5.2.1.1)
  bif x10 then (
  some ((), ((false, ()), ())))
  else (
  let x11 : Bool := (x5.2.1.1 != (0 : Int))
  bif x11 then (
  let x12 : Int := (x3.1.1.length : Int)
  let x13 : Bool := (x12 == (0 : Int))
  some ((), ((x13, ()), ())))
  else (
  (g_law28_Document ((), ((d.2.1.1, (d.2.1.2.1, (d.2.1.2.2.1, (d.2.1.2.2.2.1, (d.2.1.2.2.2.2.1, (d.2.1.2.2.2.2.2.1, (d.2.1.2.2.2.2.2.2.1, (d.2.1.2.2.2.2.2.2.2.1, (d.2.1.2.2.2.2.2.2.2.2.1, (d.2.1.2.2.2.2.2.2.2.2.2.1, (d.2.1.2.2.2.2.2.2.2.2.2.2.1, (d.2.1.2.2.2.2.2.2.2.2.2.2.2.1, (d.2.1.2.2.2.2.2.2.2.2.2.2.2.2.1, (d.2.1.2.2.2.2.2.2.2.2.2.2.2.2.2.1, (d.2.1.2.2.2.2.2.2.2.2.2.2.2.2.2.2.1, (d.2.1.2.2.2.2.2.2.2.2.2.2.2.2.2.2.2.1, (d.2.1.2.2.2.2.2.2.2.2.2.2.2.2.2.2.2.2.1, (d.2.1.2.2.2.2.2.2.2.2.2.2.2.2.2.2.2.2.2.1, (d.2.1.2.2.2.2.2.2.2.2.2.2.2.2.2.2.2.2.2.2.1, (d.2.1.2.2.2.2.2.2.2.2.2.2.2.2.2.2.2.2.2.2.2.1, (d.2.1.2.2.2.2.2.2.2.2.2.2.2.2.2.2.2.2.2.2.2.2.1, (d.2.1.2.2.2.2.2.2.2.2.2.2.2.2.2.2.2.2.2.2.2.2.2.1, ())))))))))))))))))))))), ()))).bind fun x14 =>
  (g_ref28_Put ((), ((x14.2.1.1, (x14.2.1.2.1, (x14.2.1.2.2.1, (x14.2.1.2.2.2.1, (x14.2.1.2.2.2.2.1, (x14.2.1.2.2.2.2.2.1, (x14.2.1.2.2.2.2.2.2.1, (x14.2.1.2.2.2.2.2.2.2.1, (x14.2.1.2.2.2.2.2.2.2.2.1, (x14.2.1.2.2.2.2.2.2.2.2.2.1, (x14.2.1.2.2.2.2.2.2.2.2.2.2.1, (x14.2.1.2.2.2.2.2.2.2.2.2.2.2.1, (x14.2.1.2.2.2.2.2.2.2.2.2.2.2.2.1, (x14.2.1.2.2.2.2.2.2.2.2.2.2.2.2.2.1, (x14.2.1.2.2.2.2.2.2.2.2.2.2.2.2.2.2.1, (x14.2.1.2.2.2.2.2.2.2.2.2.2.2.2.2.2.2.1, ())))))))))))))))), ()))).bind fun x15 =>
  (g_hnum_Bytes ((), ((x3.1.1, ()), ((x15.1.1, ()), ())))).bind fun x16 =>
  some ((), ((x16.2.1.1, ()), ()))))))
def c_law28_HeadPuts : List Nat := []
def L_law28_HeadPuts (_ : Nat) : Pts po_law28_HeadPuts.den := []
def R_law28_HeadPuts (_ : Nat) : PtsR po_law28_HeadPuts.den := []
def E_law28_HeadPuts : Env := ((((((((E0.add 11 (typedSem pi_law28_alive po_law28_alive g_law28_alive)).add 12 (typedSem pi_head_Put po_head_Put g_head_Put)).add 13 (typedSem pi_ref28_Check po_ref28_Check g_ref28_Check)).add 14 (typedSem pi_law28_Document po_law28_Document g_law28_Document)).add 15 (typedSem pi_hnum_Num po_hnum_Num g_hnum_Num)).add 16 (typedSem pi_head_Check po_head_Check g_head_Check)).add 17 (typedSem pi_hnum_Bytes po_hnum_Bytes g_hnum_Bytes)).add 18 (typedSem pi_ref28_Put po_ref28_Put g_ref28_Put))
theorem q_law28_HeadPuts_m (k : Nat) (d : Unit × ((Int × (Int × (Int × (Int × (Int × (Int × (Int × (Int × (Int × (Int × (Int × (Int × (Int × (Int × (Int × (Int × (Int × (Int × (Int × (Int × (Int × (Int × Unit)))))))))))))))))))))) × Unit)) : evCode E_law28_HeadPuts (tb (L_law28_HeadPuts k) (R_law28_HeadPuts k)) c_law28_HeadPuts (bodyOf Try.f3) 0 (finK E_law28_HeadPuts po_law28_HeadPuts [.tmp 2]) (startSt pi_law28_HeadPuts 37 d) = f_law28_HeadPuts_m () d := by kernel_rfl
def g_law28_HeadPuts (d : Unit × ((Int × (Int × (Int × (Int × (Int × (Int × (Int × (Int × (Int × (Int × (Int × (Int × (Int × (Int × (Int × (Int × (Int × (Int × (Int × (Int × (Int × (Int × Unit)))))))))))))))))))))) × Unit)) : Option (Unit × ((Bool × Unit) × Unit)) := f_law28_HeadPuts_m () d
theorem ok_law28_HeadPuts : FnOk Try.prog ET0 3 pi_law28_HeadPuts po_law28_HeadPuts g_law28_HeadPuts :=
  fn_of_body (E := E_law28_HeadPuts) (envOk_add (envOk_add (envOk_add (envOk_add (envOk_add (envOk_add (envOk_add (envOk_add e0_ok (typed_ok ok_law28_alive)) (typed_ok ok_head_Put)) (typed_ok ok_ref28_Check)) (typed_ok ok_law28_Document)) (typed_ok ok_hnum_Num)) (typed_ok ok_head_Check)) (typed_ok ok_hnum_Bytes)) (typed_ok ok_ref28_Put)) (fn := Try.f3) Try.func3 (by kernel_rfl) (by kernel_rfl) [.tmp 2] (by kernel_rfl) (by kernel_rfl) (by decide) rfl c_law28_HeadPuts L_law28_HeadPuts R_law28_HeadPuts
    (by intro x hx; cases hx) (by intro k x hx; cases hx) (by intro x hx; cases hx) (by intro k x hx; cases hx) (fun d out h => ⟨0, (q_law28_HeadPuts_m 0 d).trans h⟩)

/- horologe/octets.Size[uint64] -/
@[reducible] def pi_octets_Size_u64 : PSh := ⟨[], []⟩
@[reducible] def po_octets_Size_u64 : PSh := ⟨[], [.mk false [.v (.int .i64)]]⟩
@[reducible] def TT_octets_Size_u64 : Type := (((Unit × ((Int × Unit) × ((Int × Unit) × Unit))) → Option (Unit × ((Int × Unit) × Unit))) × Unit)
@[reducible] def sh_octets_Size_u64_4 : PSh := ⟨[], [.any, .mk false [.v (.int .i64)], .mk false [.v (.int .u64)], .any, .any, .any, .any, .any, .any, .any, .any, .any]⟩
def f_octets_Size_u64_p4 (T : TT_octets_Size_u64) (d : Unit × ((Int × Unit) × ((Int × Unit) × Unit))) : Option (Unit × ((Int × Unit) × Unit)) :=
  let x3 : Bool := (decide (d.2.2.1.1 > (0 : Int)))
  bif x3 then (
  let x4 : Int := (iadd .i64 d.2.1.1 (1 : Int))
  let x5 : Int := (ishr .u64 d.2.2.1.1 (8 : Int))
  (T.1 ((), ((x4, ()), ((x5, ()), ())))))
  else (
  some ((), ((d.2.1.1, ()), ())))
def f_octets_Size_u64_t : Nat → TT_octets_Size_u64
  | 0 => (fun _ => none, ())
  | k + 1 => (f_octets_Size_u64_p4 (f_octets_Size_u64_t k), ())
theorem t_octets_Size_u64 (k : Nat) : f_octets_Size_u64_t (k + 1) = (f_octets_Size_u64_p4 (f_octets_Size_u64_t k), ()) := rfl
def f_octets_Size_u64_m (T : TT_octets_Size_u64) (d : Unit × Unit) : Option (Unit × ((Int × Unit) × Unit)) :=
  let x1 : Int := (iconv .u64 (0 : Int))
  let x2 : Int := (inot .u64 x1)
  (T.1 ((), (((0 : Int), ()), ((x2, ()), ()))))
def c_octets_Size_u64 : List Nat := []
def L_octets_Size_u64 (k : Nat) : Pts po_octets_Size_u64.den := [(4, ⟨sh_octets_Size_u64_4, (f_octets_Size_u64_t k).1⟩)]
def R_octets_Size_u64 (_ : Nat) : PtsR po_octets_Size_u64.den := []
def E_octets_Size_u64 : Env := E0
theorem q_octets_Size_u64_4 (k : Nat) (d : Unit × ((Int × Unit) × ((Int × Unit) × Unit))) : evAt E_octets_Size_u64 (tb (L_octets_Size_u64 k) (R_octets_Size_u64 k)) c_octets_Size_u64 4 (bodyOf Try.f59) 0 (finK E_octets_Size_u64 po_octets_Size_u64 [.tmp 0]) (ptSt sh_octets_Size_u64_4 d) = f_octets_Size_u64_p4 (f_octets_Size_u64_t k) d := by kernel_rfl
theorem q_octets_Size_u64_m (k : Nat) (d : Unit × Unit) : evCode E_octets_Size_u64 (tb (L_octets_Size_u64 k) (R_octets_Size_u64 k)) c_octets_Size_u64 (bodyOf Try.f59) 0 (finK E_octets_Size_u64 po_octets_Size_u64 [.tmp 0]) (startSt pi_octets_Size_u64 12 d) = f_octets_Size_u64_m (f_octets_Size_u64_t k) d := by kernel_rfl
theorem go_octets_Size_u64 (F : Unit × Unit → Option (Unit × ((Int × Unit) × Unit))) (hF : ∀ d out, F d = some out → ∃ k, f_octets_Size_u64_m (f_octets_Size_u64_t k) d = some out) : FnOk Try.prog ET0 59 pi_octets_Size_u64 po_octets_Size_u64 F :=
  fn_of_body (E := E_octets_Size_u64) e0_ok (fn := Try.f59) Try.func59 (by kernel_rfl) (by kernel_rfl) [.tmp 0] (by kernel_rfl) (by kernel_rfl) (by decide) rfl c_octets_Size_u64 L_octets_Size_u64 R_octets_Size_u64
    (by intro x hx d; simp only [L_octets_Size_u64, List.mem_cons, List.not_mem_nil, or_false] at hx; subst hx; rfl)
    (by intro k x hx d out h; simp only [L_octets_Size_u64, List.mem_cons, List.not_mem_nil, or_false] at hx; subst hx; exact (q_octets_Size_u64_4 k d).trans h)
    (by intro x hx; cases hx)
    (by intro k x hx; cases hx)
    (by intro d out h; obtain ⟨k, hk⟩ := hF d out h; exact ⟨k, (q_octets_Size_u64_m k d).trans hk⟩)
def g_octets_Size_u64 (d : Unit × Unit) : Option (Unit × ((Int × Unit) × Unit)) := lim fun k => f_octets_Size_u64_m (f_octets_Size_u64_t k) d
theorem ok_octets_Size_u64 : FnOk Try.prog ET0 59 pi_octets_Size_u64 po_octets_Size_u64 g_octets_Size_u64 := go_octets_Size_u64 g_octets_Size_u64 fun d out h => lim_some h

/- horologe/horologelaw03.alive -/
@[reducible] def pi_law03_alive : PSh := ⟨[], []⟩
@[reducible] def po_law03_alive : PSh := ⟨[], [.mk false [.v .bool]]⟩
def f_law03_alive_m (T : Unit) (d : Unit × Unit) : Option (Unit × ((Bool × Unit) × Unit)) :=
  let x1 : (List Int) := ([(258 : Int)] : List Int)
  (g_octets_Put_u16 ((), ((([] : List Int), ()), ((x1, ()), ())))).bind fun x2 =>
  let x3 : Int := (x2.1.1.length : Int)
  let x4 : Bool := (x3 == (2 : Int))
  bif x4 then (
  bif decide ((0 : Int) ≤ (0 : Int)) && decide ((0 : Int) < (x2.1.1.length : Int)) then (
  let x5 : Bool := ((gd (.int .u8) x2.1.1 (0 : Int)) == (1 : Int))
  bif x5 then (
  bif decide ((0 : Int) ≤ (1 : Int)) && decide ((1 : Int) < (x2.1.1.length : Int)) then (
  let x6 : Bool := ((gd (.int .u8) x2.1.1 (1 : Int)) == (2 : Int))
  bif x6 then (
  (g_octets_Size_u64 ((), ())).bind fun x7 =>
  let x8 : Bool := (x7.2.1.1 == (8 : Int))
  some ((), ((x8, ()), ())))
  else (
  some ((), ((false, ()), ()))))
  else none)
  else (
  some ((), ((false, ()), ()))))
  else none)
  else (
  some ((), ((false, ()), ())))
def c_law03_alive : List Nat := []
def L_law03_alive (_ : Nat) : Pts po_law03_alive.den := []
def R_law03_alive (_ : Nat) : PtsR po_law03_alive.den := []
def E_law03_alive : Env := ((E0.add 21 (typedSem pi_octets_Put_u16 po_octets_Put_u16 g_octets_Put_u16)).add 59 (typedSem pi_octets_Size_u64 po_octets_Size_u64 g_octets_Size_u64))
theorem q_law03_alive_m (k : Nat) (d : Unit × Unit) : evCode E_law03_alive (tb (L_law03_alive k) (R_law03_alive k)) c_law03_alive (bodyOf Try.f19) 0 (finK E_law03_alive po_law03_alive [.tmp 0]) (startSt pi_law03_alive 23 d) = f_law03_alive_m () d := by kernel_rfl
def g_law03_alive (d : Unit × Unit) : Option (Unit × ((Bool × Unit) × Unit)) := f_law03_alive_m () d
theorem ok_law03_alive : FnOk Try.prog ET0 19 pi_law03_alive po_law03_alive g_law03_alive :=
  fn_of_body (E := E_law03_alive) (envOk_add (envOk_add e0_ok (typed_ok ok_octets_Put_u16)) (typed_ok ok_octets_Size_u64)) (fn := Try.f19) Try.func19 (by kernel_rfl) (by kernel_rfl) [.tmp 0] (by kernel_rfl) (by kernel_rfl) (by decide) rfl c_law03_alive L_law03_alive R_law03_alive
    (by intro x hx; cases hx) (by intro k x hx; cases hx) (by intro x hx; cases hx) (by intro k x hx; cases hx) (fun d out h => ⟨0, (q_law03_alive_m 0 d).trans h⟩)

/- horologe/octets.Put[uint64] -/
@[reducible] def pi_octets_Put_u64 : PSh := ⟨[], [.mk false [.v (.sl (.int .u8))], .mk false [.v (.sl (.int .u64))]]⟩
@[reducible] def po_octets_Put_u64 : PSh := ⟨[.row 5 (.int .u8)], [.mk false [.osl 0]]⟩
@[reducible] def TT_octets_Put_u64 : Type := (((((List Int) × Unit) × ((Int × Unit) × (Unit × (((List Int) × Unit) × ((Int × Unit) × ((Int × Unit) × Unit)))))) → Option (((List Int) × Unit) × (Unit × Unit))) × (((((List Int) × Unit) × ((Int × Unit) × (Unit × ((Int × Unit) × ((Int × Unit) × (((List Int) × Unit) × ((Int × Unit) × ((Int × Unit) × Unit)))))))) → Option (((List Int) × Unit) × (Unit × Unit))) × Unit))
@[reducible] def sh_octets_Put_u64_5 : PSh := ⟨[.row 5 (.int .u8)], [.any, .any, .any, .any, .any, .mk false [.v (.int .i64)], .mk false [.osl 0], .any, .any, .any, .any, .any, .any, .mk false [.v (.sl (.int .u64))], .mk false [.v (.int .i64)], .mk false [.v (.int .i64)], .any, .any, .any, .any, .any, .any, .any, .any, .any, .any, .any, .any, .any, .any, .any, .any, .any, .any, .any]⟩
@[reducible] def sh_octets_Put_u64_11 : PSh := ⟨[.row 5 (.int .u8)], [.any, .any, .any, .any, .any, .mk false [.v (.int .i64)], .mk false [.osl 0], .any, .mk false [.v (.int .u64)], .mk false [.v (.int .i64)], .any, .any, .any, .mk false [.v (.sl (.int .u64))], .mk false [.v (.int .i64)], .mk false [.v (.int .i64)], .any, .any, .any, .any, .any, .any, .any, .any, .any, .any, .any, .any, .any, .any, .any, .any, .any, .any, .any]⟩
def f_octets_Put_u64_p5 (T : TT_octets_Put_u64) (d : ((List Int) × Unit) × ((Int × Unit) × (Unit × (((List Int) × Unit) × ((Int × Unit) × ((Int × Unit) × Unit)))))) : Option (((List Int) × Unit) × (Unit × Unit)) :=
  let x4 : Bool := (decide (d.2.2.2.2.2.1.1 < d.2.2.2.2.1.1))
  bif x4 then (
  bif decide ((0 : Int) ≤ d.2.2.2.2.2.1.1) && decide (d.2.2.2.2.2.1.1 < (d.2.2.2.1.1.length : Int)) then (
  let x5 : Int := (isub .i64 d.2.1.1 (1 : Int))
  (T.2.1 ((d.1.1, ()), ((d.2.1.1, ()), ((), (((gd (.int .u64) d.2.2.2.1.1 d.2.2.2.2.2.1.1), ()), ((x5, ()), ((d.2.2.2.1.1, ()), ((d.2.2.2.2.1.1, ()), ((d.2.2.2.2.2.1.1, ()), ()))))))))))
  else none)
  else (
  some ((d.1.1, ()), ((), ())))
def f_octets_Put_u64_p11 (T : TT_octets_Put_u64) (d : ((List Int) × Unit) × ((Int × Unit) × (Unit × ((Int × Unit) × ((Int × Unit) × (((List Int) × Unit) × ((Int × Unit) × ((Int × Unit) × Unit)))))))) : Option (((List Int) × Unit) × (Unit × Unit)) :=
  let x6 : Bool := (decide (d.2.2.2.2.1.1 ≥ (0 : Int)))
  bif x6 then (
  let x7 : Int := (imul .i64 (8 : Int) d.2.2.2.2.1.1)
  bif decide (x7 < 0) then (
  none)
  else (
  let x8 : Int := (ishr .u64 d.2.2.2.1.1 x7)
  let x9 : Int := (iconv .u8 x8)
  let x10 : (List Int) := ([x9] : List Int)
  bif decide (((d.1.1.length + x10.length) * 1 : Nat) ≤ 140737488355328) && decide (d.1.1.length + x10.length ≤ 9223372036854775807) then (
  let x11 : (List Int) := (d.1.1 ++ x10)
  let x12 : Int := (isub .i64 d.2.2.2.2.1.1 (1 : Int))
  (T.2.1 ((x11, ()), ((d.2.1.1, ()), ((), ((d.2.2.2.1.1, ()), ((x12, ()), ((d.2.2.2.2.2.1.1, ()), ((d.2.2.2.2.2.2.1.1, ()), ((d.2.2.2.2.2.2.2.1.1, ()), ()))))))))))
  else none))
  else (
  let x13 : Int := (iadd .i64 d.2.2.2.2.2.2.2.1.1 (1 : Int))
  (T.1 ((d.1.1, ()), ((d.2.1.1, ()), ((), ((d.2.2.2.2.2.1.1, ()), ((d.2.2.2.2.2.2.1.1, ()), ((x13, ()), ()))))))))
def f_octets_Put_u64_t : Nat → TT_octets_Put_u64
  | 0 => (fun _ => none, (fun _ => none, ()))
  | k + 1 => (f_octets_Put_u64_p5 (f_octets_Put_u64_t k), (f_octets_Put_u64_p11 (f_octets_Put_u64_t k), ()))
theorem t_octets_Put_u64 (k : Nat) : f_octets_Put_u64_t (k + 1) = (f_octets_Put_u64_p5 (f_octets_Put_u64_t k), (f_octets_Put_u64_p11 (f_octets_Put_u64_t k), ())) := rfl
def f_octets_Put_u64_m (T : TT_octets_Put_u64) (d : Unit × (((List Int) × Unit) × (((List Int) × Unit) × Unit))) : Option (((List Int) × Unit) × (Unit × Unit)) :=
  (g_octets_Size_u64 ((), ())).bind fun x1 =>
  (g_slices_Clone_byte_byte ((), ((d.2.1.1, ()), ()))).bind fun x2 =>
  let x3 : Int := (d.2.2.1.1.length : Int)
  (T.1 ((x2.1.1, ()), ((x1.2.1.1, ()), ((), ((d.2.2.1.1, ()), ((x3, ()), (((0 : Int), ()), ())))))))
def c_octets_Put_u64 : List Nat := []
def L_octets_Put_u64 (k : Nat) : Pts po_octets_Put_u64.den := [(5, ⟨sh_octets_Put_u64_5, (f_octets_Put_u64_t k).1⟩), (11, ⟨sh_octets_Put_u64_11, (f_octets_Put_u64_t k).2.1⟩)]
def R_octets_Put_u64 (_ : Nat) : PtsR po_octets_Put_u64.den := []
def E_octets_Put_u64 : Env := ((E0.add 59 (typedSem pi_octets_Size_u64 po_octets_Size_u64 g_octets_Size_u64)).add 61 (typedSem pi_slices_Clone_byte_byte po_slices_Clone_byte_byte g_slices_Clone_byte_byte))
theorem q_octets_Put_u64_5 (k : Nat) (d : ((List Int) × Unit) × ((Int × Unit) × (Unit × (((List Int) × Unit) × ((Int × Unit) × ((Int × Unit) × Unit)))))) : evAt E_octets_Put_u64 (tb (L_octets_Put_u64 k) (R_octets_Put_u64 k)) c_octets_Put_u64 5 (bodyOf Try.f22) 0 (finK E_octets_Put_u64 po_octets_Put_u64 [.tmp 4]) (ptSt sh_octets_Put_u64_5 d) = f_octets_Put_u64_p5 (f_octets_Put_u64_t k) d := by kernel_rfl
theorem q_octets_Put_u64_11 (k : Nat) (d : ((List Int) × Unit) × ((Int × Unit) × (Unit × ((Int × Unit) × ((Int × Unit) × (((List Int) × Unit) × ((Int × Unit) × ((Int × Unit) × Unit)))))))) : evAt E_octets_Put_u64 (tb (L_octets_Put_u64 k) (R_octets_Put_u64 k)) c_octets_Put_u64 11 (bodyOf Try.f22) 0 (finK E_octets_Put_u64 po_octets_Put_u64 [.tmp 4]) (ptSt sh_octets_Put_u64_11 d) = f_octets_Put_u64_p11 (f_octets_Put_u64_t k) d := by kernel_rfl
theorem q_octets_Put_u64_m (k : Nat) (d : Unit × (((List Int) × Unit) × (((List Int) × Unit) × Unit))) : evCode E_octets_Put_u64 (tb (L_octets_Put_u64 k) (R_octets_Put_u64 k)) c_octets_Put_u64 (bodyOf Try.f22) 0 (finK E_octets_Put_u64 po_octets_Put_u64 [.tmp 4]) (startSt pi_octets_Put_u64 35 d) = f_octets_Put_u64_m (f_octets_Put_u64_t k) d := by kernel_rfl
theorem go_octets_Put_u64 (F : Unit × (((List Int) × Unit) × (((List Int) × Unit) × Unit)) → Option (((List Int) × Unit) × (Unit × Unit))) (hF : ∀ d out, F d = some out → ∃ k, f_octets_Put_u64_m (f_octets_Put_u64_t k) d = some out) : FnOk Try.prog ET0 22 pi_octets_Put_u64 po_octets_Put_u64 F :=
  fn_of_body (E := E_octets_Put_u64) (envOk_add (envOk_add e0_ok (typed_ok ok_octets_Size_u64)) (typed_ok ok_slices_Clone_byte_byte)) (fn := Try.f22) Try.func22 (by kernel_rfl) (by kernel_rfl) [.tmp 4] (by kernel_rfl) (by kernel_rfl) (by decide) rfl c_octets_Put_u64 L_octets_Put_u64 R_octets_Put_u64
    (by intro x hx d; simp only [L_octets_Put_u64, List.mem_cons, List.not_mem_nil, or_false] at hx; rcases hx with rfl | rfl; rfl; rfl)
    (by intro k x hx d out h; simp only [L_octets_Put_u64, List.mem_cons, List.not_mem_nil, or_false] at hx; rcases hx with rfl | rfl; exact (q_octets_Put_u64_5 k d).trans h; exact (q_octets_Put_u64_11 k d).trans h)
    (by intro x hx; cases hx)
    (by intro k x hx; cases hx)
    (by intro d out h; obtain ⟨k, hk⟩ := hF d out h; exact ⟨k, (q_octets_Put_u64_m k d).trans hk⟩)
def g_octets_Put_u64 (d : Unit × (((List Int) × Unit) × (((List Int) × Unit) × Unit))) : Option (((List Int) × Unit) × (Unit × Unit)) := lim fun k => f_octets_Put_u64_m (f_octets_Put_u64_t k) d
theorem ok_octets_Put_u64 : FnOk Try.prog ET0 22 pi_octets_Put_u64 po_octets_Put_u64 g_octets_Put_u64 := go_octets_Put_u64 g_octets_Put_u64 fun d out h => lim_some h

/- horologe/octets.word[uint64] -/
@[reducible] def pi_octets_word_u64 : PSh := ⟨[], [.mk false [.v (.sl (.int .u8))]]⟩
@[reducible] def po_octets_word_u64 : PSh := ⟨[], [.mk false [.v (.int .u64)]]⟩
@[reducible] def TT_octets_word_u64 : Type := (((Unit × ((Int × Unit) × (((List Int) × Unit) × ((Int × Unit) × ((Int × Unit) × Unit))))) → Option (Unit × ((Int × Unit) × Unit))) × Unit)
@[reducible] def sh_octets_word_u64_4 : PSh := ⟨[], [.any, .any, .any, .mk false [.v (.int .u64)], .any, .any, .mk false [.v (.sl (.int .u8))], .mk false [.v (.int .i64)], .mk false [.v (.int .i64)], .any, .any, .any, .any, .any, .any, .any, .any, .any, .any]⟩
def f_octets_word_u64_p4 (T : TT_octets_word_u64) (d : Unit × ((Int × Unit) × (((List Int) × Unit) × ((Int × Unit) × ((Int × Unit) × Unit))))) : Option (Unit × ((Int × Unit) × Unit)) :=
  let x2 : Bool := (decide (d.2.2.2.2.1.1 < d.2.2.2.1.1))
  bif x2 then (
  bif decide ((0 : Int) ≤ d.2.2.2.2.1.1) && decide (d.2.2.2.2.1.1 < (d.2.2.1.1.length : Int)) then (
  let x3 : Int := (ishl .u64 d.2.1.1 (8 : Int))
  let x4 : Int := (iconv .u64 (gd (.int .u8) d.2.2.1.1 d.2.2.2.2.1.1))
  let x5 : Int := (ior .u64 x3 x4)
  let x6 : Int := (iadd .i64 d.2.2.2.2.1.1 (1 : Int))
  (T.1 ((), ((x5, ()), ((d.2.2.1.1, ()), ((d.2.2.2.1.1, ()), ((x6, ()), ())))))))
  else none)
  else (
  some ((), ((d.2.1.1, ()), ())))
def f_octets_word_u64_t : Nat → TT_octets_word_u64
  | 0 => (fun _ => none, ())
  | k + 1 => (f_octets_word_u64_p4 (f_octets_word_u64_t k), ())
theorem t_octets_word_u64 (k : Nat) : f_octets_word_u64_t (k + 1) = (f_octets_word_u64_p4 (f_octets_word_u64_t k), ()) := rfl
def f_octets_word_u64_m (T : TT_octets_word_u64) (d : Unit × (((List Int) × Unit) × Unit)) : Option (Unit × ((Int × Unit) × Unit)) :=
  let x1 : Int := (d.2.1.1.length : Int)
  (T.1 ((), (((0 : Int), ()), ((d.2.1.1, ()), ((x1, ()), (((0 : Int), ()), ()))))))
def c_octets_word_u64 : List Nat := []
def L_octets_word_u64 (k : Nat) : Pts po_octets_word_u64.den := [(4, ⟨sh_octets_word_u64_4, (f_octets_word_u64_t k).1⟩)]
def R_octets_word_u64 (_ : Nat) : PtsR po_octets_word_u64.den := []
def E_octets_word_u64 : Env := E0
theorem q_octets_word_u64_4 (k : Nat) (d : Unit × ((Int × Unit) × (((List Int) × Unit) × ((Int × Unit) × ((Int × Unit) × Unit))))) : evAt E_octets_word_u64 (tb (L_octets_word_u64 k) (R_octets_word_u64 k)) c_octets_word_u64 4 (bodyOf Try.f64) 0 (finK E_octets_word_u64 po_octets_word_u64 [.tmp 2]) (ptSt sh_octets_word_u64_4 d) = f_octets_word_u64_p4 (f_octets_word_u64_t k) d := by kernel_rfl
theorem q_octets_word_u64_m (k : Nat) (d : Unit × (((List Int) × Unit) × Unit)) : evCode E_octets_word_u64 (tb (L_octets_word_u64 k) (R_octets_word_u64 k)) c_octets_word_u64 (bodyOf Try.f64) 0 (finK E_octets_word_u64 po_octets_word_u64 [.tmp 2]) (startSt pi_octets_word_u64 19 d) = f_octets_word_u64_m (f_octets_word_u64_t k) d := by kernel_rfl
theorem go_octets_word_u64 (F : Unit × (((List Int) × Unit) × Unit) → Option (Unit × ((Int × Unit) × Unit))) (hF : ∀ d out, F d = some out → ∃ k, f_octets_word_u64_m (f_octets_word_u64_t k) d = some out) : FnOk Try.prog ET0 64 pi_octets_word_u64 po_octets_word_u64 F :=
  fn_of_body (E := E_octets_word_u64) e0_ok (fn := Try.f64) Try.func64 (by kernel_rfl) (by kernel_rfl) [.tmp 2] (by kernel_rfl) (by kernel_rfl) (by decide) rfl c_octets_word_u64 L_octets_word_u64 R_octets_word_u64
    (by intro x hx d; simp only [L_octets_word_u64, List.mem_cons, List.not_mem_nil, or_false] at hx; subst hx; rfl)
    (by intro k x hx d out h; simp only [L_octets_word_u64, List.mem_cons, List.not_mem_nil, or_false] at hx; subst hx; exact (q_octets_word_u64_4 k d).trans h)
    (by intro x hx; cases hx)
    (by intro k x hx; cases hx)
    (by intro d out h; obtain ⟨k, hk⟩ := hF d out h; exact ⟨k, (q_octets_word_u64_m k d).trans hk⟩)
def g_octets_word_u64 (d : Unit × (((List Int) × Unit) × Unit)) : Option (Unit × ((Int × Unit) × Unit)) := lim fun k => f_octets_word_u64_m (f_octets_word_u64_t k) d
theorem ok_octets_word_u64 : FnOk Try.prog ET0 64 pi_octets_word_u64 po_octets_word_u64 g_octets_word_u64 := go_octets_word_u64 g_octets_word_u64 fun d out h => lim_some h

/- horologe/octets.Get[uint64] -/
@[reducible] def pi_octets_Get_u64 : PSh := ⟨[], [.mk false [.v (.sl (.int .u8))], .mk false [.v (.int .i64)]]⟩
@[reducible] def po_octets_Get_u64 : PSh := ⟨[], [.mk false [.v (.int .u64)], .mk false [.v .err]]⟩
def f_octets_Get_u64_m (T : Unit) (d : Unit × (((List Int) × Unit) × ((Int × Unit) × Unit))) : Option (Unit × ((Int × Unit) × (((Option Int) × Unit) × Unit))) :=
  (g_octets_Size_u64 ((), ())).bind fun x1 =>
  (g_octets_from ((), ((d.2.1.1, ()), ((d.2.2.1.1, ()), ((x1.2.1.1, ()), ()))))).bind fun x2 =>
  let x3 : Bool := (!x2.2.2.1.1.isNone)
  bif x3 then (
  some ((), (((0 : Int), ()), ((x2.2.2.1.1, ()), ()))))
  else (
  (g_octets_word_u64 ((), ((x2.2.1.1, ()), ()))).bind fun x4 =>
  some ((), ((x4.2.1.1, ()), (((none : Option Int), ()), ()))))
def c_octets_Get_u64 : List Nat := []
def L_octets_Get_u64 (_ : Nat) : Pts po_octets_Get_u64.den := []
def R_octets_Get_u64 (_ : Nat) : PtsR po_octets_Get_u64.den := []
def E_octets_Get_u64 : Env := (((E0.add 59 (typedSem pi_octets_Size_u64 po_octets_Size_u64 g_octets_Size_u64)).add 63 (typedSem pi_octets_from po_octets_from g_octets_from)).add 64 (typedSem pi_octets_word_u64 po_octets_word_u64 g_octets_word_u64))
theorem q_octets_Get_u64_m (k : Nat) (d : Unit × (((List Int) × Unit) × ((Int × Unit) × Unit))) : evCode E_octets_Get_u64 (tb (L_octets_Get_u64 k) (R_octets_Get_u64 k)) c_octets_Get_u64 (bodyOf Try.f23) 0 (finK E_octets_Get_u64 po_octets_Get_u64 [.tmp 4, .tmp 5]) (startSt pi_octets_Get_u64 20 d) = f_octets_Get_u64_m () d := by kernel_rfl
def g_octets_Get_u64 (d : Unit × (((List Int) × Unit) × ((Int × Unit) × Unit))) : Option (Unit × ((Int × Unit) × (((Option Int) × Unit) × Unit))) := f_octets_Get_u64_m () d
theorem ok_octets_Get_u64 : FnOk Try.prog ET0 23 pi_octets_Get_u64 po_octets_Get_u64 g_octets_Get_u64 :=
  fn_of_body (E := E_octets_Get_u64) (envOk_add (envOk_add (envOk_add e0_ok (typed_ok ok_octets_Size_u64)) (typed_ok ok_octets_from)) (typed_ok ok_octets_word_u64)) (fn := Try.f23) Try.func23 (by kernel_rfl) (by kernel_rfl) [.tmp 4, .tmp 5] (by kernel_rfl) (by kernel_rfl) (by decide) rfl c_octets_Get_u64 L_octets_Get_u64 R_octets_Get_u64
    (by intro x hx; cases hx) (by intro k x hx; cases hx) (by intro x hx; cases hx) (by intro k x hx; cases hx) (fun d out h => ⟨0, (q_octets_Get_u64_m 0 d).trans h⟩)

/- horologe/octets.word[uint16] -/
@[reducible] def pi_octets_word_u16 : PSh := ⟨[], [.mk false [.v (.sl (.int .u8))]]⟩
@[reducible] def po_octets_word_u16 : PSh := ⟨[], [.mk false [.v (.int .u16)]]⟩
@[reducible] def TT_octets_word_u16 : Type := (((Unit × ((Int × Unit) × (((List Int) × Unit) × ((Int × Unit) × ((Int × Unit) × Unit))))) → Option (Unit × ((Int × Unit) × Unit))) × Unit)
@[reducible] def sh_octets_word_u16_4 : PSh := ⟨[], [.any, .any, .any, .mk false [.v (.int .u64)], .any, .any, .mk false [.v (.sl (.int .u8))], .mk false [.v (.int .i64)], .mk false [.v (.int .i64)], .any, .any, .any, .any, .any, .any, .any, .any, .any, .any, .any]⟩
def f_octets_word_u16_p4 (T : TT_octets_word_u16) (d : Unit × ((Int × Unit) × (((List Int) × Unit) × ((Int × Unit) × ((Int × Unit) × Unit))))) : Option (Unit × ((Int × Unit) × Unit)) :=
  let x2 : Bool := (decide (d.2.2.2.2.1.1 < d.2.2.2.1.1))
  bif x2 then (
  bif decide ((0 : Int) ≤ d.2.2.2.2.1.1) && decide (d.2.2.2.2.1.1 < (d.2.2.1.1.length : Int)) then (
  let x3 : Int := (ishl .u64 d.2.1.1 (8 : Int))
  let x4 : Int := (iconv .u64 (gd (.int .u8) d.2.2.1.1 d.2.2.2.2.1.1))
  let x5 : Int := (ior .u64 x3 x4)
  let x6 : Int := (iadd .i64 d.2.2.2.2.1.1 (1 : Int))
  (T.1 ((), ((x5, ()), ((d.2.2.1.1, ()), ((d.2.2.2.1.1, ()), ((x6, ()), ())))))))
  else none)
  else (
  let x7 : Int := (iconv .u16 d.2.1.1)
  some ((), ((x7, ()), ())))
def f_octets_word_u16_t : Nat → TT_octets_word_u16
  | 0 => (fun _ => none, ())
  | k + 1 => (f_octets_word_u16_p4 (f_octets_word_u16_t k), ())
theorem t_octets_word_u16 (k : Nat) : f_octets_word_u16_t (k + 1) = (f_octets_word_u16_p4 (f_octets_word_u16_t k), ()) := rfl
def f_octets_word_u16_m (T : TT_octets_word_u16) (d : Unit × (((List Int) × Unit) × Unit)) : Option (Unit × ((Int × Unit) × Unit)) :=
  let x1 : Int := (d.2.1.1.length : Int)
  (T.1 ((), (((0 : Int), ()), ((d.2.1.1, ()), ((x1, ()), (((0 : Int), ()), ()))))))
def c_octets_word_u16 : List Nat := []
def L_octets_word_u16 (k : Nat) : Pts po_octets_word_u16.den := [(4, ⟨sh_octets_word_u16_4, (f_octets_word_u16_t k).1⟩)]
def R_octets_word_u16 (_ : Nat) : PtsR po_octets_word_u16.den := []
def E_octets_word_u16 : Env := E0
theorem q_octets_word_u16_4 (k : Nat) (d : Unit × ((Int × Unit) × (((List Int) × Unit) × ((Int × Unit) × ((Int × Unit) × Unit))))) : evAt E_octets_word_u16 (tb (L_octets_word_u16 k) (R_octets_word_u16 k)) c_octets_word_u16 4 (bodyOf Try.f65) 0 (finK E_octets_word_u16 po_octets_word_u16 [.tmp 2]) (ptSt sh_octets_word_u16_4 d) = f_octets_word_u16_p4 (f_octets_word_u16_t k) d := by kernel_rfl
theorem q_octets_word_u16_m (k : Nat) (d : Unit × (((List Int) × Unit) × Unit)) : evCode E_octets_word_u16 (tb (L_octets_word_u16 k) (R_octets_word_u16 k)) c_octets_word_u16 (bodyOf Try.f65) 0 (finK E_octets_word_u16 po_octets_word_u16 [.tmp 2]) (startSt pi_octets_word_u16 20 d) = f_octets_word_u16_m (f_octets_word_u16_t k) d := by kernel_rfl
theorem go_octets_word_u16 (F : Unit × (((List Int) × Unit) × Unit) → Option (Unit × ((Int × Unit) × Unit))) (hF : ∀ d out, F d = some out → ∃ k, f_octets_word_u16_m (f_octets_word_u16_t k) d = some out) : FnOk Try.prog ET0 65 pi_octets_word_u16 po_octets_word_u16 F :=
  fn_of_body (E := E_octets_word_u16) e0_ok (fn := Try.f65) Try.func65 (by kernel_rfl) (by kernel_rfl) [.tmp 2] (by kernel_rfl) (by kernel_rfl) (by decide) rfl c_octets_word_u16 L_octets_word_u16 R_octets_word_u16
    (by intro x hx d; simp only [L_octets_word_u16, List.mem_cons, List.not_mem_nil, or_false] at hx; subst hx; rfl)
    (by intro k x hx d out h; simp only [L_octets_word_u16, List.mem_cons, List.not_mem_nil, or_false] at hx; subst hx; exact (q_octets_word_u16_4 k d).trans h)
    (by intro x hx; cases hx)
    (by intro k x hx; cases hx)
    (by intro d out h; obtain ⟨k, hk⟩ := hF d out h; exact ⟨k, (q_octets_word_u16_m k d).trans hk⟩)
def g_octets_word_u16 (d : Unit × (((List Int) × Unit) × Unit)) : Option (Unit × ((Int × Unit) × Unit)) := lim fun k => f_octets_word_u16_m (f_octets_word_u16_t k) d
theorem ok_octets_word_u16 : FnOk Try.prog ET0 65 pi_octets_word_u16 po_octets_word_u16 g_octets_word_u16 := go_octets_word_u16 g_octets_word_u16 fun d out h => lim_some h

/- horologe/octets.Get[uint16] -/
@[reducible] def pi_octets_Get_u16 : PSh := ⟨[], [.mk false [.v (.sl (.int .u8))], .mk false [.v (.int .i64)]]⟩
@[reducible] def po_octets_Get_u16 : PSh := ⟨[], [.mk false [.v (.int .u16)], .mk false [.v .err]]⟩
def f_octets_Get_u16_m (T : Unit) (d : Unit × (((List Int) × Unit) × ((Int × Unit) × Unit))) : Option (Unit × ((Int × Unit) × (((Option Int) × Unit) × Unit))) :=
  (g_octets_Size_u16 ((), ())).bind fun x1 =>
  (g_octets_from ((), ((d.2.1.1, ()), ((d.2.2.1.1, ()), ((x1.2.1.1, ()), ()))))).bind fun x2 =>
  let x3 : Bool := (!x2.2.2.1.1.isNone)
  bif x3 then (
  some ((), (((0 : Int), ()), ((x2.2.2.1.1, ()), ()))))
  else (
  (g_octets_word_u16 ((), ((x2.2.1.1, ()), ()))).bind fun x4 =>
  some ((), ((x4.2.1.1, ()), (((none : Option Int), ()), ()))))
def c_octets_Get_u16 : List Nat := []
def L_octets_Get_u16 (_ : Nat) : Pts po_octets_Get_u16.den := []
def R_octets_Get_u16 (_ : Nat) : PtsR po_octets_Get_u16.den := []
def E_octets_Get_u16 : Env := (((E0.add 62 (typedSem pi_octets_Size_u16 po_octets_Size_u16 g_octets_Size_u16)).add 63 (typedSem pi_octets_from po_octets_from g_octets_from)).add 65 (typedSem pi_octets_word_u16 po_octets_word_u16 g_octets_word_u16))
theorem q_octets_Get_u16_m (k : Nat) (d : Unit × (((List Int) × Unit) × ((Int × Unit) × Unit))) : evCode E_octets_Get_u16 (tb (L_octets_Get_u16 k) (R_octets_Get_u16 k)) c_octets_Get_u16 (bodyOf Try.f24) 0 (finK E_octets_Get_u16 po_octets_Get_u16 [.tmp 4, .tmp 5]) (startSt pi_octets_Get_u16 20 d) = f_octets_Get_u16_m () d := by kernel_rfl
def g_octets_Get_u16 (d : Unit × (((List Int) × Unit) × ((Int × Unit) × Unit))) : Option (Unit × ((Int × Unit) × (((Option Int) × Unit) × Unit))) := f_octets_Get_u16_m () d
theorem ok_octets_Get_u16 : FnOk Try.prog ET0 24 pi_octets_Get_u16 po_octets_Get_u16 g_octets_Get_u16 :=
  fn_of_body (E := E_octets_Get_u16) (envOk_add (envOk_add (envOk_add e0_ok (typed_ok ok_octets_Size_u16)) (typed_ok ok_octets_from)) (typed_ok ok_octets_word_u16)) (fn := Try.f24) Try.func24 (by kernel_rfl) (by kernel_rfl) [.tmp 4, .tmp 5] (by kernel_rfl) (by kernel_rfl) (by decide) rfl c_octets_Get_u16 L_octets_Get_u16 R_octets_Get_u16
    (by intro x hx; cases hx) (by intro k x hx; cases hx) (by intro x hx; cases hx) (by intro k x hx; cases hx) (fun d out h => ⟨0, (q_octets_Get_u16_m 0 d).trans h⟩)

/- slices.Chunk[[]byte,byte] -/
@[reducible] def pi_slices_Chunk_byte_byte : PSh := ⟨[], [.mk false [.v (.sl (.int .u8))], .mk false [.v (.int .i64)]]⟩
@[reducible] def po_slices_Chunk_byte_byte : PSh := ⟨[.var 33 [.v (.sl (.int .u8))], .var 3 [.v (.int .i64)]], [.mk false [.fn 91 [0, 1]]]⟩
def f_slices_Chunk_byte_byte_m (T : Unit) (d : Unit × (((List Int) × Unit) × ((Int × Unit) × Unit))) : Option ((((List Int) × Unit) × ((Int × Unit) × Unit)) × (Unit × Unit)) :=
  let x1 : Bool := (decide (d.2.2.1.1 < (1 : Int)))
  bif x1 then (
  none)
  else (
  some (((d.2.1.1, ()), ((d.2.2.1.1, ()), ())), ((), ())))
def c_slices_Chunk_byte_byte : List Nat := []
def L_slices_Chunk_byte_byte (_ : Nat) : Pts po_slices_Chunk_byte_byte.den := []
def R_slices_Chunk_byte_byte (_ : Nat) : PtsR po_slices_Chunk_byte_byte.den := []
def E_slices_Chunk_byte_byte : Env := E0
theorem q_slices_Chunk_byte_byte_m (k : Nat) (d : Unit × (((List Int) × Unit) × ((Int × Unit) × Unit))) : evCode E_slices_Chunk_byte_byte (tb (L_slices_Chunk_byte_byte k) (R_slices_Chunk_byte_byte k)) c_slices_Chunk_byte_byte (bodyOf Try.f66) 0 (finK E_slices_Chunk_byte_byte po_slices_Chunk_byte_byte [.tmp 4]) (startSt pi_slices_Chunk_byte_byte 9 d) = f_slices_Chunk_byte_byte_m () d := by kernel_rfl
def g_slices_Chunk_byte_byte (d : Unit × (((List Int) × Unit) × ((Int × Unit) × Unit))) : Option ((((List Int) × Unit) × ((Int × Unit) × Unit)) × (Unit × Unit)) := f_slices_Chunk_byte_byte_m () d
theorem ok_slices_Chunk_byte_byte : FnOk Try.prog ET0 66 pi_slices_Chunk_byte_byte po_slices_Chunk_byte_byte g_slices_Chunk_byte_byte :=
  fn_of_body (E := E_slices_Chunk_byte_byte) e0_ok (fn := Try.f66) Try.func66 (by kernel_rfl) (by kernel_rfl) [.tmp 4] (by kernel_rfl) (by kernel_rfl) (by decide) rfl c_slices_Chunk_byte_byte L_slices_Chunk_byte_byte R_slices_Chunk_byte_byte
    (by intro x hx; cases hx) (by intro k x hx; cases hx) (by intro x hx; cases hx) (by intro k x hx; cases hx) (fun d out h => ⟨0, (q_slices_Chunk_byte_byte_m 0 d).trans h⟩)

/- horologe/octets.word[uint32] -/
@[reducible] def pi_octets_word_u32 : PSh := ⟨[], [.mk false [.v (.sl (.int .u8))]]⟩
@[reducible] def po_octets_word_u32 : PSh := ⟨[], [.mk false [.v (.int .u32)]]⟩
@[reducible] def TT_octets_word_u32 : Type := (((Unit × ((Int × Unit) × (((List Int) × Unit) × ((Int × Unit) × ((Int × Unit) × Unit))))) → Option (Unit × ((Int × Unit) × Unit))) × Unit)
@[reducible] def sh_octets_word_u32_4 : PSh := ⟨[], [.any, .any, .any, .mk false [.v (.int .u64)], .any, .any, .mk false [.v (.sl (.int .u8))], .mk false [.v (.int .i64)], .mk false [.v (.int .i64)], .any, .any, .any, .any, .any, .any, .any, .any, .any, .any, .any]⟩
def f_octets_word_u32_p4 (T : TT_octets_word_u32) (d : Unit × ((Int × Unit) × (((List Int) × Unit) × ((Int × Unit) × ((Int × Unit) × Unit))))) : Option (Unit × ((Int × Unit) × Unit)) :=
  let x2 : Bool := (decide (d.2.2.2.2.1.1 < d.2.2.2.1.1))
  bif x2 then (
  bif decide ((0 : Int) ≤ d.2.2.2.2.1.1) && decide (d.2.2.2.2.1.1 < (d.2.2.1.1.length : Int)) then (
  let x3 : Int := (ishl .u64 d.2.1.1 (8 : Int))
  let x4 : Int := (iconv .u64 (gd (.int .u8) d.2.2.1.1 d.2.2.2.2.1.1))
  let x5 : Int := (ior .u64 x3 x4)
  let x6 : Int := (iadd .i64 d.2.2.2.2.1.1 (1 : Int))
  (T.1 ((), ((x5, ()), ((d.2.2.1.1, ()), ((d.2.2.2.1.1, ()), ((x6, ()), ())))))))
  else none)
  else (
  let x7 : Int := (iconv .u32 d.2.1.1)
  some ((), ((x7, ()), ())))
def f_octets_word_u32_t : Nat → TT_octets_word_u32
  | 0 => (fun _ => none, ())
  | k + 1 => (f_octets_word_u32_p4 (f_octets_word_u32_t k), ())
theorem t_octets_word_u32 (k : Nat) : f_octets_word_u32_t (k + 1) = (f_octets_word_u32_p4 (f_octets_word_u32_t k), ()) := rfl
def f_octets_word_u32_m (T : TT_octets_word_u32) (d : Unit × (((List Int) × Unit) × Unit)) : Option (Unit × ((Int × Unit) × Unit)) :=
  let x1 : Int := (d.2.1.1.length : Int)
  (T.1 ((), (((0 : Int), ()), ((d.2.1.1, ()), ((x1, ()), (((0 : Int), ()), ()))))))
def c_octets_word_u32 : List Nat := []
def L_octets_word_u32 (k : Nat) : Pts po_octets_word_u32.den := [(4, ⟨sh_octets_word_u32_4, (f_octets_word_u32_t k).1⟩)]
def R_octets_word_u32 (_ : Nat) : PtsR po_octets_word_u32.den := []
def E_octets_word_u32 : Env := E0
theorem q_octets_word_u32_4 (k : Nat) (d : Unit × ((Int × Unit) × (((List Int) × Unit) × ((Int × Unit) × ((Int × Unit) × Unit))))) : evAt E_octets_word_u32 (tb (L_octets_word_u32 k) (R_octets_word_u32 k)) c_octets_word_u32 4 (bodyOf Try.f67) 0 (finK E_octets_word_u32 po_octets_word_u32 [.tmp 2]) (ptSt sh_octets_word_u32_4 d) = f_octets_word_u32_p4 (f_octets_word_u32_t k) d := by kernel_rfl
theorem q_octets_word_u32_m (k : Nat) (d : Unit × (((List Int) × Unit) × Unit)) : evCode E_octets_word_u32 (tb (L_octets_word_u32 k) (R_octets_word_u32 k)) c_octets_word_u32 (bodyOf Try.f67) 0 (finK E_octets_word_u32 po_octets_word_u32 [.tmp 2]) (startSt pi_octets_word_u32 20 d) = f_octets_word_u32_m (f_octets_word_u32_t k) d := by kernel_rfl
theorem go_octets_word_u32 (F : Unit × (((List Int) × Unit) × Unit) → Option (Unit × ((Int × Unit) × Unit))) (hF : ∀ d out, F d = some out → ∃ k, f_octets_word_u32_m (f_octets_word_u32_t k) d = some out) : FnOk Try.prog ET0 67 pi_octets_word_u32 po_octets_word_u32 F :=
  fn_of_body (E := E_octets_word_u32) e0_ok (fn := Try.f67) Try.func67 (by kernel_rfl) (by kernel_rfl) [.tmp 2] (by kernel_rfl) (by kernel_rfl) (by decide) rfl c_octets_word_u32 L_octets_word_u32 R_octets_word_u32
    (by intro x hx d; simp only [L_octets_word_u32, List.mem_cons, List.not_mem_nil, or_false] at hx; subst hx; rfl)
    (by intro k x hx d out h; simp only [L_octets_word_u32, List.mem_cons, List.not_mem_nil, or_false] at hx; subst hx; exact (q_octets_word_u32_4 k d).trans h)
    (by intro x hx; cases hx)
    (by intro k x hx; cases hx)
    (by intro d out h; obtain ⟨k, hk⟩ := hF d out h; exact ⟨k, (q_octets_word_u32_m k d).trans hk⟩)
def g_octets_word_u32 (d : Unit × (((List Int) × Unit) × Unit)) : Option (Unit × ((Int × Unit) × Unit)) := lim fun k => f_octets_word_u32_m (f_octets_word_u32_t k) d
theorem ok_octets_word_u32 : FnOk Try.prog ET0 67 pi_octets_word_u32 po_octets_word_u32 g_octets_word_u32 := go_octets_word_u32 g_octets_word_u32 fun d out h => lim_some h

/- slices.Chunk[[]byte,byte]$1 -/
@[reducible] def TY_slices_Chunk_byte_byte_1 : Type := (((Unit × (((Option (List Int)) × Unit) × (((Option Int) × Unit) × ((Int × Unit) × Unit)))) → Option (List (List Int))) × Unit)
@[reducible] def sh_slices_Chunk_byte_byte_1_1 : PSh := ⟨[], [.any, .mk false [.v (.nptr (.sl (.int .u8)))], .mk false [.v (.nptr (.int .i64))], .any, .mk false [.v (.int .i64)], .any, .any, .any, .any, .any, .any, .any, .any, .any, .any, .any, .any, .any, .any, .any, .any, .any, .any, .any, .any, .any, .any, .any, .any, .any, .any]⟩
def f_slices_Chunk_byte_byte_1_p1 (T : TY_slices_Chunk_byte_byte_1) (d : Unit × (((Option (List Int)) × Unit) × (((Option Int) × Unit) × ((Int × Unit) × Unit)))) : Option (List (List Int)) :=
  d.2.1.1.bind fun x1 =>
  let x2 : Int := (x1.length : Int)
  let x3 : Bool := (decide (d.2.2.2.1.1 < x2))
  bif x3 then (
  d.2.2.1.1.bind fun x4 =>
  d.2.1.1.bind fun x5 =>
  bif decide ((0 : Int) ≤ d.2.2.2.1.1) && decide (d.2.2.2.1.1 ≤ (x5.length : Int)) && decide ((x5.length : Int) ≤ (x5.length : Int)) then (
  let x6 : (List Int) := (List.drop (Int.toNat d.2.2.2.1.1) (List.take (Int.toNat (x5.length : Int)) x5))
  let x7 : Int := (x6.length : Int)
  let x8 : Int := (if x7 < x4 then x7 else x4)
  d.2.1.1.bind fun x9 =>
  let x10 : Int := (iadd .i64 d.2.2.2.1.1 x8)
  let x11 : Int := (iadd .i64 d.2.2.2.1.1 x8)
  bif decide ((0 : Int) ≤ d.2.2.2.1.1) && decide (d.2.2.2.1.1 ≤ x10) && decide (x10 ≤ x11) && decide (x11 ≤ (x9.length : Int)) then (
  let x12 : (List Int) := (List.drop (Int.toNat d.2.2.2.1.1) (List.take (Int.toNat x10) x9))
  (some ([] : List (List Int))).bind fun (x13 : List (List Int)) =>
  bif x13.isEmpty then (
  (d.2.2.1.1.bind fun x15 =>
  let x16 : Int := (iadd .i64 d.2.2.2.1.1 x15)
  (T.1 ((), ((d.2.1.1, ()), ((d.2.2.1.1, ()), ((x16, ()), ())))))).bind fun (x14 : List (List Int)) =>
  some (x12 :: x14))
  else none)
  else none)
  else none)
  else (
  some ([] : List (List Int)))
def f_slices_Chunk_byte_byte_1_t : Nat → TY_slices_Chunk_byte_byte_1
  | 0 => (fun _ => none, ())
  | k + 1 => (f_slices_Chunk_byte_byte_1_p1 (f_slices_Chunk_byte_byte_1_t k), ())
theorem t_slices_Chunk_byte_byte_1 (k : Nat) : f_slices_Chunk_byte_byte_1_t (k + 1) = (f_slices_Chunk_byte_byte_1_p1 (f_slices_Chunk_byte_byte_1_t k), ()) := rfl
def f_slices_Chunk_byte_byte_1_m (T : TY_slices_Chunk_byte_byte_1) (d : ((List Int) × (Int × Unit))) : Option (List (List Int)) :=
  (T.1 ((), (((some d.1), ()), (((some d.2.1), ()), (((0 : Int), ()), ())))))
def L_slices_Chunk_byte_byte_1 (k : Nat) : Pts (List (List Int)) := [(1, ⟨sh_slices_Chunk_byte_byte_1_1, (f_slices_Chunk_byte_byte_1_t k).1⟩)]
def F_slices_Chunk_byte_byte_1 (d : ((List Int) × (Int × Unit))) : Option (List (List Int)) := lim fun k => f_slices_Chunk_byte_byte_1_m (f_slices_Chunk_byte_byte_1_t k) d
def sq_slices_Chunk_byte_byte_1 : SeqSem := ⟨[(33, (.sl (.int .u8))), (3, (.int .i64))], [false, false], (.sl (.int .u8)), F_slices_Chunk_byte_byte_1⟩
def E_slices_Chunk_byte_byte_1 : Env := E0
theorem q_slices_Chunk_byte_byte_1_1 (k : Nat) (d : Unit × (((Option (List Int)) × Unit) × (((Option Int) × Unit) × ((Int × Unit) × Unit)))) : evAtY E_slices_Chunk_byte_byte_1 (.sl (.int .u8)) (tabY (L_slices_Chunk_byte_byte_1 k)) 1 (bodyOf Try.f91) 0 finY (ptSt sh_slices_Chunk_byte_byte_1_1 d) = f_slices_Chunk_byte_byte_1_p1 (f_slices_Chunk_byte_byte_1_t k) d := by kernel_rfl
theorem q_slices_Chunk_byte_byte_1_m (k : Nat) (d : ((List Int) × (Int × Unit))) : evCodeY E_slices_Chunk_byte_byte_1 (.sl (.int .u8)) (tabY (L_slices_Chunk_byte_byte_1 k)) (bodyOf Try.f91) 0 finY (startY sq_slices_Chunk_byte_byte_1.ts sq_slices_Chunk_byte_byte_1.wr 31 d) = f_slices_Chunk_byte_byte_1_m (f_slices_Chunk_byte_byte_1_t k) d := by kernel_rfl
theorem okq_slices_Chunk_byte_byte_1 : SeqOk Try.prog ET0 91 sq_slices_Chunk_byte_byte_1 := by
  refine seq_of_body (E := E_slices_Chunk_byte_byte_1) e0_ok rfl rfl (fn := Try.f91) Try.func91 (by kernel_rfl) (by kernel_rfl) (by kernel_rfl) (by kernel_rfl) L_slices_Chunk_byte_byte_1 ?_ ?_ ?_ (by intro d l h; obtain ⟨k, hk⟩ := lim_some h; exact ⟨k, (q_slices_Chunk_byte_byte_1_m k d).trans hk⟩)
  · intro x hx d
    rcases List.mem_cons.1 hx with rfl | hx
    · rfl
    ·
      cases hx
  · intro k x hx
    rcases List.mem_cons.1 hx with rfl | hx
    · rfl
    ·
      cases hx
  · intro k x hx d out h
    rcases List.mem_cons.1 hx with rfl | hx
    · exact (q_slices_Chunk_byte_byte_1_1 k d).trans h
    ·
      cases hx

/- horologe/octets.List[uint32] -/
@[reducible] def pi_octets_List_u32 : PSh := ⟨[], [.mk false [.v (.sl (.int .u8))], .mk false [.v (.int .i64)], .mk false [.v (.int .i64)]]⟩
@[reducible] def po_octets_List_u32 : PSh := ⟨[.row 27 (.int .u32)], [.mk false [.osl 0], .mk false [.v .err]]⟩
@[reducible] def TT_octets_List_u32 : Type := ((List (List Int) → ((Unit × ((List Int) × Unit)) × (Unit × Unit)) → Option (((List Int) × Unit) × (Unit × (((Option Int) × Unit) × Unit)))) × Unit)
@[reducible] def sh_octets_List_u32_10 : PSh := ⟨[.var 48 [.osl 1], .row 27 (.int .u32)], [.any, .any, .any, .any, .any, .any, .any, .any, .any, .mk false [.ref 0 0], .any, .any, .any, .any, .any, .any, .any, .any, .any, .any, .any, .any, .any, .any, .any, .any, .any, .any, .any, .any, .any, .any, .any, .any, .any, .any, .any, .any, .any, .any, .any, .any, .any, .any, .any, .any, .any, .any, .any, .any, .any, .any, .any]⟩
def f_octets_List_u32_p10 (T : TT_octets_List_u32) (l : List (List Int)) (d : (Unit × ((List Int) × Unit)) × (Unit × Unit)) : Option (((List Int) × Unit) × (Unit × (((Option Int) × Unit) × Unit))) :=
  bif l.isEmpty then (
  some ((d.1.2.1, ()), ((), (((none : Option Int), ()), ()))))
  else (
  let x19 : (List Int) := (gd (.sl (.int .u8)) l (0 : Int))
  (g_octets_word_u32 ((), ((x19, ()), ()))).bind fun x20 =>
  let x21 : (List Int) := ([x20.2.1.1] : List Int)
  bif decide (((d.1.2.1.length + x21.length) * 4 : Nat) ≤ 140737488355328) && decide (d.1.2.1.length + x21.length ≤ 9223372036854775807) then (
  let x22 : (List Int) := (d.1.2.1 ++ x21)
  (T.1 (List.drop 1 l) (((), (x22, ())), ((), ()))))
  else none)
def f_octets_List_u32_t : Nat → TT_octets_List_u32
  | 0 => (fun _ _ => none, ())
  | k + 1 => (f_octets_List_u32_p10 (f_octets_List_u32_t k), ())
theorem t_octets_List_u32 (k : Nat) : f_octets_List_u32_t (k + 1) = (f_octets_List_u32_p10 (f_octets_List_u32_t k), ()) := rfl
def f_octets_List_u32_m (T : TT_octets_List_u32) (d : Unit × (((List Int) × Unit) × ((Int × Unit) × ((Int × Unit) × Unit)))) : Option (((List Int) × Unit) × (Unit × (((Option Int) × Unit) × Unit))) :=
  (g_octets_Size_u32 ((), ())).bind fun x1 =>
  let x2 : Bool := (decide (d.2.2.1.1 < (0 : Int)))
  bif x2 then (
  let x3 : (Option Int) := (some (1 : Int))
  some ((([] : List Int), ()), ((), ((x3, ()), ()))))
  else (
  let x4 : Int := (d.2.1.1.length : Int)
  let x5 : Bool := (decide (d.2.2.1.1 > x4))
  bif x5 then (
  let x6 : (Option Int) := (some (1 : Int))
  some ((([] : List Int), ()), ((), ((x6, ()), ()))))
  else (
  let x7 : Bool := (decide (d.2.2.2.1.1 < (0 : Int)))
  bif x7 then (
  let x8 : (Option Int) := (some (1 : Int))
  some ((([] : List Int), ()), ((), ((x8, ()), ()))))
  else (
  let x9 : Int := (d.2.1.1.length : Int)
  let x10 : Int := (isub .i64 x9 d.2.2.1.1)
  bif (x1.2.1.1 == 0) then (
  none)
  else (
  let x11 : Int := (iquo .i64 x10 x1.2.1.1)
  let x12 : Bool := (decide (d.2.2.2.1.1 > x11))
  bif x12 then (
  let x13 : (Option Int) := (some (4 : Int))
  some ((([] : List Int), ()), ((), ((x13, ()), ()))))
  else (
  let x14 : Int := (imul .i64 d.2.2.2.1.1 x1.2.1.1)
  let x15 : Int := (iadd .i64 d.2.2.1.1 x14)
  bif decide ((0 : Int) ≤ d.2.2.1.1) && decide (d.2.2.1.1 ≤ x15) && decide (x15 ≤ (d.2.1.1.length : Int)) then (
  let x16 : (List Int) := (List.drop (Int.toNat d.2.2.1.1) (List.take (Int.toNat x15) d.2.1.1))
  (g_slices_Chunk_byte_byte ((), ((x16, ()), ((x1.2.1.1, ()), ())))).bind fun x17 =>
  (F_slices_Chunk_byte_byte_1 (x17.1.1.1, (x17.1.2.1.1, ()))).bind fun x18 =>
  (T.1 x18 (((), (([] : List Int), ())), ((), ()))))
  else none)))))
def c_octets_List_u32 : List Nat := []
def L_octets_List_u32 (_ : Nat) : Pts po_octets_List_u32.den := []
def R_octets_List_u32 (k : Nat) : PtsR po_octets_List_u32.den := [(10, ⟨(sh_octets_List_u32_10, (.sl (.int .u8))), (f_octets_List_u32_t k).1⟩)]
def E_octets_List_u32 : Env := ((((E0.add 60 (typedSem pi_octets_Size_u32 po_octets_Size_u32 g_octets_Size_u32)).add 66 (typedSem pi_slices_Chunk_byte_byte po_slices_Chunk_byte_byte g_slices_Chunk_byte_byte)).add 67 (typedSem pi_octets_word_u32 po_octets_word_u32 g_octets_word_u32)).sq 91 sq_slices_Chunk_byte_byte_1)
theorem q_octets_List_u32_10 (k : Nat) (l : List (List Int)) (d : (Unit × ((List Int) × Unit)) × (Unit × Unit)) : evAtR E_octets_List_u32 (tb (L_octets_List_u32 k) (R_octets_List_u32 k)) c_octets_List_u32 10 (bodyOf Try.f25) 0 (finK E_octets_List_u32 po_octets_List_u32 [.tmp 6, .tmp 7]) (.sl (.int .u8)) l (ptSt sh_octets_List_u32_10 d) = f_octets_List_u32_p10 (f_octets_List_u32_t k) l d := by kernel_rfl
theorem q_octets_List_u32_m (k : Nat) (d : Unit × (((List Int) × Unit) × ((Int × Unit) × ((Int × Unit) × Unit)))) : evCode E_octets_List_u32 (tb (L_octets_List_u32 k) (R_octets_List_u32 k)) c_octets_List_u32 (bodyOf Try.f25) 0 (finK E_octets_List_u32 po_octets_List_u32 [.tmp 6, .tmp 7]) (startSt pi_octets_List_u32 53 d) = f_octets_List_u32_m (f_octets_List_u32_t k) d := by kernel_rfl
theorem go_octets_List_u32 (F : Unit × (((List Int) × Unit) × ((Int × Unit) × ((Int × Unit) × Unit))) → Option (((List Int) × Unit) × (Unit × (((Option Int) × Unit) × Unit)))) (hF : ∀ d out, F d = some out → ∃ k, f_octets_List_u32_m (f_octets_List_u32_t k) d = some out) : FnOk Try.prog ET0 25 pi_octets_List_u32 po_octets_List_u32 F :=
  fn_of_body (E := E_octets_List_u32) (envOk_sq (envOk_add (envOk_add (envOk_add e0_ok (typed_ok ok_octets_Size_u32)) (typed_ok ok_slices_Chunk_byte_byte)) (typed_ok ok_octets_word_u32)) okq_slices_Chunk_byte_byte_1) (fn := Try.f25) Try.func25 (by kernel_rfl) (by kernel_rfl) [.tmp 6, .tmp 7] (by kernel_rfl) (by kernel_rfl) (by decide) rfl c_octets_List_u32 L_octets_List_u32 R_octets_List_u32
    (by intro x hx; cases hx)
    (by intro k x hx; cases hx)
    (by intro x hx l d; simp only [R_octets_List_u32, List.mem_cons, List.not_mem_nil, or_false] at hx; subst hx; rfl)
    (by intro k x hx l d out h; simp only [R_octets_List_u32, List.mem_cons, List.not_mem_nil, or_false] at hx; subst hx; exact (q_octets_List_u32_10 k l d).trans h)
    (by intro d out h; obtain ⟨k, hk⟩ := hF d out h; exact ⟨k, (q_octets_List_u32_m k d).trans hk⟩)
def g_octets_List_u32 (d : Unit × (((List Int) × Unit) × ((Int × Unit) × ((Int × Unit) × Unit)))) : Option (((List Int) × Unit) × (Unit × (((Option Int) × Unit) × Unit))) := lim fun k => f_octets_List_u32_m (f_octets_List_u32_t k) d
theorem ok_octets_List_u32 : FnOk Try.prog ET0 25 pi_octets_List_u32 po_octets_List_u32 g_octets_List_u32 := go_octets_List_u32 g_octets_List_u32 fun d out h => lim_some h

/- horologe/octets.Cut -/
@[reducible] def pi_octets_Cut : PSh := ⟨[], [.mk false [.v (.sl (.int .u8))], .mk false [.v (.int .i64)], .mk false [.v (.int .i64)]]⟩
@[reducible] def po_octets_Cut : PSh := ⟨[.row 5 (.int .u8)], [.mk false [.osl 0], .mk false [.v .err]]⟩
def f_octets_Cut_m (T : Unit) (d : Unit × (((List Int) × Unit) × ((Int × Unit) × ((Int × Unit) × Unit)))) : Option (((List Int) × Unit) × (Unit × (((Option Int) × Unit) × Unit))) :=
  (g_octets_from ((), ((d.2.1.1, ()), ((d.2.2.1.1, ()), ((d.2.2.2.1.1, ()), ()))))).bind fun x1 =>
  let x2 : Bool := (!x1.2.2.1.1.isNone)
  bif x2 then (
  some ((([] : List Int), ()), ((), ((x1.2.2.1.1, ()), ()))))
  else (
  (g_slices_Clone_byte_byte ((), ((x1.2.1.1, ()), ()))).bind fun x3 =>
  some ((x3.1.1, ()), ((), (((none : Option Int), ()), ()))))
def c_octets_Cut : List Nat := []
def L_octets_Cut (_ : Nat) : Pts po_octets_Cut.den := []
def R_octets_Cut (_ : Nat) : PtsR po_octets_Cut.den := []
def E_octets_Cut : Env := ((E0.add 61 (typedSem pi_slices_Clone_byte_byte po_slices_Clone_byte_byte g_slices_Clone_byte_byte)).add 63 (typedSem pi_octets_from po_octets_from g_octets_from))
theorem q_octets_Cut_m (k : Nat) (d : Unit × (((List Int) × Unit) × ((Int × Unit) × ((Int × Unit) × Unit)))) : evCode E_octets_Cut (tb (L_octets_Cut k) (R_octets_Cut k)) c_octets_Cut (bodyOf Try.f26) 0 (finK E_octets_Cut po_octets_Cut [.tmp 6, .tmp 7]) (startSt pi_octets_Cut 22 d) = f_octets_Cut_m () d := by kernel_rfl
def g_octets_Cut (d : Unit × (((List Int) × Unit) × ((Int × Unit) × ((Int × Unit) × Unit)))) : Option (((List Int) × Unit) × (Unit × (((Option Int) × Unit) × Unit))) := f_octets_Cut_m () d
theorem ok_octets_Cut : FnOk Try.prog ET0 26 pi_octets_Cut po_octets_Cut g_octets_Cut :=
  fn_of_body (E := E_octets_Cut) (envOk_add (envOk_add e0_ok (typed_ok ok_slices_Clone_byte_byte)) (typed_ok ok_octets_from)) (fn := Try.f26) Try.func26 (by kernel_rfl) (by kernel_rfl) [.tmp 6, .tmp 7] (by kernel_rfl) (by kernel_rfl) (by decide) rfl c_octets_Cut L_octets_Cut R_octets_Cut
    (by intro x hx; cases hx) (by intro k x hx; cases hx) (by intro x hx; cases hx) (by intro k x hx; cases hx) (fun d out h => ⟨0, (q_octets_Cut_m 0 d).trans h⟩)

/- horologe/horologelaw03.OctetsBack -/
@[reducible] def pi_law03_OctetsBack : PSh := ⟨[], [.mk false [.v (.sl (.int .u8))], .mk false [.v (.int .u64)], .mk false [.v (.sl (.int .u32))]]⟩
@[reducible] def po_law03_OctetsBack : PSh := ⟨[], [.mk false [.v .bool]]⟩
@[reducible] def TT_law03_OctetsBack : Type := (((((List Int) × ((List Int) × Unit)) × (((List Int) × Unit) × (((List Int) × Unit) × (Unit × (Unit × (((List Int) × Unit) × ((Int × Unit) × ((Int × Unit) × Unit)))))))) → Option (Unit × ((Bool × Unit) × Unit))) × Unit)
@[reducible] def sh_law03_OctetsBack_17 : PSh := ⟨[.row 5 (.int .u8), .row 27 (.int .u32)], [.mk false [.v (.sl (.int .u8))], .any, .mk false [.v (.sl (.int .u32))], .any, .any, .any, .any, .mk false [.osl 0], .any, .any, .any, .any, .mk false [.osl 1], .any, .any, .any, .any, .any, .any, .any, .any, .any, .any, .any, .any, .any, .any, .any, .any, .any, .any, .any, .any, .any, .any, .any, .any, .any, .any, .any, .any, .any, .any, .any, .any, .any, .any, .any, .any, .any, .any, .any, .any, .any, .any, .any, .any, .any, .any, .any, .any, .any, .any, .any, .any, .any, .any, .any, .any, .any, .any, .any, .any, .any, .any, .any, .any, .any, .any, .any, .any, .any, .any, .any, .any, .any, .any, .any, .any, .any, .any, .any, .any, .any, .any, .any, .any, .any, .any, .any, .any, .any, .any, .any, .any, .any, .any, .any, .mk false [.v (.sl (.int .u32))], .mk false [.v (.int .i64)], .mk false [.v (.int .i64)], .any, .any, .any, .any, .any, .any, .any, .any, .any, .any, .any, .any, .any, .any, .any, .any, .any, .any, .any, .any, .any]⟩
def f_law03_OctetsBack_p17 (T : TT_law03_OctetsBack) (d : ((List Int) × ((List Int) × Unit)) × (((List Int) × Unit) × (((List Int) × Unit) × (Unit × (Unit × (((List Int) × Unit) × ((Int × Unit) × ((Int × Unit) × Unit)))))))) : Option (Unit × ((Bool × Unit) × Unit)) :=
  let x37 : Bool := (decide (d.2.2.2.2.2.2.2.1.1 < d.2.2.2.2.2.2.1.1))
  bif x37 then (
  bif decide ((0 : Int) ≤ d.2.2.2.2.2.2.2.1.1) && decide (d.2.2.2.2.2.2.2.1.1 < (d.2.2.2.2.2.1.1.length : Int)) then (
  bif decide ((0 : Int) ≤ d.2.2.2.2.2.2.2.1.1) && decide (d.2.2.2.2.2.2.2.1.1 < (d.1.2.1.length : Int)) then (
  let x38 : Bool := ((gd (.int .u32) d.1.2.1 d.2.2.2.2.2.2.2.1.1) != (gd (.int .u32) d.2.2.2.2.2.1.1 d.2.2.2.2.2.2.2.1.1))
  bif x38 then (
  some ((), ((false, ()), ())))
  else (
  let x39 : Int := (iadd .i64 d.2.2.2.2.2.2.2.1.1 (1 : Int))
  (T.1 ((d.1.1, (d.1.2.1, ())), ((d.2.1.1, ()), ((d.2.2.1.1, ()), ((), ((), ((d.2.2.2.2.2.1.1, ()), ((d.2.2.2.2.2.2.1.1, ()), ((x39, ()), ())))))))))))
  else none)
  else none)
  else (
  let x40 : Int := (d.1.1.length : Int)
  let x41 : Int := (d.2.1.1.length : Int)
  let x42 : Int := (iadd .i64 x41 (10 : Int))
  let x43 : Int := (d.2.2.1.1.length : Int)
  let x44 : Int := (imul .i64 (4 : Int) x43)
  let x45 : Int := (iadd .i64 x42 x44)
  let x46 : Bool := (x40 == x45)
  some ((), ((x46, ()), ())))
def f_law03_OctetsBack_t : Nat → TT_law03_OctetsBack
  | 0 => (fun _ => none, ())
  | k + 1 => (f_law03_OctetsBack_p17 (f_law03_OctetsBack_t k), ())
theorem t_law03_OctetsBack (k : Nat) : f_law03_OctetsBack_t (k + 1) = (f_law03_OctetsBack_p17 (f_law03_OctetsBack_t k), ()) := rfl
def f_law03_OctetsBack_m (T : TT_law03_OctetsBack) (d : Unit × (((List Int) × Unit) × ((Int × Unit) × (((List Int) × Unit) × Unit)))) : Option (Unit × ((Bool × Unit) × Unit)) :=
  (g_law03_alive ((), ())).bind fun x1 =>
  let x2 : Bool := (!x1.2.1.1)
  bif x2 then (
  some ((), ((false, ()), ())))
  else (
  let x3 : Int := (d.2.1.1.length : Int)
  let x4 : Bool := (decide (x3 > (300 : Int)))
  bif x4 then (
  some ((), ((true, ()), ())))
  else (
  let x5 : Int := (d.2.2.2.1.1.length : Int)
  let x6 : Bool := (decide (x5 > (60 : Int)))
  bif x6 then (
  some ((), ((true, ()), ())))
  else (
  let x7 : (List Int) := ([d.2.2.1.1] : List Int)
  (g_octets_Put_u64 ((), ((d.2.1.1, ()), ((x7, ()), ())))).bind fun x8 =>
  let x9 : Int := (iconv .u16 d.2.2.1.1)
  let x10 : (List Int) := ([x9] : List Int)
  (g_octets_Put_u16 ((), ((x8.1.1, ()), ((x10, ()), ())))).bind fun x11 =>
  (g_octets_Put_u32 ((), ((x11.1.1, ()), ((d.2.2.2.1.1, ()), ())))).bind fun x12 =>
  let x13 : Int := (d.2.1.1.length : Int)
  (g_octets_Get_u64 ((), ((x12.1.1, ()), ((x13, ()), ())))).bind fun x14 =>
  let x15 : Int := (d.2.1.1.length : Int)
  let x16 : Int := (iadd .i64 x15 (8 : Int))
  (g_octets_Get_u16 ((), ((x12.1.1, ()), ((x16, ()), ())))).bind fun x17 =>
  let x18 : Int := (d.2.1.1.length : Int)
  let x19 : Int := (iadd .i64 x18 (10 : Int))
  let x20 : Int := (d.2.2.2.1.1.length : Int)
  (g_octets_List_u32 ((), ((x12.1.1, ()), ((x19, ()), ((x20, ()), ()))))).bind fun x21 =>
  let x22 : Int := (d.2.1.1.length : Int)
  (g_octets_Cut ((), ((x12.1.1, ()), (((0 : Int), ()), ((x22, ()), ()))))).bind fun x23 =>
  let x24 : Bool := (!x14.2.2.1.1.isNone)
  bif x24 then (
  some ((), ((false, ()), ())))
  else (
  let x25 : Bool := (!x17.2.2.1.1.isNone)
  bif x25 then (
  some ((), ((false, ()), ())))
  else (
  let x26 : Bool := (!x21.2.2.1.1.isNone)
  bif x26 then (
  some ((), ((false, ()), ())))
  else (
  let x27 : Bool := (!x23.2.2.1.1.isNone)
  bif x27 then (
  some ((), ((false, ()), ())))
  else (
  let x28 : Bool := (x14.2.1.1 != d.2.2.1.1)
  bif x28 then (
  some ((), ((false, ()), ())))
  else (
  let x29 : Int := (iconv .u16 d.2.2.1.1)
  let x30 : Bool := (x17.2.1.1 != x29)
  bif x30 then (
  some ((), ((false, ()), ())))
  else (
  let x31 : Int := (x21.1.1.length : Int)
  let x32 : Int := (d.2.2.2.1.1.length : Int)
  let x33 : Bool := (x31 != x32)
  bif x33 then (
  some ((), ((false, ()), ())))
  else (
  (g_hnum_Bytes ((), ((x23.1.1, ()), ((d.2.1.1, ()), ())))).bind fun x34 =>
  let x35 : Bool := (!x34.2.1.1)
  bif x35 then (
  some ((), ((false, ()), ())))
  else (
  let x36 : Int := (d.2.2.2.1.1.length : Int)
  (T.1 ((x12.1.1, (x21.1.1, ())), ((d.2.1.1, ()), ((d.2.2.2.1.1, ()), ((), ((), ((d.2.2.2.1.1, ()), ((x36, ()), (((0 : Int), ()), ()))))))))))))))))))))
def c_law03_OctetsBack : List Nat := []
def L_law03_OctetsBack (k : Nat) : Pts po_law03_OctetsBack.den := [(17, ⟨sh_law03_OctetsBack_17, (f_law03_OctetsBack_t k).1⟩)]
def R_law03_OctetsBack (_ : Nat) : PtsR po_law03_OctetsBack.den := []
def E_law03_OctetsBack : Env := (((((((((E0.add 17 (typedSem pi_hnum_Bytes po_hnum_Bytes g_hnum_Bytes)).add 19 (typedSem pi_law03_alive po_law03_alive g_law03_alive)).add 20 (typedSem pi_octets_Put_u32 po_octets_Put_u32 g_octets_Put_u32)).add 21 (typedSem pi_octets_Put_u16 po_octets_Put_u16 g_octets_Put_u16)).add 22 (typedSem pi_octets_Put_u64 po_octets_Put_u64 g_octets_Put_u64)).add 23 (typedSem pi_octets_Get_u64 po_octets_Get_u64 g_octets_Get_u64)).add 24 (typedSem pi_octets_Get_u16 po_octets_Get_u16 g_octets_Get_u16)).add 25 (typedSem pi_octets_List_u32 po_octets_List_u32 g_octets_List_u32)).add 26 (typedSem pi_octets_Cut po_octets_Cut g_octets_Cut))
theorem q_law03_OctetsBack_17 (k : Nat) (d : ((List Int) × ((List Int) × Unit)) × (((List Int) × Unit) × (((List Int) × Unit) × (Unit × (Unit × (((List Int) × Unit) × ((Int × Unit) × ((Int × Unit) × Unit)))))))) : evAt E_law03_OctetsBack (tb (L_law03_OctetsBack k) (R_law03_OctetsBack k)) c_law03_OctetsBack 17 (bodyOf Try.f4) 0 (finK E_law03_OctetsBack po_law03_OctetsBack [.tmp 6]) (ptSt sh_law03_OctetsBack_17 d) = f_law03_OctetsBack_p17 (f_law03_OctetsBack_t k) d := by kernel_rfl
theorem q_law03_OctetsBack_m (k : Nat) (d : Unit × (((List Int) × Unit) × ((Int × Unit) × (((List Int) × Unit) × Unit)))) : evCode E_law03_OctetsBack (tb (L_law03_OctetsBack k) (R_law03_OctetsBack k)) c_law03_OctetsBack (bodyOf Try.f4) 0 (finK E_law03_OctetsBack po_law03_OctetsBack [.tmp 6]) (startSt pi_law03_OctetsBack 132 d) = f_law03_OctetsBack_m (f_law03_OctetsBack_t k) d := by kernel_rfl
theorem go_law03_OctetsBack (F : Unit × (((List Int) × Unit) × ((Int × Unit) × (((List Int) × Unit) × Unit))) → Option (Unit × ((Bool × Unit) × Unit))) (hF : ∀ d out, F d = some out → ∃ k, f_law03_OctetsBack_m (f_law03_OctetsBack_t k) d = some out) : FnOk Try.prog ET0 4 pi_law03_OctetsBack po_law03_OctetsBack F :=
  fn_of_body (E := E_law03_OctetsBack) (envOk_add (envOk_add (envOk_add (envOk_add (envOk_add (envOk_add (envOk_add (envOk_add (envOk_add e0_ok (typed_ok ok_hnum_Bytes)) (typed_ok ok_law03_alive)) (typed_ok ok_octets_Put_u32)) (typed_ok ok_octets_Put_u16)) (typed_ok ok_octets_Put_u64)) (typed_ok ok_octets_Get_u64)) (typed_ok ok_octets_Get_u16)) (typed_ok ok_octets_List_u32)) (typed_ok ok_octets_Cut)) (fn := Try.f4) Try.func4 (by kernel_rfl) (by kernel_rfl) [.tmp 6] (by kernel_rfl) (by kernel_rfl) (by decide) rfl c_law03_OctetsBack L_law03_OctetsBack R_law03_OctetsBack
    (by intro x hx d; simp only [L_law03_OctetsBack, List.mem_cons, List.not_mem_nil, or_false] at hx; subst hx; rfl)
    (by intro k x hx d out h; simp only [L_law03_OctetsBack, List.mem_cons, List.not_mem_nil, or_false] at hx; subst hx; exact (q_law03_OctetsBack_17 k d).trans h)
    (by intro x hx; cases hx)
    (by intro k x hx; cases hx)
    (by intro d out h; obtain ⟨k, hk⟩ := hF d out h; exact ⟨k, (q_law03_OctetsBack_m k d).trans hk⟩)
def g_law03_OctetsBack (d : Unit × (((List Int) × Unit) × ((Int × Unit) × (((List Int) × Unit) × Unit)))) : Option (Unit × ((Bool × Unit) × Unit)) := lim fun k => f_law03_OctetsBack_m (f_law03_OctetsBack_t k) d
theorem ok_law03_OctetsBack : FnOk Try.prog ET0 4 pi_law03_OctetsBack po_law03_OctetsBack g_law03_OctetsBack := go_law03_OctetsBack g_law03_OctetsBack fun d out h => lim_some h

/- (horologe/stamp.Long).bits -/
@[reducible] def pi_stamp_Long_bits : PSh := ⟨[], [.mk true [.v (.int .u32), .v (.int .u32)]]⟩
@[reducible] def po_stamp_Long_bits : PSh := ⟨[], [.mk false [.v (.int .u64)]]⟩
def f_stamp_Long_bits_m (T : Unit) (d : Unit × ((Int × (Int × Unit)) × Unit)) : Option (Unit × ((Int × Unit) × Unit)) :=
  let x1 : Int := (iconv .u64 d.2.1.1)
  let x2 : Int := (ishl .u64 x1 (32 : Int))
  let x3 : Int := (iconv .u64 d.2.1.2.1)
  let x4 : Int := (ior .u64 x2 x3)
  some ((), ((x4, ()), ()))
def c_stamp_Long_bits : List Nat := []
def L_stamp_Long_bits (_ : Nat) : Pts po_stamp_Long_bits.den := []
def R_stamp_Long_bits (_ : Nat) : PtsR po_stamp_Long_bits.den := []
def E_stamp_Long_bits : Env := E0
theorem q_stamp_Long_bits_m (k : Nat) (d : Unit × ((Int × (Int × Unit)) × Unit)) : evCode E_stamp_Long_bits (tb (L_stamp_Long_bits k) (R_stamp_Long_bits k)) c_stamp_Long_bits (bodyOf Try.f82) 0 (finK E_stamp_Long_bits po_stamp_Long_bits [.tmp 2]) (startSt pi_stamp_Long_bits 11 d) = f_stamp_Long_bits_m () d := by kernel_rfl
def g_stamp_Long_bits (d : Unit × ((Int × (Int × Unit)) × Unit)) : Option (Unit × ((Int × Unit) × Unit)) := f_stamp_Long_bits_m () d
theorem ok_stamp_Long_bits : FnOk Try.prog ET0 82 pi_stamp_Long_bits po_stamp_Long_bits g_stamp_Long_bits :=
  fn_of_body (E := E_stamp_Long_bits) e0_ok (fn := Try.f82) Try.func82 (by kernel_rfl) (by kernel_rfl) [.tmp 2] (by kernel_rfl) (by kernel_rfl) (by decide) rfl c_stamp_Long_bits L_stamp_Long_bits R_stamp_Long_bits
    (by intro x hx; cases hx) (by intro k x hx; cases hx) (by intro x hx; cases hx) (by intro k x hx; cases hx) (fun d out h => ⟨0, (q_stamp_Long_bits_m 0 d).trans h⟩)

/- horologe/stamp.Sub -/
@[reducible] def pi_stamp_Sub : PSh := ⟨[], [.mk true [.v (.int .u32), .v (.int .u32)], .mk true [.v (.int .u32), .v (.int .u32)]]⟩
@[reducible] def po_stamp_Sub : PSh := ⟨[], [.mk false [.v (.int .i64)]]⟩
def f_stamp_Sub_m (T : Unit) (d : Unit × ((Int × (Int × Unit)) × ((Int × (Int × Unit)) × Unit))) : Option (Unit × ((Int × Unit) × Unit)) :=
  (g_stamp_Long_bits ((), ((d.2.1.1, (d.2.1.2.1, ())), ()))).bind fun x1 =>
  (g_stamp_Long_bits ((), ((d.2.2.1.1, (d.2.2.1.2.1, ())), ()))).bind fun x2 =>
  let x3 : Int := (isub .u64 x1.2.1.1 x2.2.1.1)
  let x4 : Int := (iconv .i64 x3)
  some ((), ((x4, ()), ()))
def c_stamp_Sub : List Nat := []
def L_stamp_Sub (_ : Nat) : Pts po_stamp_Sub.den := []
def R_stamp_Sub (_ : Nat) : PtsR po_stamp_Sub.den := []
def E_stamp_Sub : Env := (E0.add 82 (typedSem pi_stamp_Long_bits po_stamp_Long_bits g_stamp_Long_bits))
theorem q_stamp_Sub_m (k : Nat) (d : Unit × ((Int × (Int × Unit)) × ((Int × (Int × Unit)) × Unit))) : evCode E_stamp_Sub (tb (L_stamp_Sub k) (R_stamp_Sub k)) c_stamp_Sub (bodyOf Try.f37) 0 (finK E_stamp_Sub po_stamp_Sub [.tmp 4]) (startSt pi_stamp_Sub 11 d) = f_stamp_Sub_m () d := by kernel_rfl
def g_stamp_Sub (d : Unit × ((Int × (Int × Unit)) × ((Int × (Int × Unit)) × Unit))) : Option (Unit × ((Int × Unit) × Unit)) := f_stamp_Sub_m () d
theorem ok_stamp_Sub : FnOk Try.prog ET0 37 pi_stamp_Sub po_stamp_Sub g_stamp_Sub :=
  fn_of_body (E := E_stamp_Sub) (envOk_add e0_ok (typed_ok ok_stamp_Long_bits)) (fn := Try.f37) Try.func37 (by kernel_rfl) (by kernel_rfl) [.tmp 4] (by kernel_rfl) (by kernel_rfl) (by decide) rfl c_stamp_Sub L_stamp_Sub R_stamp_Sub
    (by intro x hx; cases hx) (by intro k x hx; cases hx) (by intro x hx; cases hx) (by intro k x hx; cases hx) (fun d out h => ⟨0, (q_stamp_Sub_m 0 d).trans h⟩)

/- horologe/head.Round -/
@[reducible] def pi_head_Round : PSh := ⟨[], [.mk true [.v (.int .i64), .v (.int .i64), .v (.int .i64), .v (.int .u8), .v (.int .i8), .v (.int .i8), .v (.int .u16), .v (.int .u16), .v (.int .u16), .v (.int .u16), .v (.int .u8), .v (.int .u8), .v (.int .u8), .v (.int .u8), .v (.int .u32), .v (.int .u32), .v (.int .u32), .v (.int .u32), .v (.int .u32), .v (.int .u32), .v (.int .u32), .v (.int .u32)], .mk true [.v (.int .u32), .v (.int .u32)]]⟩
@[reducible] def po_head_Round : PSh := ⟨[], [.mk false [.v (.int .i64)], .mk false [.v (.int .i64)]]⟩
def f_head_Round_m (T : Unit) (d : Unit × ((Int × (Int × (Int × (Int × (Int × (Int × (Int × (Int × (Int × (Int × (Int × (Int × (Int × (Int × (Int × (Int × (Int × (Int × (Int × (Int × (Int × (Int × Unit)))))))))))))))))))))) × ((Int × (Int × Unit)) × Unit))) : Option (Unit × ((Int × Unit) × ((Int × Unit) × Unit))) :=
  (g_stamp_Sub ((), ((d.2.1.2.2.2.2.2.2.2.2.2.2.2.2.2.2.2.2.2.2.1, (d.2.1.2.2.2.2.2.2.2.2.2.2.2.2.2.2.2.2.2.2.2.1, ())), ((d.2.1.2.2.2.2.2.2.2.2.2.2.2.2.2.2.2.2.1, (d.2.1.2.2.2.2.2.2.2.2.2.2.2.2.2.2.2.2.2.1, ())), ())))).bind fun x1 =>
  (g_stamp_Sub ((), ((d.2.1.2.2.2.2.2.2.2.2.2.2.2.2.2.2.2.2.2.2.2.2.1, (d.2.1.2.2.2.2.2.2.2.2.2.2.2.2.2.2.2.2.2.2.2.2.2.1, ())), ((d.2.2.1.1, (d.2.2.1.2.1, ())), ())))).bind fun x2 =>
  (g_stamp_Sub ((), ((d.2.2.1.1, (d.2.2.1.2.1, ())), ((d.2.1.2.2.2.2.2.2.2.2.2.2.2.2.2.2.2.2.1, (d.2.1.2.2.2.2.2.2.2.2.2.2.2.2.2.2.2.2.2.1, ())), ())))).bind fun x3 =>
  (g_stamp_Sub ((), ((d.2.1.2.2.2.2.2.2.2.2.2.2.2.2.2.2.2.2.2.2.2.2.1, (d.2.1.2.2.2.2.2.2.2.2.2.2.2.2.2.2.2.2.2.2.2.2.2.1, ())), ((d.2.1.2.2.2.2.2.2.2.2.2.2.2.2.2.2.2.2.2.2.1, (d.2.1.2.2.2.2.2.2.2.2.2.2.2.2.2.2.2.2.2.2.2.1, ())), ())))).bind fun x4 =>
  let x5 : Int := (isub .i64 x3.2.1.1 x4.2.1.1)
  let x6 : Int := (ishr .i64 x1.2.1.1 (1 : Int))
  let x7 : Int := (ishr .i64 x2.2.1.1 (1 : Int))
  let x8 : Int := (iadd .i64 x6 x7)
  let x9 : Int := (iand .i64 x1.2.1.1 x2.2.1.1)
  let x10 : Int := (iand .i64 x9 (1 : Int))
  let x11 : Int := (iadd .i64 x8 x10)
  some ((), ((x11, ()), ((x5, ()), ())))
def c_head_Round : List Nat := []
def L_head_Round (_ : Nat) : Pts po_head_Round.den := []
def R_head_Round (_ : Nat) : PtsR po_head_Round.den := []
def E_head_Round : Env := (E0.add 37 (typedSem pi_stamp_Sub po_stamp_Sub g_stamp_Sub))
theorem q_head_Round_m (k : Nat) (d : Unit × ((Int × (Int × (Int × (Int × (Int × (Int × (Int × (Int × (Int × (Int × (Int × (Int × (Int × (Int × (Int × (Int × (Int × (Int × (Int × (Int × (Int × (Int × Unit)))))))))))))))))))))) × ((Int × (Int × Unit)) × Unit))) : evCode E_head_Round (tb (L_head_Round k) (R_head_Round k)) c_head_Round (bodyOf Try.f27) 0 (finK E_head_Round po_head_Round [.tmp 4, .tmp 5]) (startSt pi_head_Round 38 d) = f_head_Round_m () d := by kernel_rfl
def g_head_Round (d : Unit × ((Int × (Int × (Int × (Int × (Int × (Int × (Int × (Int × (Int × (Int × (Int × (Int × (Int × (Int × (Int × (Int × (Int × (Int × (Int × (Int × (Int × (Int × Unit)))))))))))))))))))))) × ((Int × (Int × Unit)) × Unit))) : Option (Unit × ((Int × Unit) × ((Int × Unit) × Unit))) := f_head_Round_m () d
theorem ok_head_Round : FnOk Try.prog ET0 27 pi_head_Round po_head_Round g_head_Round :=
  fn_of_body (E := E_head_Round) (envOk_add e0_ok (typed_ok ok_stamp_Sub)) (fn := Try.f27) Try.func27 (by kernel_rfl) (by kernel_rfl) [.tmp 4, .tmp 5] (by kernel_rfl) (by kernel_rfl) (by decide) rfl c_head_Round L_head_Round R_head_Round
    (by intro x hx; cases hx) (by intro k x hx; cases hx) (by intro x hx; cases hx) (by intro k x hx; cases hx) (fun d out h => ⟨0, (q_head_Round_m 0 d).trans h⟩)

/- horologe/horologeref28.half -/
@[reducible] def pi_ref28_half : PSh := ⟨[], [.mk false [.v (.int .i64)]]⟩
@[reducible] def po_ref28_half : PSh := ⟨[], [.mk false [.v (.int .i64)], .mk false [.v (.int .i64)]]⟩
def f_ref28_half_m (T : Unit) (d : Unit × ((Int × Unit) × Unit)) : Option (Unit × ((Int × Unit) × ((Int × Unit) × Unit))) :=
  let x1 : Int := (Int.tmod d.2.1.1 (2 : Int))
  let x2 : Bool := (decide (x1 < (0 : Int)))
  bif x2 then (
  let x3 : Int := (isub .i64 d.2.1.1 (1 : Int))
  let x4 : Int := (iquo .i64 x3 (2 : Int))
  some ((), ((x4, ()), (((1 : Int), ()), ()))))
  else (
  let x5 : Int := (isub .i64 d.2.1.1 x1)
  let x6 : Int := (iquo .i64 x5 (2 : Int))
  some ((), ((x6, ()), ((x1, ()), ()))))
def c_ref28_half : List Nat := []
def L_ref28_half (_ : Nat) : Pts po_ref28_half.den := []
def R_ref28_half (_ : Nat) : PtsR po_ref28_half.den := []
def E_ref28_half : Env := E0
theorem q_ref28_half_m (k : Nat) (d : Unit × ((Int × Unit) × Unit)) : evCode E_ref28_half (tb (L_ref28_half k) (R_ref28_half k)) c_ref28_half (bodyOf Try.f68) 0 (finK E_ref28_half po_ref28_half [.tmp 2, .tmp 3]) (startSt pi_ref28_half 14 d) = f_ref28_half_m () d := by kernel_rfl
def g_ref28_half (d : Unit × ((Int × Unit) × Unit)) : Option (Unit × ((Int × Unit) × ((Int × Unit) × Unit))) := f_ref28_half_m () d
theorem ok_ref28_half : FnOk Try.prog ET0 68 pi_ref28_half po_ref28_half g_ref28_half :=
  fn_of_body (E := E_ref28_half) e0_ok (fn := Try.f68) Try.func68 (by kernel_rfl) (by kernel_rfl) [.tmp 2, .tmp 3] (by kernel_rfl) (by kernel_rfl) (by decide) rfl c_ref28_half L_ref28_half R_ref28_half
    (by intro x hx; cases hx) (by intro k x hx; cases hx) (by intro x hx; cases hx) (by intro k x hx; cases hx) (fun d out h => ⟨0, (q_ref28_half_m 0 d).trans h⟩)

/- horologe/horologeref28.Round -/
@[reducible] def pi_ref28_Round : PSh := ⟨[], [.mk true [.v (.int .i64), .v (.int .i64), .v (.int .i64), .v (.int .i64), .v (.int .i64), .v (.int .i64), .v (.int .u64), .v (.int .u64), .v (.int .u8), .v (.int .u8), .v (.int .u8), .v (.int .u8), .v (.int .u64), .v (.int .u64), .v (.int .u64), .v (.int .u64)], .mk false [.v (.int .u64)]]⟩
@[reducible] def po_ref28_Round : PSh := ⟨[], [.mk false [.v (.int .i64)], .mk false [.v (.int .i64)]]⟩
def f_ref28_Round_m (T : Unit) (d : Unit × ((Int × (Int × (Int × (Int × (Int × (Int × (Int × (Int × (Int × (Int × (Int × (Int × (Int × (Int × (Int × (Int × Unit)))))))))))))))) × ((Int × Unit) × Unit))) : Option (Unit × ((Int × Unit) × ((Int × Unit) × Unit))) :=
  let x1 : Int := (isub .u64 d.2.1.2.2.2.2.2.2.2.2.2.2.2.2.2.2.1 d.2.1.2.2.2.2.2.2.2.2.2.2.2.2.2.1)
  let x2 : Int := (iconv .i64 x1)
  (g_ref28_half ((), ((x2, ()), ()))).bind fun x3 =>
  let x4 : Int := (isub .u64 d.2.1.2.2.2.2.2.2.2.2.2.2.2.2.2.2.2.1 d.2.2.1.1)
  let x5 : Int := (iconv .i64 x4)
  (g_ref28_half ((), ((x5, ()), ()))).bind fun x6 =>
  let x7 : Int := (iadd .i64 x3.2.1.1 x6.2.1.1)
  let x8 : Int := (imul .i64 x3.2.2.1.1 x6.2.2.1.1)
  let x9 : Int := (iadd .i64 x7 x8)
  let x10 : Int := (isub .u64 d.2.2.1.1 d.2.1.2.2.2.2.2.2.2.2.2.2.2.2.2.1)
  let x11 : Int := (iconv .i64 x10)
  let x12 : Int := (isub .u64 d.2.1.2.2.2.2.2.2.2.2.2.2.2.2.2.2.2.1 d.2.1.2.2.2.2.2.2.2.2.2.2.2.2.2.2.1)
  let x13 : Int := (iconv .i64 x12)
  let x14 : Int := (isub .i64 x11 x13)
  some ((), ((x9, ()), ((x14, ()), ())))
def c_ref28_Round : List Nat := []
def L_ref28_Round (_ : Nat) : Pts po_ref28_Round.den := []
def R_ref28_Round (_ : Nat) : PtsR po_ref28_Round.den := []
def E_ref28_Round : Env := (E0.add 68 (typedSem pi_ref28_half po_ref28_half g_ref28_half))
theorem q_ref28_Round_m (k : Nat) (d : Unit × ((Int × (Int × (Int × (Int × (Int × (Int × (Int × (Int × (Int × (Int × (Int × (Int × (Int × (Int × (Int × (Int × Unit)))))))))))))))) × ((Int × Unit) × Unit))) : evCode E_ref28_Round (tb (L_ref28_Round k) (R_ref28_Round k)) c_ref28_Round (bodyOf Try.f28) 0 (finK E_ref28_Round po_ref28_Round [.tmp 4, .tmp 5]) (startSt pi_ref28_Round 48 d) = f_ref28_Round_m () d := by kernel_rfl
def g_ref28_Round (d : Unit × ((Int × (Int × (Int × (Int × (Int × (Int × (Int × (Int × (Int × (Int × (Int × (Int × (Int × (Int × (Int × (Int × Unit)))))))))))))))) × ((Int × Unit) × Unit))) : Option (Unit × ((Int × Unit) × ((Int × Unit) × Unit))) := f_ref28_Round_m () d
theorem ok_ref28_Round : FnOk Try.prog ET0 28 pi_ref28_Round po_ref28_Round g_ref28_Round :=
  fn_of_body (E := E_ref28_Round) (envOk_add e0_ok (typed_ok ok_ref28_half)) (fn := Try.f28) Try.func28 (by kernel_rfl) (by kernel_rfl) [.tmp 4, .tmp 5] (by kernel_rfl) (by kernel_rfl) (by decide) rfl c_ref28_Round L_ref28_Round R_ref28_Round
    (by intro x hx; cases hx) (by intro k x hx; cases hx) (by intro x hx; cases hx) (by intro k x hx; cases hx) (fun d out h => ⟨0, (q_ref28_Round_m 0 d).trans h⟩)

/- horologe/horologelaw28.HeadRounds -/
@[reducible] def pi_law28_HeadRounds : PSh := ⟨[], [.mk true [.v (.int .i64), .v (.int .i64), .v (.int .i64), .v (.int .u8), .v (.int .i8), .v (.int .i8), .v (.int .u16), .v (.int .u16), .v (.int .u16), .v (.int .u16), .v (.int .u8), .v (.int .u8), .v (.int .u8), .v (.int .u8), .v (.int .u32), .v (.int .u32), .v (.int .u32), .v (.int .u32), .v (.int .u32), .v (.int .u32), .v (.int .u32), .v (.int .u32)], .mk false [.v (.int .u64)]]⟩
@[reducible] def po_law28_HeadRounds : PSh := ⟨[], [.mk false [.v .bool]]⟩
def f_law28_HeadRounds_m (T : Unit) (d : Unit × ((Int × (Int × (Int × (Int × (Int × (Int × (Int × (Int × (Int × (Int × (Int × (Int × (Int × (Int × (Int × (Int × (Int × (Int × (Int × (Int × (Int × (Int × Unit)))))))))))))))))))))) × ((Int × Unit) × Unit))) : Option (Unit × ((Bool × Unit) × Unit)) :=
  (g_law28_alive ((), ())).bind fun x1 =>
  let x2 : Bool := (!x1.2.1.1)
  bif x2 then (
  some ((), ((false, ()), ())))
  else (
  let x3 : Int := (ishr .u64 d.2.2.1.1 (32 : Int))
  let x4 : Int := (iconv .u32 x3)
  let x5 : Int := (iconv .u32 d.2.2.1.1)
  (g_head_Round ((), ((d.2.1.1, (d.2.1.2.1, (d.2.1.2.2.1, (d.2.1.2.2.2.1, (d.2.1.2.2.2.2.1, (d.2.1.2.2.2.2.2.1, (d.2.1.2.2.2.2.2.2.1, (d.2.1.2.2.2.2.2.2.2.1, (d.2.1.2.2.2.2.2.2.2.2.1, (d.2.1.2.2.2.2.2.2.2.2.2.1, (d.2.1.2.2.2.2.2.2.2.2.2.2.1, (d.2.1.2.2.2.2.2.2.2.2.2.2.2.1, (d.2.1.2.2.2.2.2.2.2.2.2.2.2.2.1, (d.2.1.2.2.2.2.2.2.2.2.2.2.2.2.2.1, (d.2.1.2.2.2.2.2.2.2.2.2.2.2.2.2.2.1, (d.2.1.2.2.2.2.2.2.2.2.2.2.2.2.2.2.2.1, (d.2.1.2.2.2.2.2.2.2.2.2.2.2.2.2.2.2.2.1, (d.2.1.2.2.2.2.2.2.2.2.2.2.2.2.2.2.2.2.2.1, (d.2.1.2.2.2.2.2.2.2.2.2.2.2.2.2.2.2.2.2.2.1, (d.2.1.2.2.2.2.2.2.2.2.2.2.2.2.2.2.2.2.2.2.2.1, (d.2.1.2.2.2.2.2.2.2.2.2.2.2.2.2.2.2.2.2.2.2.2.1, (d.2.1.2.2.2.2.2.2.2.2.2.2.2.2.2.2.2.2.2.2.2.2.2.1, ())))))))))))))))))))))), ((x4, (x5, ())), ())))).bind fun x6 =>
  (g_law28_Document ((), ((d.2.1.1, (d.2.1.2.1, (d.2.1.2.2.1, (d.2.1.2.2.2.1, (d.2.1.2.2.2.2.1, (d.2.1.2.2.2.2.2.1, (d.2.1.2.2.2.2.2.2.1, (d.2.1.2.2.2.2.2.2.2.1, (d.2.1.2.2.2.2.2.2.2.2.1, (d.2.1.2.2.2.2.2.2.2.2.2.1, (d.2.1.2.2.2.2.2.2.2.2.2.2.1, (d.2.1.2.2.2.2.2.2.2.2.2.2.2.1, (d.2.1.2.2.2.2.2.2.2.2.2.2.2.2.1, (d.2.1.2.2.2.2.2.2.2.2.2.2.2.2.2.1, (d.2.1.2.2.2.2.2.2.2.2.2.2.2.2.2.2.1, (d.2.1.2.2.2.2.2.2.2.2.2.2.2.2.2.2.2.1, (d.2.1.2.2.2.2.2.2.2.2.2.2.2.2.2.2.2.2.1, (d.2.1.2.2.2.2.2.2.2.2.2.2.2.2.2.2.2.2.2.1, (d.2.1.2.2.2.2.2.2.2.2.2.2.2.2.2.2.2.2.2.2.1, (d.2.1.2.2.2.2.2.2.2.2.2.2.2.2.2.2.2.2.2.2.2.1, (d.2.1.2.2.2.2.2.2.2.2.2.2.2.2.2.2.2.2.2.2.2.2.1, (d.2.1.2.2.2.2.2.2.2.2.2.2.2.2.2.2.2.2.2.2.2.2.2.1, ())))))))))))))))))))))), ()))).bind fun x7 =>
  (g_ref28_Round ((), ((x7.2.1.1, (x7.2.1.2.1, (x7.2.1.2.2.1, (x7.2.1.2.2.2.1, (x7.2.1.2.2.2.2.1, (x7.2.1.2.2.2.2.2.1, (x7.2.1.2.2.2.2.2.2.1, (x7.2.1.2.2.2.2.2.2.2.1, (x7.2.1.2.2.2.2.2.2.2.2.1, (x7.2.1.2.2.2.2.2.2.2.2.2.1, (x7.2.1.2.2.2.2.2.2.2.2.2.2.1, (x7.2.1.2.2.2.2.2.2.2.2.2.2.2.1, (x7.2.1.2.2.2.2.2.2.2.2.2.2.2.2.1, (x7.2.1.2.2.2.2.2.2.2.2.2.2.2.2.2.1, (x7.2.1.2.2.2.2.2.2.2.2.2.2.2.2.2.2.1, (x7.2.1.2.2.2.2.2.2.2.2.2.2.2.2.2.2.2.1, ())))))))))))))))), ((d.2.2.1.1, ()), ())))).bind fun x8 =>
  let x9 : Bool := (x6.2.1.1 == x8.2.1.1)
  bif x9 then (
  let x10 : Bool := (x6.2.2.1.1 == x8.2.2.1.1)
  some ((), ((x10, ()), ())))
  else (
  some ((), ((false, ()), ()))))
def c_law28_HeadRounds : List Nat := []
def L_law28_HeadRounds (_ : Nat) : Pts po_law28_HeadRounds.den := []
def R_law28_HeadRounds (_ : Nat) : PtsR po_law28_HeadRounds.den := []
def E_law28_HeadRounds : Env := ((((E0.add 11 (typedSem pi_law28_alive po_law28_alive g_law28_alive)).add 14 (typedSem pi_law28_Document po_law28_Document g_law28_Document)).add 27 (typedSem pi_head_Round po_head_Round g_head_Round)).add 28 (typedSem pi_ref28_Round po_ref28_Round g_ref28_Round))
theorem q_law28_HeadRounds_m (k : Nat) (d : Unit × ((Int × (Int × (Int × (Int × (Int × (Int × (Int × (Int × (Int × (Int × (Int × (Int × (Int × (Int × (Int × (Int × (Int × (Int × (Int × (Int × (Int × (Int × Unit)))))))))))))))))))))) × ((Int × Unit) × Unit))) : evCode E_law28_HeadRounds (tb (L_law28_HeadRounds k) (R_law28_HeadRounds k)) c_law28_HeadRounds (bodyOf Try.f5) 0 (finK E_law28_HeadRounds po_law28_HeadRounds [.tmp 4]) (startSt pi_law28_HeadRounds 37 d) = f_law28_HeadRounds_m () d := by kernel_rfl
def g_law28_HeadRounds (d : Unit × ((Int × (Int × (Int × (Int × (Int × (Int × (Int × (Int × (Int × (Int × (Int × (Int × (Int × (Int × (Int × (Int × (Int × (Int × (Int × (Int × (Int × (Int × Unit)))))))))))))))))))))) × ((Int × Unit) × Unit))) : Option (Unit × ((Bool × Unit) × Unit)) := f_law28_HeadRounds_m () d
theorem ok_law28_HeadRounds : FnOk Try.prog ET0 5 pi_law28_HeadRounds po_law28_HeadRounds g_law28_HeadRounds :=
  fn_of_body (E := E_law28_HeadRounds) (envOk_add (envOk_add (envOk_add (envOk_add e0_ok (typed_ok ok_law28_alive)) (typed_ok ok_law28_Document)) (typed_ok ok_head_Round)) (typed_ok ok_ref28_Round)) (fn := Try.f5) Try.func5 (by kernel_rfl) (by kernel_rfl) [.tmp 4] (by kernel_rfl) (by kernel_rfl) (by decide) rfl c_law28_HeadRounds L_law28_HeadRounds R_law28_HeadRounds
    (by intro x hx; cases hx) (by intro k x hx; cases hx) (by intro x hx; cases hx) (by intro k x hx; cases hx) (fun d out h => ⟨0, (q_law28_HeadRounds_m 0 d).trans h⟩)

/- horologe/stamp.right -/
@[reducible] def pi_stamp_right : PSh := ⟨[], [.mk false [.v (.int .i64)]]⟩
@[reducible] def po_stamp_right : PSh := ⟨[], [.mk false [.v .bool]]⟩
def f_stamp_right_m (T : Unit) (d : Unit × ((Int × Unit) × Unit)) : Option (Unit × ((Bool × Unit) × Unit)) :=
  let x1 : Bool := (decide (d.2.1.1 ≥ (0 : Int)))
  bif x1 then (
  let x2 : Bool := (decide (d.2.1.1 < (1000000000 : Int)))
  some ((), ((x2, ()), ())))
  else (
  some ((), ((false, ()), ())))
def c_stamp_right : List Nat := []
def L_stamp_right (_ : Nat) : Pts po_stamp_right.den := []
def R_stamp_right (_ : Nat) : PtsR po_stamp_right.den := []
def E_stamp_right : Env := E0
theorem q_stamp_right_m (k : Nat) (d : Unit × ((Int × Unit) × Unit)) : evCode E_stamp_right (tb (L_stamp_right k) (R_stamp_right k)) c_stamp_right (bodyOf Try.f85) 0 (finK E_stamp_right po_stamp_right [.tmp 2]) (startSt pi_stamp_right 9 d) = f_stamp_right_m () d := by kernel_rfl
def g_stamp_right (d : Unit × ((Int × Unit) × Unit)) : Option (Unit × ((Bool × Unit) × Unit)) := f_stamp_right_m () d
theorem ok_stamp_right : FnOk Try.prog ET0 85 pi_stamp_right po_stamp_right g_stamp_right :=
  fn_of_body (E := E_stamp_right) e0_ok (fn := Try.f85) Try.func85 (by kernel_rfl) (by kernel_rfl) [.tmp 2] (by kernel_rfl) (by kernel_rfl) (by decide) rfl c_stamp_right L_stamp_right R_stamp_right
    (by intro x hx; cases hx) (by intro k x hx; cases hx) (by intro x hx; cases hx) (by intro k x hx; cases hx) (fun d out h => ⟨0, (q_stamp_right_m 0 d).trans h⟩)

/- horologe/stamp.Fraction -/
@[reducible] def pi_stamp_Fraction : PSh := ⟨[], [.mk false [.v (.int .i64)]]⟩
@[reducible] def po_stamp_Fraction : PSh := ⟨[], [.mk false [.v (.int .u32)], .mk false [.v .err]]⟩
def f_stamp_Fraction_m (T : Unit) (d : Unit × ((Int × Unit) × Unit)) : Option (Unit × ((Int × Unit) × (((Option Int) × Unit) × Unit))) :=
  (g_stamp_right ((), ((d.2.1.1, ()), ()))).bind fun x1 =>
  let x2 : Bool := (!x1.2.1.1)
  bif x2 then (
  let x3 : (Option Int) := (some (1 : Int))
  some ((), (((0 : Int), ()), ((x3, ()), ()))))
  else (
  let x4 : Int := (iconv .u64 d.2.1.1)
  let x5 : Int := (ishl .u64 x4 (32 : Int))
  let x6 : Int := (iadd .u64 x5 (1000000000 : Int))
  let x7 : Int := (isub .u64 x6 (1 : Int))
  let x8 : Int := (iquo .u64 x7 (1000000000 : Int))
  let x9 : Int := (iconv .u32 x8)
  some ((), ((x9, ()), (((none : Option Int), ()), ()))))
def c_stamp_Fraction : List Nat := []
def L_stamp_Fraction (_ : Nat) : Pts po_stamp_Fraction.den := []
def R_stamp_Fraction (_ : Nat) : PtsR po_stamp_Fraction.den := []
def E_stamp_Fraction : Env := (E0.add 85 (typedSem pi_stamp_right po_stamp_right g_stamp_right))
theorem q_stamp_Fraction_m (k : Nat) (d : Unit × ((Int × Unit) × Unit)) : evCode E_stamp_Fraction (tb (L_stamp_Fraction k) (R_stamp_Fraction k)) c_stamp_Fraction (bodyOf Try.f43) 0 (finK E_stamp_Fraction po_stamp_Fraction [.tmp 2, .tmp 3]) (startSt pi_stamp_Fraction 15 d) = f_stamp_Fraction_m () d := by kernel_rfl
def g_stamp_Fraction (d : Unit × ((Int × Unit) × Unit)) : Option (Unit × ((Int × Unit) × (((Option Int) × Unit) × Unit))) := f_stamp_Fraction_m () d
theorem ok_stamp_Fraction : FnOk Try.prog ET0 43 pi_stamp_Fraction po_stamp_Fraction g_stamp_Fraction :=
  fn_of_body (E := E_stamp_Fraction) (envOk_add e0_ok (typed_ok ok_stamp_right)) (fn := Try.f43) Try.func43 (by kernel_rfl) (by kernel_rfl) [.tmp 2, .tmp 3] (by kernel_rfl) (by kernel_rfl) (by decide) rfl c_stamp_Fraction L_stamp_Fraction R_stamp_Fraction
    (by intro x hx; cases hx) (by intro k x hx; cases hx) (by intro x hx; cases hx) (by intro k x hx; cases hx) (fun d out h => ⟨0, (q_stamp_Fraction_m 0 d).trans h⟩)

/- horologe/stamp.Nano -/
@[reducible] def pi_stamp_Nano : PSh := ⟨[], [.mk false [.v (.int .u32)]]⟩
@[reducible] def po_stamp_Nano : PSh := ⟨[], [.mk false [.v (.int .i64)]]⟩
def f_stamp_Nano_m (T : Unit) (d : Unit × ((Int × Unit) × Unit)) : Option (Unit × ((Int × Unit) × Unit)) :=
  let x1 : Int := (iconv .u64 d.2.1.1)
  let x2 : Int := (imul .u64 x1 (1000000000 : Int))
  let x3 : Int := (ishr .u64 x2 (32 : Int))
  let x4 : Int := (iconv .i64 x3)
  some ((), ((x4, ()), ()))
def c_stamp_Nano : List Nat := []
def L_stamp_Nano (_ : Nat) : Pts po_stamp_Nano.den := []
def R_stamp_Nano (_ : Nat) : PtsR po_stamp_Nano.den := []
def E_stamp_Nano : Env := E0
theorem q_stamp_Nano_m (k : Nat) (d : Unit × ((Int × Unit) × Unit)) : evCode E_stamp_Nano (tb (L_stamp_Nano k) (R_stamp_Nano k)) c_stamp_Nano (bodyOf Try.f44) 0 (finK E_stamp_Nano po_stamp_Nano [.tmp 2]) (startSt pi_stamp_Nano 8 d) = f_stamp_Nano_m () d := by kernel_rfl
def g_stamp_Nano (d : Unit × ((Int × Unit) × Unit)) : Option (Unit × ((Int × Unit) × Unit)) := f_stamp_Nano_m () d
theorem ok_stamp_Nano : FnOk Try.prog ET0 44 pi_stamp_Nano po_stamp_Nano g_stamp_Nano :=
  fn_of_body (E := E_stamp_Nano) e0_ok (fn := Try.f44) Try.func44 (by kernel_rfl) (by kernel_rfl) [.tmp 2] (by kernel_rfl) (by kernel_rfl) (by decide) rfl c_stamp_Nano L_stamp_Nano R_stamp_Nano
    (by intro x hx; cases hx) (by intro k x hx; cases hx) (by intro x hx; cases hx) (by intro k x hx; cases hx) (fun d out h => ⟨0, (q_stamp_Nano_m 0 d).trans h⟩)

/- horologe/horologelaw15.alive -/
@[reducible] def pi_law15_alive : PSh := ⟨[], []⟩
@[reducible] def po_law15_alive : PSh := ⟨[], [.mk false [.v .bool]]⟩
def f_law15_alive_m (T : Unit) (d : Unit × Unit) : Option (Unit × ((Bool × Unit) × Unit)) :=
  (g_stamp_Fraction ((), (((500000000 : Int), ()), ()))).bind fun x1 =>
  bif x1.2.2.1.1.isNone then (
  let x2 : Bool := (x1.2.1.1 == (2147483648 : Int))
  bif x2 then (
  (g_stamp_Nano ((), ((x1.2.1.1, ()), ()))).bind fun x3 =>
  let x4 : Bool := (x3.2.1.1 == (500000000 : Int))
  some ((), ((x4, ()), ())))
  else (
  some ((), ((false, ()), ()))))
  else (
  some ((), ((false, ()), ())))
def c_law15_alive : List Nat := []
def L_law15_alive (_ : Nat) : Pts po_law15_alive.den := []
def R_law15_alive (_ : Nat) : PtsR po_law15_alive.den := []
def E_law15_alive : Env := ((E0.add 43 (typedSem pi_stamp_Fraction po_stamp_Fraction g_stamp_Fraction)).add 44 (typedSem pi_stamp_Nano po_stamp_Nano g_stamp_Nano))
theorem q_law15_alive_m (k : Nat) (d : Unit × Unit) : evCode E_law15_alive (tb (L_law15_alive k) (R_law15_alive k)) c_law15_alive (bodyOf Try.f33) 0 (finK E_law15_alive po_law15_alive [.tmp 0]) (startSt pi_law15_alive 18 d) = f_law15_alive_m () d := by kernel_rfl
def g_law15_alive (d : Unit × Unit) : Option (Unit × ((Bool × Unit) × Unit)) := f_law15_alive_m () d
theorem ok_law15_alive : FnOk Try.prog ET0 33 pi_law15_alive po_law15_alive g_law15_alive :=
  fn_of_body (E := E_law15_alive) (envOk_add (envOk_add e0_ok (typed_ok ok_stamp_Fraction)) (typed_ok ok_stamp_Nano)) (fn := Try.f33) Try.func33 (by kernel_rfl) (by kernel_rfl) [.tmp 0] (by kernel_rfl) (by kernel_rfl) (by decide) rfl c_law15_alive L_law15_alive R_law15_alive
    (by intro x hx; cases hx) (by intro k x hx; cases hx) (by intro x hx; cases hx) (by intro k x hx; cases hx) (fun d out h => ⟨0, (q_law15_alive_m 0 d).trans h⟩)

/- horologe/stamp.Zero -/
@[reducible] def pi_stamp_Zero : PSh := ⟨[], [.mk true [.v (.int .u32), .v (.int .u32)]]⟩
@[reducible] def po_stamp_Zero : PSh := ⟨[], [.mk false [.v .bool]]⟩
def f_stamp_Zero_m (T : Unit) (d : Unit × ((Int × (Int × Unit)) × Unit)) : Option (Unit × ((Bool × Unit) × Unit)) :=
  let x1 : Bool := ((d.2.1.1 == (0 : Int)) && ((d.2.1.2.1 == (0 : Int)) && true))
  some ((), ((x1, ()), ()))
def c_stamp_Zero : List Nat := []
def L_stamp_Zero (_ : Nat) : Pts po_stamp_Zero.den := []
def R_stamp_Zero (_ : Nat) : PtsR po_stamp_Zero.den := []
def E_stamp_Zero : Env := E0
theorem q_stamp_Zero_m (k : Nat) (d : Unit × ((Int × (Int × Unit)) × Unit)) : evCode E_stamp_Zero (tb (L_stamp_Zero k) (R_stamp_Zero k)) c_stamp_Zero (bodyOf Try.f38) 0 (finK E_stamp_Zero po_stamp_Zero [.tmp 2]) (startSt pi_stamp_Zero 6 d) = f_stamp_Zero_m () d := by kernel_rfl
def g_stamp_Zero (d : Unit × ((Int × (Int × Unit)) × Unit)) : Option (Unit × ((Bool × Unit) × Unit)) := f_stamp_Zero_m () d
theorem ok_stamp_Zero : FnOk Try.prog ET0 38 pi_stamp_Zero po_stamp_Zero g_stamp_Zero :=
  fn_of_body (E := E_stamp_Zero) e0_ok (fn := Try.f38) Try.func38 (by kernel_rfl) (by kernel_rfl) [.tmp 2] (by kernel_rfl) (by kernel_rfl) (by decide) rfl c_stamp_Zero L_stamp_Zero R_stamp_Zero
    (by intro x hx; cases hx) (by intro k x hx; cases hx) (by intro x hx; cases hx) (by intro k x hx; cases hx) (fun d out h => ⟨0, (q_stamp_Zero_m 0 d).trans h⟩)

/- horologe/stamp.two[uint32] -/
@[reducible] def pi_stamp_two_u32 : PSh := ⟨[], [.mk false [.v (.sl (.int .u8))]]⟩
@[reducible] def po_stamp_two_u32 : PSh := ⟨[], [.mk false [.v (.int .u32)], .mk false [.v (.int .u32)], .mk false [.v .err]]⟩
def f_stamp_two_u32_m (T : Unit) (d : Unit × (((List Int) × Unit) × Unit)) : Option (Unit × ((Int × Unit) × ((Int × Unit) × (((Option Int) × Unit) × Unit)))) :=
  (g_octets_List_u32 ((), ((d.2.1.1, ()), (((0 : Int), ()), (((2 : Int), ()), ()))))).bind fun x1 =>
  let x2 : Bool := (!x1.2.2.1.1.isNone)
  bif x2 then (
  let x3 : (Option Int) := (some (2 : Int))
  some ((), (((0 : Int), ()), (((0 : Int), ()), ((x3, ()), ())))))
  else (
  let x4 : Int := (d.2.1.1.length : Int)
  (g_octets_Size_u32 ((), ())).bind fun x5 =>
  let x6 : Int := (imul .i64 (2 : Int) x5.2.1.1)
  let x7 : Bool := (x4 != x6)
  bif x7 then (
  let x8 : (Option Int) := (some (2 : Int))
  some ((), (((0 : Int), ()), (((0 : Int), ()), ((x8, ()), ())))))
  else (
  bif decide ((0 : Int) ≤ (0 : Int)) && decide ((0 : Int) < (x1.1.1.length : Int)) then (
  bif decide ((0 : Int) ≤ (1 : Int)) && decide ((1 : Int) < (x1.1.1.length : Int)) then (
  some ((), (((gd (.int .u32) x1.1.1 (0 : Int)), ()), (((gd (.int .u32) x1.1.1 (1 : Int)), ()), (((none : Option Int), ()), ())))))
  else none)
  else none))
def c_stamp_two_u32 : List Nat := []
def L_stamp_two_u32 (_ : Nat) : Pts po_stamp_two_u32.den := []
def R_stamp_two_u32 (_ : Nat) : PtsR po_stamp_two_u32.den := []
def E_stamp_two_u32 : Env := ((E0.add 25 (typedSem pi_octets_List_u32 po_octets_List_u32 g_octets_List_u32)).add 60 (typedSem pi_octets_Size_u32 po_octets_Size_u32 g_octets_Size_u32))
theorem q_stamp_two_u32_m (k : Nat) (d : Unit × (((List Int) × Unit) × Unit)) : evCode E_stamp_two_u32 (tb (L_stamp_two_u32 k) (R_stamp_two_u32 k)) c_stamp_two_u32 (bodyOf Try.f83) 0 (finK E_stamp_two_u32 po_stamp_two_u32 [.tmp 2, .tmp 3, .tmp 4]) (startSt pi_stamp_two_u32 28 d) = f_stamp_two_u32_m () d := by kernel_rfl
def g_stamp_two_u32 (d : Unit × (((List Int) × Unit) × Unit)) : Option (Unit × ((Int × Unit) × ((Int × Unit) × (((Option Int) × Unit) × Unit)))) := f_stamp_two_u32_m () d
theorem ok_stamp_two_u32 : FnOk Try.prog ET0 83 pi_stamp_two_u32 po_stamp_two_u32 g_stamp_two_u32 :=
  fn_of_body (E := E_stamp_two_u32) (envOk_add (envOk_add e0_ok (typed_ok ok_octets_List_u32)) (typed_ok ok_octets_Size_u32)) (fn := Try.f83) Try.func83 (by kernel_rfl) (by kernel_rfl) [.tmp 2, .tmp 3, .tmp 4] (by kernel_rfl) (by kernel_rfl) (by decide) rfl c_stamp_two_u32 L_stamp_two_u32 R_stamp_two_u32
    (by intro x hx; cases hx) (by intro k x hx; cases hx) (by intro x hx; cases hx) (by intro k x hx; cases hx) (fun d out h => ⟨0, (q_stamp_two_u32_m 0 d).trans h⟩)

/- horologe/stamp.Parse -/
@[reducible] def pi_stamp_Parse : PSh := ⟨[], [.mk false [.v (.sl (.int .u8))]]⟩
@[reducible] def po_stamp_Parse : PSh := ⟨[], [.mk true [.v (.int .u32), .v (.int .u32)], .mk false [.v .err]]⟩
def f_stamp_Parse_m (T : Unit) (d : Unit × (((List Int) × Unit) × Unit)) : Option (Unit × ((Int × (Int × Unit)) × (((Option Int) × Unit) × Unit))) :=
  (g_stamp_two_u32 ((), ((d.2.1.1, ()), ()))).bind fun x1 =>
  some ((), ((x1.2.1.1, (x1.2.2.1.1, ())), ((x1.2.2.2.1.1, ()), ())))
def c_stamp_Parse : List Nat := []
def L_stamp_Parse (_ : Nat) : Pts po_stamp_Parse.den := []
def R_stamp_Parse (_ : Nat) : PtsR po_stamp_Parse.den := []
def E_stamp_Parse : Env := (E0.add 83 (typedSem pi_stamp_two_u32 po_stamp_two_u32 g_stamp_two_u32))
theorem q_stamp_Parse_m (k : Nat) (d : Unit × (((List Int) × Unit) × Unit)) : evCode E_stamp_Parse (tb (L_stamp_Parse k) (R_stamp_Parse k)) c_stamp_Parse (bodyOf Try.f39) 0 (finK E_stamp_Parse po_stamp_Parse [.cell 2 29, .tmp 3]) (startSt pi_stamp_Parse 17 d) = f_stamp_Parse_m () d := by kernel_rfl
def g_stamp_Parse (d : Unit × (((List Int) × Unit) × Unit)) : Option (Unit × ((Int × (Int × Unit)) × (((Option Int) × Unit) × Unit))) := f_stamp_Parse_m () d
theorem ok_stamp_Parse : FnOk Try.prog ET0 39 pi_stamp_Parse po_stamp_Parse g_stamp_Parse :=
  fn_of_body (E := E_stamp_Parse) (envOk_add e0_ok (typed_ok ok_stamp_two_u32)) (fn := Try.f39) Try.func39 (by kernel_rfl) (by kernel_rfl) [.cell 2 29, .tmp 3] (by kernel_rfl) (by kernel_rfl) (by decide) rfl c_stamp_Parse L_stamp_Parse R_stamp_Parse
    (by intro x hx; cases hx) (by intro k x hx; cases hx) (by intro x hx; cases hx) (by intro k x hx; cases hx) (fun d out h => ⟨0, (q_stamp_Parse_m 0 d).trans h⟩)

/- horologe/octets.List[uint16] -/
@[reducible] def pi_octets_List_u16 : PSh := ⟨[], [.mk false [.v (.sl (.int .u8))], .mk false [.v (.int .i64)], .mk false [.v (.int .i64)]]⟩
@[reducible] def po_octets_List_u16 : PSh := ⟨[.row 23 (.int .u16)], [.mk false [.osl 0], .mk false [.v .err]]⟩
@[reducible] def TT_octets_List_u16 : Type := ((List (List Int) → ((Unit × ((List Int) × Unit)) × (Unit × Unit)) → Option (((List Int) × Unit) × (Unit × (((Option Int) × Unit) × Unit)))) × Unit)
@[reducible] def sh_octets_List_u16_10 : PSh := ⟨[.var 114 [.osl 1], .row 23 (.int .u16)], [.any, .any, .any, .any, .any, .any, .any, .any, .any, .mk false [.ref 0 0], .any, .any, .any, .any, .any, .any, .any, .any, .any, .any, .any, .any, .any, .any, .any, .any, .any, .any, .any, .any, .any, .any, .any, .any, .any, .any, .any, .any, .any, .any, .any, .any, .any, .any, .any, .any, .any, .any, .any, .any, .any, .any, .any]⟩
def f_octets_List_u16_p10 (T : TT_octets_List_u16) (l : List (List Int)) (d : (Unit × ((List Int) × Unit)) × (Unit × Unit)) : Option (((List Int) × Unit) × (Unit × (((Option Int) × Unit) × Unit))) :=
  bif l.isEmpty then (
  some ((d.1.2.1, ()), ((), (((none : Option Int), ()), ()))))
  else (
  let x19 : (List Int) := (gd (.sl (.int .u8)) l (0 : Int))
  (g_octets_word_u16 ((), ((x19, ()), ()))).bind fun x20 =>
  let x21 : (List Int) := ([x20.2.1.1] : List Int)
  bif decide (((d.1.2.1.length + x21.length) * 2 : Nat) ≤ 140737488355328) && decide (d.1.2.1.length + x21.length ≤ 9223372036854775807) then (
  let x22 : (List Int) := (d.1.2.1 ++ x21)
  (T.1 (List.drop 1 l) (((), (x22, ())), ((), ()))))
  else none)
def f_octets_List_u16_t : Nat → TT_octets_List_u16
  | 0 => (fun _ _ => none, ())
  | k + 1 => (f_octets_List_u16_p10 (f_octets_List_u16_t k), ())
theorem t_octets_List_u16 (k : Nat) : f_octets_List_u16_t (k + 1) = (f_octets_List_u16_p10 (f_octets_List_u16_t k), ()) := rfl
def f_octets_List_u16_m (T : TT_octets_List_u16) (d : Unit × (((List Int) × Unit) × ((Int × Unit) × ((Int × Unit) × Unit)))) : Option (((List Int) × Unit) × (Unit × (((Option Int) × Unit) × Unit))) :=
  (g_octets_Size_u16 ((), ())).bind fun x1 =>
  let x2 : Bool := (decide (d.2.2.1.1 < (0 : Int)))
  bif x2 then (
  let x3 : (Option Int) := (some (1 : Int))
  some ((([] : List Int), ()), ((), ((x3, ()), ()))))
  else (
  let x4 : Int := (d.2.1.1.length : Int)
  let x5 : Bool := (decide (d.2.2.1.1 > x4))
  bif x5 then (
  let x6 : (Option Int) := (some (1 : Int))
  some ((([] : List Int), ()), ((), ((x6, ()), ()))))
  else (
  let x7 : Bool := (decide (d.2.2.2.1.1 < (0 : Int)))
  bif x7 then (
  let x8 : (Option Int) := (some (1 : Int))
  some ((([] : List Int), ()), ((), ((x8, ()), ()))))
  else (
  let x9 : Int := (d.2.1.1.length : Int)
  let x10 : Int := (isub .i64 x9 d.2.2.1.1)
  bif (x1.2.1.1 == 0) then (
  none)
  else (
  let x11 : Int := (iquo .i64 x10 x1.2.1.1)
  let x12 : Bool := (decide (d.2.2.2.1.1 > x11))
  bif x12 then (
  let x13 : (Option Int) := (some (4 : Int))
  some ((([] : List Int), ()), ((), ((x13, ()), ()))))
  else (
  let x14 : Int := (imul .i64 d.2.2.2.1.1 x1.2.1.1)
  let x15 : Int := (iadd .i64 d.2.2.1.1 x14)
  bif decide ((0 : Int) ≤ d.2.2.1.1) && decide (d.2.2.1.1 ≤ x15) && decide (x15 ≤ (d.2.1.1.length : Int)) then (
  let x16 : (List Int) := (List.drop (Int.toNat d.2.2.1.1) (List.take (Int.toNat x15) d.2.1.1))
  (g_slices_Chunk_byte_byte ((), ((x16, ()), ((x1.2.1.1, ()), ())))).bind fun x17 =>
  (F_slices_Chunk_byte_byte_1 (x17.1.1.1, (x17.1.2.1.1, ()))).bind fun x18 =>
  (T.1 x18 (((), (([] : List Int), ())), ((), ()))))
  else none)))))
def c_octets_List_u16 : List Nat := []
def L_octets_List_u16 (_ : Nat) : Pts po_octets_List_u16.den := []
def R_octets_List_u16 (k : Nat) : PtsR po_octets_List_u16.den := [(10, ⟨(sh_octets_List_u16_10, (.sl (.int .u8))), (f_octets_List_u16_t k).1⟩)]
def E_octets_List_u16 : Env := ((((E0.add 62 (typedSem pi_octets_Size_u16 po_octets_Size_u16 g_octets_Size_u16)).add 65 (typedSem pi_octets_word_u16 po_octets_word_u16 g_octets_word_u16)).add 66 (typedSem pi_slices_Chunk_byte_byte po_slices_Chunk_byte_byte g_slices_Chunk_byte_byte)).sq 91 sq_slices_Chunk_byte_byte_1)
theorem q_octets_List_u16_10 (k : Nat) (l : List (List Int)) (d : (Unit × ((List Int) × Unit)) × (Unit × Unit)) : evAtR E_octets_List_u16 (tb (L_octets_List_u16 k) (R_octets_List_u16 k)) c_octets_List_u16 10 (bodyOf Try.f95) 0 (finK E_octets_List_u16 po_octets_List_u16 [.tmp 6, .tmp 7]) (.sl (.int .u8)) l (ptSt sh_octets_List_u16_10 d) = f_octets_List_u16_p10 (f_octets_List_u16_t k) l d := by kernel_rfl
theorem q_octets_List_u16_m (k : Nat) (d : Unit × (((List Int) × Unit) × ((Int × Unit) × ((Int × Unit) × Unit)))) : evCode E_octets_List_u16 (tb (L_octets_List_u16 k) (R_octets_List_u16 k)) c_octets_List_u16 (bodyOf Try.f95) 0 (finK E_octets_List_u16 po_octets_List_u16 [.tmp 6, .tmp 7]) (startSt pi_octets_List_u16 53 d) = f_octets_List_u16_m (f_octets_List_u16_t k) d := by kernel_rfl
theorem go_octets_List_u16 (F : Unit × (((List Int) × Unit) × ((Int × Unit) × ((Int × Unit) × Unit))) → Option (((List Int) × Unit) × (Unit × (((Option Int) × Unit) × Unit)))) (hF : ∀ d out, F d = some out → ∃ k, f_octets_List_u16_m (f_octets_List_u16_t k) d = some out) : FnOk Try.prog ET0 95 pi_octets_List_u16 po_octets_List_u16 F :=
  fn_of_body (E := E_octets_List_u16) (envOk_sq (envOk_add (envOk_add (envOk_add e0_ok (typed_ok ok_octets_Size_u16)) (typed_ok ok_octets_word_u16)) (typed_ok ok_slices_Chunk_byte_byte)) okq_slices_Chunk_byte_byte_1) (fn := Try.f95) Try.func95 (by kernel_rfl) (by kernel_rfl) [.tmp 6, .tmp 7] (by kernel_rfl) (by kernel_rfl) (by decide) rfl c_octets_List_u16 L_octets_List_u16 R_octets_List_u16
    (by intro x hx; cases hx)
    (by intro k x hx; cases hx)
    (by intro x hx l d; simp only [R_octets_List_u16, List.mem_cons, List.not_mem_nil, or_false] at hx; subst hx; rfl)
    (by intro k x hx l d out h; simp only [R_octets_List_u16, List.mem_cons, List.not_mem_nil, or_false] at hx; subst hx; exact (q_octets_List_u16_10 k l d).trans h)
    (by intro d out h; obtain ⟨k, hk⟩ := hF d out h; exact ⟨k, (q_octets_List_u16_m k d).trans hk⟩)
def g_octets_List_u16 (d : Unit × (((List Int) × Unit) × ((Int × Unit) × ((Int × Unit) × Unit)))) : Option (((List Int) × Unit) × (Unit × (((Option Int) × Unit) × Unit))) := lim fun k => f_octets_List_u16_m (f_octets_List_u16_t k) d
theorem ok_octets_List_u16 : FnOk Try.prog ET0 95 pi_octets_List_u16 po_octets_List_u16 g_octets_List_u16 := go_octets_List_u16 g_octets_List_u16 fun d out h => lim_some h

/- horologe/stamp.two[uint16] -/
@[reducible] def pi_stamp_two_u16 : PSh := ⟨[], [.mk false [.v (.sl (.int .u8))]]⟩
@[reducible] def po_stamp_two_u16 : PSh := ⟨[], [.mk false [.v (.int .u16)], .mk false [.v (.int .u16)], .mk false [.v .err]]⟩
def f_stamp_two_u16_m (T : Unit) (d : Unit × (((List Int) × Unit) × Unit)) : Option (Unit × ((Int × Unit) × ((Int × Unit) × (((Option Int) × Unit) × Unit)))) :=
  (g_octets_List_u16 ((), ((d.2.1.1, ()), (((0 : Int), ()), (((2 : Int), ()), ()))))).bind fun x1 =>
  let x2 : Bool := (!x1.2.2.1.1.isNone)
  bif x2 then (
  let x3 : (Option Int) := (some (2 : Int))
  some ((), (((0 : Int), ()), (((0 : Int), ()), ((x3, ()), ())))))
  else (
  let x4 : Int := (d.2.1.1.length : Int)
  (g_octets_Size_u16 ((), ())).bind fun x5 =>
  let x6 : Int := (imul .i64 (2 : Int) x5.2.1.1)
  let x7 : Bool := (x4 != x6)
  bif x7 then (
  let x8 : (Option Int) := (some (2 : Int))
  some ((), (((0 : Int), ()), (((0 : Int), ()), ((x8, ()), ())))))
  else (
  bif decide ((0 : Int) ≤ (0 : Int)) && decide ((0 : Int) < (x1.1.1.length : Int)) then (
  bif decide ((0 : Int) ≤ (1 : Int)) && decide ((1 : Int) < (x1.1.1.length : Int)) then (
  some ((), (((gd (.int .u16) x1.1.1 (0 : Int)), ()), (((gd (.int .u16) x1.1.1 (1 : Int)), ()), (((none : Option Int), ()), ())))))
  else none)
  else none))
def c_stamp_two_u16 : List Nat := []
def L_stamp_two_u16 (_ : Nat) : Pts po_stamp_two_u16.den := []
def R_stamp_two_u16 (_ : Nat) : PtsR po_stamp_two_u16.den := []
def E_stamp_two_u16 : Env := ((E0.add 62 (typedSem pi_octets_Size_u16 po_octets_Size_u16 g_octets_Size_u16)).add 95 (typedSem pi_octets_List_u16 po_octets_List_u16 g_octets_List_u16))
theorem q_stamp_two_u16_m (k : Nat) (d : Unit × (((List Int) × Unit) × Unit)) : evCode E_stamp_two_u16 (tb (L_stamp_two_u16 k) (R_stamp_two_u16 k)) c_stamp_two_u16 (bodyOf Try.f84) 0 (finK E_stamp_two_u16 po_stamp_two_u16 [.tmp 2, .tmp 3, .tmp 4]) (startSt pi_stamp_two_u16 28 d) = f_stamp_two_u16_m () d := by kernel_rfl
def g_stamp_two_u16 (d : Unit × (((List Int) × Unit) × Unit)) : Option (Unit × ((Int × Unit) × ((Int × Unit) × (((Option Int) × Unit) × Unit)))) := f_stamp_two_u16_m () d
theorem ok_stamp_two_u16 : FnOk Try.prog ET0 84 pi_stamp_two_u16 po_stamp_two_u16 g_stamp_two_u16 :=
  fn_of_body (E := E_stamp_two_u16) (envOk_add (envOk_add e0_ok (typed_ok ok_octets_Size_u16)) (typed_ok ok_octets_List_u16)) (fn := Try.f84) Try.func84 (by kernel_rfl) (by kernel_rfl) [.tmp 2, .tmp 3, .tmp 4] (by kernel_rfl) (by kernel_rfl) (by decide) rfl c_stamp_two_u16 L_stamp_two_u16 R_stamp_two_u16
    (by intro x hx; cases hx) (by intro k x hx; cases hx) (by intro x hx; cases hx) (by intro k x hx; cases hx) (fun d out h => ⟨0, (q_stamp_two_u16_m 0 d).trans h⟩)

/- horologe/stamp.ParseShort -/
@[reducible] def pi_stamp_ParseShort : PSh := ⟨[], [.mk false [.v (.sl (.int .u8))]]⟩
@[reducible] def po_stamp_ParseShort : PSh := ⟨[], [.mk true [.v (.int .u16), .v (.int .u16)], .mk false [.v .err]]⟩
def f_stamp_ParseShort_m (T : Unit) (d : Unit × (((List Int) × Unit) × Unit)) : Option (Unit × ((Int × (Int × Unit)) × (((Option Int) × Unit) × Unit))) :=
  (g_stamp_two_u16 ((), ((d.2.1.1, ()), ()))).bind fun x1 =>
  some ((), ((x1.2.1.1, (x1.2.2.1.1, ())), ((x1.2.2.2.1.1, ()), ())))
def c_stamp_ParseShort : List Nat := []
def L_stamp_ParseShort (_ : Nat) : Pts po_stamp_ParseShort.den := []
def R_stamp_ParseShort (_ : Nat) : PtsR po_stamp_ParseShort.den := []
def E_stamp_ParseShort : Env := (E0.add 84 (typedSem pi_stamp_two_u16 po_stamp_two_u16 g_stamp_two_u16))
theorem q_stamp_ParseShort_m (k : Nat) (d : Unit × (((List Int) × Unit) × Unit)) : evCode E_stamp_ParseShort (tb (L_stamp_ParseShort k) (R_stamp_ParseShort k)) c_stamp_ParseShort (bodyOf Try.f40) 0 (finK E_stamp_ParseShort po_stamp_ParseShort [.cell 2 25, .tmp 3]) (startSt pi_stamp_ParseShort 17 d) = f_stamp_ParseShort_m () d := by kernel_rfl
def g_stamp_ParseShort (d : Unit × (((List Int) × Unit) × Unit)) : Option (Unit × ((Int × (Int × Unit)) × (((Option Int) × Unit) × Unit))) := f_stamp_ParseShort_m () d
theorem ok_stamp_ParseShort : FnOk Try.prog ET0 40 pi_stamp_ParseShort po_stamp_ParseShort g_stamp_ParseShort :=
  fn_of_body (E := E_stamp_ParseShort) (envOk_add e0_ok (typed_ok ok_stamp_two_u16)) (fn := Try.f40) Try.func40 (by kernel_rfl) (by kernel_rfl) [.cell 2 25, .tmp 3] (by kernel_rfl) (by kernel_rfl) (by decide) rfl c_stamp_ParseShort L_stamp_ParseShort R_stamp_ParseShort
    (by intro x hx; cases hx) (by intro k x hx; cases hx) (by intro x hx; cases hx) (by intro k x hx; cases hx) (fun d out h => ⟨0, (q_stamp_ParseShort_m 0 d).trans h⟩)

/- horologe/horologeref03.Value -/
@[reducible] def pi_ref03_Value : PSh := ⟨[], [.mk false [.v (.sl (.int .u8))]]⟩
@[reducible] def po_ref03_Value : PSh := ⟨[], [.mk false [.v (.int .u64)]]⟩
@[reducible] def TT_ref03_Value : Type := (((Unit × (((List Int) × Unit) × ((Int × Unit) × ((Int × Unit) × Unit)))) → Option (Unit × ((Int × Unit) × Unit))) × Unit)
@[reducible] def sh_ref03_Value_4 : PSh := ⟨[], [.mk false [.v (.sl (.int .u8))], .any, .any, .mk false [.v (.int .u64)], .mk false [.v (.int .i64)], .any, .any, .any, .any, .any, .any, .any, .any, .any, .any, .any, .any, .any, .any, .any]⟩
def f_ref03_Value_p4 (T : TT_ref03_Value) (d : Unit × (((List Int) × Unit) × ((Int × Unit) × ((Int × Unit) × Unit)))) : Option (Unit × ((Int × Unit) × Unit)) :=
  let x1 : Int := (d.2.1.1.length : Int)
  let x2 : Bool := (decide (d.2.2.2.1.1 < x1))
  bif x2 then (
  let x3 : Int := (imul .u64 d.2.2.1.1 (256 : Int))
  bif decide ((0 : Int) ≤ d.2.2.2.1.1) && decide (d.2.2.2.1.1 < (d.2.1.1.length : Int)) then (
  let x4 : Int := (iconv .u64 (gd (.int .u8) d.2.1.1 d.2.2.2.1.1))
  let x5 : Int := (iadd .u64 x3 x4)
  let x6 : Int := (iadd .i64 d.2.2.2.1.1 (1 : Int))
  (T.1 ((), ((d.2.1.1, ()), ((x5, ()), ((x6, ()), ()))))))
  else none)
  else (
  some ((), ((d.2.2.1.1, ()), ())))
def f_ref03_Value_t : Nat → TT_ref03_Value
  | 0 => (fun _ => none, ())
  | k + 1 => (f_ref03_Value_p4 (f_ref03_Value_t k), ())
theorem t_ref03_Value (k : Nat) : f_ref03_Value_t (k + 1) = (f_ref03_Value_p4 (f_ref03_Value_t k), ()) := rfl
def f_ref03_Value_m (T : TT_ref03_Value) (d : Unit × (((List Int) × Unit) × Unit)) : Option (Unit × ((Int × Unit) × Unit)) :=
  (T.1 ((), ((d.2.1.1, ()), (((0 : Int), ()), (((0 : Int), ()), ())))))
def c_ref03_Value : List Nat := []
def L_ref03_Value (k : Nat) : Pts po_ref03_Value.den := [(4, ⟨sh_ref03_Value_4, (f_ref03_Value_t k).1⟩)]
def R_ref03_Value (_ : Nat) : PtsR po_ref03_Value.den := []
def E_ref03_Value : Env := E0
theorem q_ref03_Value_4 (k : Nat) (d : Unit × (((List Int) × Unit) × ((Int × Unit) × ((Int × Unit) × Unit)))) : evAt E_ref03_Value (tb (L_ref03_Value k) (R_ref03_Value k)) c_ref03_Value 4 (bodyOf Try.f41) 0 (finK E_ref03_Value po_ref03_Value [.tmp 2]) (ptSt sh_ref03_Value_4 d) = f_ref03_Value_p4 (f_ref03_Value_t k) d := by kernel_rfl
theorem q_ref03_Value_m (k : Nat) (d : Unit × (((List Int) × Unit) × Unit)) : evCode E_ref03_Value (tb (L_ref03_Value k) (R_ref03_Value k)) c_ref03_Value (bodyOf Try.f41) 0 (finK E_ref03_Value po_ref03_Value [.tmp 2]) (startSt pi_ref03_Value 20 d) = f_ref03_Value_m (f_ref03_Value_t k) d := by kernel_rfl
theorem go_ref03_Value (F : Unit × (((List Int) × Unit) × Unit) → Option (Unit × ((Int × Unit) × Unit))) (hF : ∀ d out, F d = some out → ∃ k, f_ref03_Value_m (f_ref03_Value_t k) d = some out) : FnOk Try.prog ET0 41 pi_ref03_Value po_ref03_Value F :=
  fn_of_body (E := E_ref03_Value) e0_ok (fn := Try.f41) Try.func41 (by kernel_rfl) (by kernel_rfl) [.tmp 2] (by kernel_rfl) (by kernel_rfl) (by decide) rfl c_ref03_Value L_ref03_Value R_ref03_Value
    (by intro x hx d; simp only [L_ref03_Value, List.mem_cons, List.not_mem_nil, or_false] at hx; subst hx; rfl)
    (by intro k x hx d out h; simp only [L_ref03_Value, List.mem_cons, List.not_mem_nil, or_false] at hx; subst hx; exact (q_ref03_Value_4 k d).trans h)
    (by intro x hx; cases hx)
    (by intro k x hx; cases hx)
    (by intro d out h; obtain ⟨k, hk⟩ := hF d out h; exact ⟨k, (q_ref03_Value_m k d).trans hk⟩)
def g_ref03_Value (d : Unit × (((List Int) × Unit) × Unit)) : Option (Unit × ((Int × Unit) × Unit)) := lim fun k => f_ref03_Value_m (f_ref03_Value_t k) d
theorem ok_ref03_Value : FnOk Try.prog ET0 41 pi_ref03_Value po_ref03_Value g_ref03_Value := go_ref03_Value g_ref03_Value fun d out h => lim_some h

/- horologe/horologenum.Is -/
@[reducible] def pi_hnum_Is : PSh := ⟨[], [.mk false [.v .err], .mk false [.v (.int .i64)]]⟩
@[reducible] def po_hnum_Is : PSh := ⟨[], [.mk false [.v .bool]]⟩
def f_hnum_Is_m (T : Unit) (d : Unit × (((Option Int) × Unit) × ((Int × Unit) × Unit))) : Option (Unit × ((Bool × Unit) × Unit)) :=
  (g_hnum_Num ((), ((d.2.1.1, ()), ()))).bind fun x1 =>
  let x2 : Bool := (x1.2.1.1 == d.2.2.1.1)
  some ((), ((x2, ()), ()))
def c_hnum_Is : List Nat := []
def L_hnum_Is (_ : Nat) : Pts po_hnum_Is.den := []
def R_hnum_Is (_ : Nat) : PtsR po_hnum_Is.den := []
def E_hnum_Is : Env := (E0.add 15 (typedSem pi_hnum_Num po_hnum_Num g_hnum_Num))
theorem q_hnum_Is_m (k : Nat) (d : Unit × (((Option Int) × Unit) × ((Int × Unit) × Unit))) : evCode E_hnum_Is (tb (L_hnum_Is k) (R_hnum_Is k)) c_hnum_Is (bodyOf Try.f42) 0 (finK E_hnum_Is po_hnum_Is [.tmp 4]) (startSt pi_hnum_Is 9 d) = f_hnum_Is_m () d := by kernel_rfl
def g_hnum_Is (d : Unit × (((Option Int) × Unit) × ((Int × Unit) × Unit))) : Option (Unit × ((Bool × Unit) × Unit)) := f_hnum_Is_m () d
theorem ok_hnum_Is : FnOk Try.prog ET0 42 pi_hnum_Is po_hnum_Is g_hnum_Is :=
  fn_of_body (E := E_hnum_Is) (envOk_add e0_ok (typed_ok ok_hnum_Num)) (fn := Try.f42) Try.func42 (by kernel_rfl) (by kernel_rfl) [.tmp 4] (by kernel_rfl) (by kernel_rfl) (by decide) rfl c_hnum_Is L_hnum_Is R_hnum_Is
    (by intro x hx; cases hx) (by intro k x hx; cases hx) (by intro x hx; cases hx) (by intro k x hx; cases hx) (fun d out h => ⟨0, (q_hnum_Is_m 0 d).trans h⟩)

/- horologe/horologelaw15.StampBytes -/
@[reducible] def pi_law15_StampBytes : PSh := ⟨[], [.mk false [.v (.int .u64)], .mk false [.v (.int .u64)], .mk false [.v (.sl (.int .u8))]]⟩
@[reducible] def po_law15_StampBytes : PSh := ⟨[], [.mk false [.v .bool]]⟩
@[reducible] def TT_law15_StampBytes : Type := (((((Int × (Int × Unit)) × Unit) × (((List Int) × Unit) × (Unit × (((Option Int) × Unit) × ((Int × Unit) × ((Bool × Unit) × Unit)))))) → Option (Unit × ((Bool × Unit) × Unit))) × Unit)
@[reducible] def sh_law15_StampBytes_20 : PSh := ⟨[.var 25 [.v (.int .u16), .v (.int .u16)]], [.any, .any, .mk false [.v (.sl (.int .u8))], .any, .any, .any, .any, .any, .any, .any, .any, .any, .any, .mk false [.ref 0 0], .mk false [.v .err], .mk false [.v (.int .u64)], .any, .any, .any, .any, .any, .any, .any, .any, .any, .any, .any, .any, .any, .any, .any, .any, .any, .any, .any, .any, .any, .any, .any, .any, .any, .any, .any, .any, .any, .any, .any, .any, .any, .any, .any, .any, .any, .any, .any, .any, .any, .any, .any, .any, .any, .any, .any, .any, .any, .any, .any, .any, .any, .any, .any, .any, .any, .any, .any, .any, .any, .any, .any, .any, .any, .any, .any, .any, .any, .any, .any, .any, .any, .any, .any, .any, .any, .any, .any, .any, .any, .any, .any, .any, .any, .any, .any, .any, .any, .any, .any, .any, .any, .any, .any, .any, .any, .any, .any, .any, .any, .any, .any, .any, .any, .mk false [.v .bool], .any, .any, .any, .any, .any, .any, .any, .any, .any, .any, .any, .any, .any, .any, .any, .any, .any, .any, .any, .any, .any, .any, .any, .any, .any, .any, .any, .any, .any, .any, .any]⟩
def f_law15_StampBytes_p20 (T : TT_law15_StampBytes) (d : ((Int × (Int × Unit)) × Unit) × (((List Int) × Unit) × (Unit × (((Option Int) × Unit) × ((Int × Unit) × ((Bool × Unit) × Unit)))))) : Option (Unit × ((Bool × Unit) × Unit)) :=
  bif d.2.2.2.2.2.1.1 then (
  some ((), ((false, ()), ())))
  else (
  let x54 : Int := (d.2.1.1.length : Int)
  let x55 : Bool := (x54 == (4 : Int))
  bif x55 then (
  bif d.2.2.2.1.1.isNone then (
  let x56 : Int := (ishr .u64 d.2.2.2.2.1.1 (16 : Int))
  let x57 : Int := (iconv .u16 x56)
  let x58 : Int := (iconv .u16 d.2.2.2.2.1.1)
  let x59 : Bool := ((d.1.1.1 == x57) && ((d.1.1.2.1 == x58) && true))
  bif x59 then (
  some ((), ((true, ()), ())))
  else (
  let x60 : Int := (d.2.1.1.length : Int)
  let x61 : Bool := (x60 != (4 : Int))
  bif x61 then (
  let x62 : Bool := ((d.1.1.1 == (0 : Int)) && ((d.1.1.2.1 == (0 : Int)) && true))
  bif x62 then (
  (g_hnum_Is ((), ((d.2.2.2.1.1, ()), (((2 : Int), ()), ())))).bind fun x63 =>
  some ((), ((x63.2.1.1, ()), ())))
  else (
  some ((), ((false, ()), ()))))
  else (
  some ((), ((false, ()), ())))))
  else (
  let x64 : Int := (d.2.1.1.length : Int)
  let x65 : Bool := (x64 != (4 : Int))
  bif x65 then (
  let x66 : Bool := ((d.1.1.1 == (0 : Int)) && ((d.1.1.2.1 == (0 : Int)) && true))
  bif x66 then (
  (g_hnum_Is ((), ((d.2.2.2.1.1, ()), (((2 : Int), ()), ())))).bind fun x67 =>
  some ((), ((x67.2.1.1, ()), ())))
  else (
  some ((), ((false, ()), ()))))
  else (
  some ((), ((false, ()), ())))))
  else (
  let x68 : Int := (d.2.1.1.length : Int)
  let x69 : Bool := (x68 != (4 : Int))
  bif x69 then (
  let x70 : Bool := ((d.1.1.1 == (0 : Int)) && ((d.1.1.2.1 == (0 : Int)) && true))
  bif x70 then (
  (g_hnum_Is ((), ((d.2.2.2.1.1, ()), (((2 : Int), ()), ())))).bind fun x71 =>
  some ((), ((x71.2.1.1, ()), ())))
  else (
  some ((), ((false, ()), ()))))
  else (
  some ((), ((false, ()), ())))))
def f_law15_StampBytes_t : Nat → TT_law15_StampBytes
  | 0 => (fun _ => none, ())
  | k + 1 => (f_law15_StampBytes_p20 (f_law15_StampBytes_t k), ())
theorem t_law15_StampBytes (k : Nat) : f_law15_StampBytes_t (k + 1) = (f_law15_StampBytes_p20 (f_law15_StampBytes_t k), ()) := rfl
def f_law15_StampBytes_m (T : TT_law15_StampBytes) (d : Unit × ((Int × Unit) × ((Int × Unit) × (((List Int) × Unit) × Unit)))) : Option (Unit × ((Bool × Unit) × Unit)) :=
  (g_law15_alive ((), ())).bind fun x1 =>
  let x2 : Bool := (!x1.2.1.1)
  bif x2 then (
  some ((), ((false, ()), ())))
  else (
  let x3 : Int := (d.2.2.2.1.1.length : Int)
  let x4 : Bool := (decide (x3 > (100 : Int)))
  bif x4 then (
  some ((), ((true, ()), ())))
  else (
  let x5 : Int := (ishr .u64 d.2.1.1 (32 : Int))
  let x6 : Int := (iconv .u32 x5)
  let x7 : Int := (iconv .u32 d.2.1.1)
  let x8 : Int := (ishr .u64 d.2.2.1.1 (32 : Int))
  let x9 : Int := (iconv .u32 x8)
  let x10 : Int := (iconv .u32 d.2.2.1.1)
  let x11 : Int := (ishr .u64 d.2.1.1 (16 : Int))
  let x12 : Int := (iconv .u16 x11)
  let x13 : Int := (iconv .u16 d.2.1.1)
  (g_stamp_Bytes ((), ((x6, (x7, ())), ()))).bind fun x14 =>
  (g_ref03_Number ((), ((d.2.1.1, ()), (((8 : Int), ()), ())))).bind fun x15 =>
  (g_hnum_Bytes ((), ((x14.1.1, ()), ((x15.1.1, ()), ())))).bind fun x16 =>
  let x17 : Bool := (!x16.2.1.1)
  bif x17 then (
  some ((), ((false, ()), ())))
  else (
  (g_stamp_ShortBytes ((), ((x12, (x13, ())), ()))).bind fun x18 =>
  let x19 : Int := (Int.tmod d.2.1.1 (4294967296 : Int))
  (g_ref03_Number ((), ((x19, ()), (((4 : Int), ()), ())))).bind fun x20 =>
  (g_hnum_Bytes ((), ((x18.1.1, ()), ((x20.1.1, ()), ())))).bind fun x21 =>
  let x22 : Bool := (!x21.2.1.1)
  bif x22 then (
  some ((), ((false, ()), ())))
  else (
  (g_stamp_Sub ((), ((x6, (x7, ())), ((x9, (x10, ())), ())))).bind fun x23 =>
  let x24 : Int := (isub .u64 d.2.1.1 d.2.2.1.1)
  let x25 : Int := (iconv .i64 x24)
  let x26 : Bool := (x23.2.1.1 != x25)
  bif x26 then (
  some ((), ((false, ()), ())))
  else (
  (g_stamp_Zero ((), ((x6, (x7, ())), ()))).bind fun x27 =>
  let x28 : Bool := (d.2.1.1 == (0 : Int))
  let x29 : Bool := (!(x27.2.1.1 == x28))
  bif x29 then (
  some ((), ((false, ()), ())))
  else (
  let x30 : (List Int) := ([] : List Int)
  bif decide (((x30.length + d.2.2.2.1.1.length) * 1 : Nat) ≤ 140737488355328) && decide (x30.length + d.2.2.2.1.1.length ≤ 9223372036854775807) then (
  let x31 : (List Int) := (x30 ++ d.2.2.2.1.1)
  (g_stamp_Parse ((), ((x31, ()), ()))).bind fun x32 =>
  (g_stamp_ParseShort ((), ((x31, ()), ()))).bind fun x33 =>
  (g_hnum_Bytes ((), ((x31, ()), ((d.2.2.2.1.1, ()), ())))).bind fun x34 =>
  let x35 : Bool := (!x34.2.1.1)
  bif x35 then (
  some ((), ((false, ()), ())))
  else (
  (g_ref03_Value ((), ((d.2.2.2.1.1, ()), ()))).bind fun x36 =>
  let x37 : Int := (d.2.2.2.1.1.length : Int)
  let x38 : Bool := (x37 == (8 : Int))
  bif x38 then (
  let x39 : Bool := (!x32.2.2.1.1.isNone)
  bif x39 then (
  (T.1 (((x33.2.1.1, (x33.2.1.2.1, ())), ()), ((d.2.2.2.1.1, ()), ((), ((x33.2.2.1.1, ()), ((x36.2.1.1, ()), ((true, ()), ()))))))))
  else (
  let x40 : Int := (ishr .u64 x36.2.1.1 (32 : Int))
  let x41 : Int := (iconv .u32 x40)
  let x42 : Int := (iconv .u32 x36.2.1.1)
  let x43 : Bool := (!((x32.2.1.1 == x41) && ((x32.2.1.2.1 == x42) && true)))
  bif x43 then (
  (T.1 (((x33.2.1.1, (x33.2.1.2.1, ())), ()), ((d.2.2.2.1.1, ()), ((), ((x33.2.2.1.1, ()), ((x36.2.1.1, ()), ((true, ()), ()))))))))
  else (
  let x44 : Int := (d.2.2.2.1.1.length : Int)
  let x45 : Bool := (x44 != (8 : Int))
  bif x45 then (
  let x46 : Bool := (!((x32.2.1.1 == (0 : Int)) && ((x32.2.1.2.1 == (0 : Int)) && true)))
  bif x46 then (
  (T.1 (((x33.2.1.1, (x33.2.1.2.1, ())), ()), ((d.2.2.2.1.1, ()), ((), ((x33.2.2.1.1, ()), ((x36.2.1.1, ()), ((true, ()), ()))))))))
  else (
  (g_hnum_Is ((), ((x32.2.2.1.1, ()), (((2 : Int), ()), ())))).bind fun x47 =>
  let x48 : Bool := (!x47.2.1.1)
  (T.1 (((x33.2.1.1, (x33.2.1.2.1, ())), ()), ((d.2.2.2.1.1, ()), ((), ((x33.2.2.1.1, ()), ((x36.2.1.1, ()), ((x48, ()), ())))))))))
  else (
  (T.1 (((x33.2.1.1, (x33.2.1.2.1, ())), ()), ((d.2.2.2.1.1, ()), ((), ((x33.2.2.1.1, ()), ((x36.2.1.1, ()), ((false, ()), ())))))))))))
  else (
  let x49 : Int := (d.2.2.2.1.1.length : Int)
  let x50 : Bool := (x49 != (8 : Int))
  bif x50 then (
  let x51 : Bool := (!((x32.2.1.1 == (0 : Int)) && ((x32.2.1.2.1 == (0 : Int)) && true)))
  bif x51 then (
  (T.1 (((x33.2.1.1, (x33.2.1.2.1, ())), ()), ((d.2.2.2.1.1, ()), ((), ((x33.2.2.1.1, ()), ((x36.2.1.1, ()), ((true, ()), ()))))))))
  else (
  (g_hnum_Is ((), ((x32.2.2.1.1, ()), (((2 : Int), ()), ())))).bind fun x52 =>
  let x53 : Bool := (!x52.2.1.1)
  (T.1 (((x33.2.1.1, (x33.2.1.2.1, ())), ()), ((d.2.2.2.1.1, ()), ((), ((x33.2.2.1.1, ()), ((x36.2.1.1, ()), ((x53, ()), ())))))))))
  else (
  (T.1 (((x33.2.1.1, (x33.2.1.2.1, ())), ()), ((d.2.2.2.1.1, ()), ((), ((x33.2.2.1.1, ()), ((x36.2.1.1, ()), ((false, ()), ())))))))))))
  else none))))))
def c_law15_StampBytes : List Nat := [20]
def L_law15_StampBytes (k : Nat) : Pts po_law15_StampBytes.den := [(20, ⟨sh_law15_StampBytes_20, (f_law15_StampBytes_t k).1⟩)]
def R_law15_StampBytes (_ : Nat) : PtsR po_law15_StampBytes.den := []
def E_law15_StampBytes : Env := (((((((((((E0.add 17 (typedSem pi_hnum_Bytes po_hnum_Bytes g_hnum_Bytes)).add 33 (typedSem pi_law15_alive po_law15_alive g_law15_alive)).add 34 (typedSem pi_stamp_Bytes po_stamp_Bytes g_stamp_Bytes)).add 35 (typedSem pi_ref03_Number po_ref03_Number g_ref03_Number)).add 36 (typedSem pi_stamp_ShortBytes po_stamp_ShortBytes g_stamp_ShortBytes)).add 37 (typedSem pi_stamp_Sub po_stamp_Sub g_stamp_Sub)).add 38 (typedSem pi_stamp_Zero po_stamp_Zero g_stamp_Zero)).add 39 (typedSem pi_stamp_Parse po_stamp_Parse g_stamp_Parse)).add 40 (typedSem pi_stamp_ParseShort po_stamp_ParseShort g_stamp_ParseShort)).add 41 (typedSem pi_ref03_Value po_ref03_Value g_ref03_Value)).add 42 (typedSem pi_hnum_Is po_hnum_Is g_hnum_Is))
theorem q_law15_StampBytes_20 (k : Nat) (d : ((Int × (Int × Unit)) × Unit) × (((List Int) × Unit) × (Unit × (((Option Int) × Unit) × ((Int × Unit) × ((Bool × Unit) × Unit)))))) : evAt E_law15_StampBytes (tb (L_law15_StampBytes k) (R_law15_StampBytes k)) c_law15_StampBytes 20 (bodyOf Try.f7) 0 (finK E_law15_StampBytes po_law15_StampBytes [.tmp 6]) (ptSt sh_law15_StampBytes_20 d) = f_law15_StampBytes_p20 (f_law15_StampBytes_t k) d := by kernel_rfl
theorem q_law15_StampBytes_m (k : Nat) (d : Unit × ((Int × Unit) × ((Int × Unit) × (((List Int) × Unit) × Unit)))) : evCode E_law15_StampBytes (tb (L_law15_StampBytes k) (R_law15_StampBytes k)) c_law15_StampBytes (bodyOf Try.f7) 0 (finK E_law15_StampBytes po_law15_StampBytes [.tmp 6]) (startSt pi_law15_StampBytes 153 d) = f_law15_StampBytes_m (f_law15_StampBytes_t k) d := by kernel_rfl
theorem go_law15_StampBytes (F : Unit × ((Int × Unit) × ((Int × Unit) × (((List Int) × Unit) × Unit))) → Option (Unit × ((Bool × Unit) × Unit))) (hF : ∀ d out, F d = some out → ∃ k, f_law15_StampBytes_m (f_law15_StampBytes_t k) d = some out) : FnOk Try.prog ET0 7 pi_law15_StampBytes po_law15_StampBytes F :=
  fn_of_body (E := E_law15_StampBytes) (envOk_add (envOk_add (envOk_add (envOk_add (envOk_add (envOk_add (envOk_add (envOk_add (envOk_add (envOk_add (envOk_add e0_ok (typed_ok ok_hnum_Bytes)) (typed_ok ok_law15_alive)) (typed_ok ok_stamp_Bytes)) (typed_ok ok_ref03_Number)) (typed_ok ok_stamp_ShortBytes)) (typed_ok ok_stamp_Sub)) (typed_ok ok_stamp_Zero)) (typed_ok ok_stamp_Parse)) (typed_ok ok_stamp_ParseShort)) (typed_ok ok_ref03_Value)) (typed_ok ok_hnum_Is)) (fn := Try.f7) Try.func7 (by kernel_rfl) (by kernel_rfl) [.tmp 6] (by kernel_rfl) (by kernel_rfl) (by decide) rfl c_law15_StampBytes L_law15_StampBytes R_law15_StampBytes
    (by intro x hx d; simp only [L_law15_StampBytes, List.mem_cons, List.not_mem_nil, or_false] at hx; subst hx; rfl)
    (by intro k x hx d out h; simp only [L_law15_StampBytes, List.mem_cons, List.not_mem_nil, or_false] at hx; subst hx; exact (q_law15_StampBytes_20 k d).trans h)
    (by intro x hx; cases hx)
    (by intro k x hx; cases hx)
    (by intro d out h; obtain ⟨k, hk⟩ := hF d out h; exact ⟨k, (q_law15_StampBytes_m k d).trans hk⟩)
def g_law15_StampBytes (d : Unit × ((Int × Unit) × ((Int × Unit) × (((List Int) × Unit) × Unit)))) : Option (Unit × ((Bool × Unit) × Unit)) := lim fun k => f_law15_StampBytes_m (f_law15_StampBytes_t k) d
theorem ok_law15_StampBytes : FnOk Try.prog ET0 7 pi_law15_StampBytes po_law15_StampBytes g_law15_StampBytes := go_law15_StampBytes g_law15_StampBytes fun d out h => lim_some h

/- horologe/era.Fold[uint32] -/
@[reducible] def pi_era_Fold_u32 : PSh := ⟨[], [.mk false [.v (.int .i64)]]⟩
@[reducible] def po_era_Fold_u32 : PSh := ⟨[], [.mk false [.v (.int .u32)]]⟩
def f_era_Fold_u32_m (T : Unit) (d : Unit × ((Int × Unit) × Unit)) : Option (Unit × ((Int × Unit) × Unit)) :=
  let x1 : Int := (iconv .u32 d.2.1.1)
  some ((), ((x1, ()), ()))
def c_era_Fold_u32 : List Nat := []
def L_era_Fold_u32 (_ : Nat) : Pts po_era_Fold_u32.den := []
def R_era_Fold_u32 (_ : Nat) : PtsR po_era_Fold_u32.den := []
def E_era_Fold_u32 : Env := E0
theorem q_era_Fold_u32_m (k : Nat) (d : Unit × ((Int × Unit) × Unit)) : evCode E_era_Fold_u32 (tb (L_era_Fold_u32 k) (R_era_Fold_u32 k)) c_era_Fold_u32 (bodyOf Try.f86) 0 (finK E_era_Fold_u32 po_era_Fold_u32 [.tmp 2]) (startSt pi_era_Fold_u32 5 d) = f_era_Fold_u32_m () d := by kernel_rfl
def g_era_Fold_u32 (d : Unit × ((Int × Unit) × Unit)) : Option (Unit × ((Int × Unit) × Unit)) := f_era_Fold_u32_m () d
theorem ok_era_Fold_u32 : FnOk Try.prog ET0 86 pi_era_Fold_u32 po_era_Fold_u32 g_era_Fold_u32 :=
  fn_of_body (E := E_era_Fold_u32) e0_ok (fn := Try.f86) Try.func86 (by kernel_rfl) (by kernel_rfl) [.tmp 2] (by kernel_rfl) (by kernel_rfl) (by decide) rfl c_era_Fold_u32 L_era_Fold_u32 R_era_Fold_u32
    (by intro x hx; cases hx) (by intro k x hx; cases hx) (by intro x hx; cases hx) (by intro k x hx; cases hx) (fun d out h => ⟨0, (q_era_Fold_u32_m 0 d).trans h⟩)

/- horologe/stamp.Of -/
@[reducible] def pi_stamp_Of : PSh := ⟨[], [.mk false [.v (.int .i64)], .mk false [.v (.int .i64)]]⟩
@[reducible] def po_stamp_Of : PSh := ⟨[], [.mk true [.v (.int .u32), .v (.int .u32)], .mk false [.v .err]]⟩
def f_stamp_Of_m (T : Unit) (d : Unit × ((Int × Unit) × ((Int × Unit) × Unit))) : Option (Unit × ((Int × (Int × Unit)) × (((Option Int) × Unit) × Unit))) :=
  (g_stamp_Fraction ((), ((d.2.2.1.1, ()), ()))).bind fun x1 =>
  let x2 : Bool := (!x1.2.2.1.1.isNone)
  bif x2 then (
  some ((), (((0 : Int), ((0 : Int), ())), ((x1.2.2.1.1, ()), ()))))
  else (
  (g_era_Fold_u32 ((), ((d.2.1.1, ()), ()))).bind fun x3 =>
  some ((), ((x3.2.1.1, (x1.2.1.1, ())), (((none : Option Int), ()), ()))))
def c_stamp_Of : List Nat := []
def L_stamp_Of (_ : Nat) : Pts po_stamp_Of.den := []
def R_stamp_Of (_ : Nat) : PtsR po_stamp_Of.den := []
def E_stamp_Of : Env := ((E0.add 43 (typedSem pi_stamp_Fraction po_stamp_Fraction g_stamp_Fraction)).add 86 (typedSem pi_era_Fold_u32 po_era_Fold_u32 g_era_Fold_u32))
theorem q_stamp_Of_m (k : Nat) (d : Unit × ((Int × Unit) × ((Int × Unit) × Unit))) : evCode E_stamp_Of (tb (L_stamp_Of k) (R_stamp_Of k)) c_stamp_Of (bodyOf Try.f45) 0 (finK E_stamp_Of po_stamp_Of [.cell 4 29, .tmp 5]) (startSt pi_stamp_Of 21 d) = f_stamp_Of_m () d := by kernel_rfl
def g_stamp_Of (d : Unit × ((Int × Unit) × ((Int × Unit) × Unit))) : Option (Unit × ((Int × (Int × Unit)) × (((Option Int) × Unit) × Unit))) := f_stamp_Of_m () d
theorem ok_stamp_Of : FnOk Try.prog ET0 45 pi_stamp_Of po_stamp_Of g_stamp_Of :=
  fn_of_body (E := E_stamp_Of) (envOk_add (envOk_add e0_ok (typed_ok ok_stamp_Fraction)) (typed_ok ok_era_Fold_u32)) (fn := Try.f45) Try.func45 (by kernel_rfl) (by kernel_rfl) [.cell 4 29, .tmp 5] (by kernel_rfl) (by kernel_rfl) (by decide) rfl c_stamp_Of L_stamp_Of R_stamp_Of
    (by intro x hx; cases hx) (by intro k x hx; cases hx) (by intro x hx; cases hx) (by intro k x hx; cases hx) (fun d out h => ⟨0, (q_stamp_Of_m 0 d).trans h⟩)

/- horologe/num.Add -/
@[reducible] def pi_num_Add : PSh := ⟨[], [.mk false [.v (.int .i64)], .mk false [.v (.int .i64)]]⟩
@[reducible] def po_num_Add : PSh := ⟨[], [.mk false [.v (.int .i64)], .mk false [.v .err]]⟩
def f_num_Add_m (T : Unit) (d : Unit × ((Int × Unit) × ((Int × Unit) × Unit))) : Option (Unit × ((Int × Unit) × (((Option Int) × Unit) × Unit))) :=
  let x1 : Int := (iadd .i64 d.2.1.1 d.2.2.1.1)
  let x2 : Bool := (decide (d.2.2.1.1 > (0 : Int)))
  bif x2 then (
  let x3 : Bool := (decide (x1 < d.2.1.1))
  bif x3 then (
  let x4 : (Option Int) := (some (5 : Int))
  some ((), (((0 : Int), ()), ((x4, ()), ()))))
  else (
  let x5 : Bool := (decide (d.2.2.1.1 < (0 : Int)))
  bif x5 then (
  let x6 : Bool := (decide (x1 > d.2.1.1))
  bif x6 then (
  let x7 : (Option Int) := (some (5 : Int))
  some ((), (((0 : Int), ()), ((x7, ()), ()))))
  else (
  some ((), ((x1, ()), (((none : Option Int), ()), ())))))
  else (
  some ((), ((x1, ()), (((none : Option Int), ()), ()))))))
  else (
  let x8 : Bool := (decide (d.2.2.1.1 < (0 : Int)))
  bif x8 then (
  let x9 : Bool := (decide (x1 > d.2.1.1))
  bif x9 then (
  let x10 : (Option Int) := (some (5 : Int))
  some ((), (((0 : Int), ()), ((x10, ()), ()))))
  else (
  some ((), ((x1, ()), (((none : Option Int), ()), ())))))
  else (
  some ((), ((x1, ()), (((none : Option Int), ()), ())))))
def c_num_Add : List Nat := []
def L_num_Add (_ : Nat) : Pts po_num_Add.den := []
def R_num_Add (_ : Nat) : PtsR po_num_Add.den := []
def E_num_Add : Env := E0
theorem q_num_Add_m (k : Nat) (d : Unit × ((Int × Unit) × ((Int × Unit) × Unit))) : evCode E_num_Add (tb (L_num_Add k) (R_num_Add k)) c_num_Add (bodyOf Try.f88) 0 (finK E_num_Add po_num_Add [.tmp 4, .tmp 5]) (startSt pi_num_Add 28 d) = f_num_Add_m () d := by kernel_rfl
def g_num_Add (d : Unit × ((Int × Unit) × ((Int × Unit) × Unit))) : Option (Unit × ((Int × Unit) × (((Option Int) × Unit) × Unit))) := f_num_Add_m () d
theorem ok_num_Add : FnOk Try.prog ET0 88 pi_num_Add po_num_Add g_num_Add :=
  fn_of_body (E := E_num_Add) e0_ok (fn := Try.f88) Try.func88 (by kernel_rfl) (by kernel_rfl) [.tmp 4, .tmp 5] (by kernel_rfl) (by kernel_rfl) (by decide) rfl c_num_Add L_num_Add R_num_Add
    (by intro x hx; cases hx) (by intro k x hx; cases hx) (by intro x hx; cases hx) (by intro k x hx; cases hx) (fun d out h => ⟨0, (q_num_Add_m 0 d).trans h⟩)

/- horologe/era.right -/
@[reducible] def pi_era_right : PSh := ⟨[], [.mk false [.v (.int .i64)]]⟩
@[reducible] def po_era_right : PSh := ⟨[], [.mk false [.v .bool]]⟩
def f_era_right_m (T : Unit) (d : Unit × ((Int × Unit) × Unit)) : Option (Unit × ((Bool × Unit) × Unit)) :=
  let x1 : Bool := (decide (d.2.1.1 ≥ (1 : Int)))
  bif x1 then (
  let x2 : Bool := (decide (d.2.1.1 ≤ (62 : Int)))
  some ((), ((x2, ()), ())))
  else (
  some ((), ((false, ()), ())))
def c_era_right : List Nat := []
def L_era_right (_ : Nat) : Pts po_era_right.den := []
def R_era_right (_ : Nat) : PtsR po_era_right.den := []
def E_era_right : Env := E0
theorem q_era_right_m (k : Nat) (d : Unit × ((Int × Unit) × Unit)) : evCode E_era_right (tb (L_era_right k) (R_era_right k)) c_era_right (bodyOf Try.f98) 0 (finK E_era_right po_era_right [.tmp 2]) (startSt pi_era_right 9 d) = f_era_right_m () d := by kernel_rfl
def g_era_right (d : Unit × ((Int × Unit) × Unit)) : Option (Unit × ((Bool × Unit) × Unit)) := f_era_right_m () d
theorem ok_era_right : FnOk Try.prog ET0 98 pi_era_right po_era_right g_era_right :=
  fn_of_body (E := E_era_right) e0_ok (fn := Try.f98) Try.func98 (by kernel_rfl) (by kernel_rfl) [.tmp 2] (by kernel_rfl) (by kernel_rfl) (by decide) rfl c_era_right L_era_right R_era_right
    (by intro x hx; cases hx) (by intro k x hx; cases hx) (by intro x hx; cases hx) (by intro k x hx; cases hx) (fun d out h => ⟨0, (q_era_right_m 0 d).trans h⟩)

/- horologe/era.mask -/
@[reducible] def pi_era_mask : PSh := ⟨[], [.mk false [.v (.int .i64)]]⟩
@[reducible] def po_era_mask : PSh := ⟨[], [.mk false [.v (.int .u64)]]⟩
def f_era_mask_m (T : Unit) (d : Unit × ((Int × Unit) × Unit)) : Option (Unit × ((Int × Unit) × Unit)) :=
  bif decide (d.2.1.1 < 0) then (
  none)
  else (
  let x1 : Int := (ishl .u64 (1 : Int) d.2.1.1)
  let x2 : Int := (isub .u64 x1 (1 : Int))
  some ((), ((x2, ()), ())))
def c_era_mask : List Nat := []
def L_era_mask (_ : Nat) : Pts po_era_mask.den := []
def R_era_mask (_ : Nat) : PtsR po_era_mask.den := []
def E_era_mask : Env := E0
theorem q_era_mask_m (k : Nat) (d : Unit × ((Int × Unit) × Unit)) : evCode E_era_mask (tb (L_era_mask k) (R_era_mask k)) c_era_mask (bodyOf Try.f99) 0 (finK E_era_mask po_era_mask [.tmp 2]) (startSt pi_era_mask 6 d) = f_era_mask_m () d := by kernel_rfl
def g_era_mask (d : Unit × ((Int × Unit) × Unit)) : Option (Unit × ((Int × Unit) × Unit)) := f_era_mask_m () d
theorem ok_era_mask : FnOk Try.prog ET0 99 pi_era_mask po_era_mask g_era_mask :=
  fn_of_body (E := E_era_mask) e0_ok (fn := Try.f99) Try.func99 (by kernel_rfl) (by kernel_rfl) [.tmp 2] (by kernel_rfl) (by kernel_rfl) (by decide) rfl c_era_mask L_era_mask R_era_mask
    (by intro x hx; cases hx) (by intro k x hx; cases hx) (by intro x hx; cases hx) (by intro k x hx; cases hx) (fun d out h => ⟨0, (q_era_mask_m 0 d).trans h⟩)

/- horologe/era.Bits -/
@[reducible] def pi_era_Bits : PSh := ⟨[], [.mk false [.v (.int .u64)], .mk false [.v (.int .i64)], .mk false [.v (.int .i64)]]⟩
@[reducible] def po_era_Bits : PSh := ⟨[], [.mk false [.v (.int .i64)], .mk false [.v .err]]⟩
def f_era_Bits_m (T : Unit) (d : Unit × ((Int × Unit) × ((Int × Unit) × ((Int × Unit) × Unit)))) : Option (Unit × ((Int × Unit) × (((Option Int) × Unit) × Unit))) :=
  (g_era_right ((), ((d.2.2.1.1, ()), ()))).bind fun x1 =>
  let x2 : Bool := (!x1.2.1.1)
  bif x2 then (
  let x3 : (Option Int) := (some (1 : Int))
  some ((), (((0 : Int), ()), ((x3, ()), ()))))
  else (
  (g_era_mask ((), ((d.2.2.1.1, ()), ()))).bind fun x4 =>
  let x5 : Bool := (decide (d.2.1.1 > x4.2.1.1))
  bif x5 then (
  let x6 : (Option Int) := (some (1 : Int))
  some ((), (((0 : Int), ()), ((x6, ()), ()))))
  else (
  let x7 : Int := (iconv .u64 d.2.2.2.1.1)
  let x8 : Int := (isub .u64 d.2.1.1 x7)
  (g_era_mask ((), ((d.2.2.1.1, ()), ()))).bind fun x9 =>
  let x10 : Int := (iand .u64 x8 x9.2.1.1)
  let x11 : Int := (iconv .i64 x10)
  let x12 : Int := (isub .i64 d.2.2.1.1 (1 : Int))
  bif decide (x12 < 0) then (
  none)
  else (
  let x13 : Int := (ishl .i64 (1 : Int) x12)
  let x14 : Bool := (decide (x11 ≥ x13))
  bif x14 then (
  bif decide (d.2.2.1.1 < 0) then (
  none)
  else (
  let x15 : Int := (ishl .i64 (1 : Int) d.2.2.1.1)
  let x16 : Int := (isub .i64 x11 x15)
  (g_num_Add ((), ((d.2.2.2.1.1, ()), ((x16, ()), ())))).bind fun x17 =>
  some ((), ((x17.2.1.1, ()), ((x17.2.2.1.1, ()), ())))))
  else (
  (g_num_Add ((), ((d.2.2.2.1.1, ()), ((x11, ()), ())))).bind fun x18 =>
  some ((), ((x18.2.1.1, ()), ((x18.2.2.1.1, ()), ())))))))
def c_era_Bits : List Nat := []
def L_era_Bits (_ : Nat) : Pts po_era_Bits.den := []
def R_era_Bits (_ : Nat) : PtsR po_era_Bits.den := []
def E_era_Bits : Env := (((E0.add 88 (typedSem pi_num_Add po_num_Add g_num_Add)).add 98 (typedSem pi_era_right po_era_right g_era_right)).add 99 (typedSem pi_era_mask po_era_mask g_era_mask))
theorem q_era_Bits_m (k : Nat) (d : Unit × ((Int × Unit) × ((Int × Unit) × ((Int × Unit) × Unit)))) : evCode E_era_Bits (tb (L_era_Bits k) (R_era_Bits k)) c_era_Bits (bodyOf Try.f97) 0 (finK E_era_Bits po_era_Bits [.tmp 6, .tmp 7]) (startSt pi_era_Bits 41 d) = f_era_Bits_m () d := by kernel_rfl
def g_era_Bits (d : Unit × ((Int × Unit) × ((Int × Unit) × ((Int × Unit) × Unit)))) : Option (Unit × ((Int × Unit) × (((Option Int) × Unit) × Unit))) := f_era_Bits_m () d
theorem ok_era_Bits : FnOk Try.prog ET0 97 pi_era_Bits po_era_Bits g_era_Bits :=
  fn_of_body (E := E_era_Bits) (envOk_add (envOk_add (envOk_add e0_ok (typed_ok ok_num_Add)) (typed_ok ok_era_right)) (typed_ok ok_era_mask)) (fn := Try.f97) Try.func97 (by kernel_rfl) (by kernel_rfl) [.tmp 6, .tmp 7] (by kernel_rfl) (by kernel_rfl) (by decide) rfl c_era_Bits L_era_Bits R_era_Bits
    (by intro x hx; cases hx) (by intro k x hx; cases hx) (by intro x hx; cases hx) (by intro k x hx; cases hx) (fun d out h => ⟨0, (q_era_Bits_m 0 d).trans h⟩)

/- horologe/era.Unfold[uint32] -/
@[reducible] def pi_era_Unfold_u32 : PSh := ⟨[], [.mk false [.v (.int .u32)], .mk false [.v (.int .i64)]]⟩
@[reducible] def po_era_Unfold_u32 : PSh := ⟨[], [.mk false [.v (.int .i64)], .mk false [.v .err]]⟩
def f_era_Unfold_u32_m (T : Unit) (d : Unit × ((Int × Unit) × ((Int × Unit) × Unit))) : Option (Unit × ((Int × Unit) × (((Option Int) × Unit) × Unit))) :=
  let x1 : Int := (iconv .u64 d.2.1.1)
  (g_octets_Size_u32 ((), ())).bind fun x2 =>
  let x3 : Int := (imul .i64 x2.2.1.1 (8 : Int))
  (g_era_Bits ((), ((x1, ()), ((x3, ()), ((d.2.2.1.1, ()), ()))))).bind fun x4 =>
  some ((), ((x4.2.1.1, ()), ((x4.2.2.1.1, ()), ())))
def c_era_Unfold_u32 : List Nat := []
def L_era_Unfold_u32 (_ : Nat) : Pts po_era_Unfold_u32.den := []
def R_era_Unfold_u32 (_ : Nat) : PtsR po_era_Unfold_u32.den := []
def E_era_Unfold_u32 : Env := ((E0.add 60 (typedSem pi_octets_Size_u32 po_octets_Size_u32 g_octets_Size_u32)).add 97 (typedSem pi_era_Bits po_era_Bits g_era_Bits))
theorem q_era_Unfold_u32_m (k : Nat) (d : Unit × ((Int × Unit) × ((Int × Unit) × Unit))) : evCode E_era_Unfold_u32 (tb (L_era_Unfold_u32 k) (R_era_Unfold_u32 k)) c_era_Unfold_u32 (bodyOf Try.f87) 0 (finK E_era_Unfold_u32 po_era_Unfold_u32 [.tmp 4, .tmp 5]) (startSt pi_era_Unfold_u32 14 d) = f_era_Unfold_u32_m () d := by kernel_rfl
def g_era_Unfold_u32 (d : Unit × ((Int × Unit) × ((Int × Unit) × Unit))) : Option (Unit × ((Int × Unit) × (((Option Int) × Unit) × Unit))) := f_era_Unfold_u32_m () d
theorem ok_era_Unfold_u32 : FnOk Try.prog ET0 87 pi_era_Unfold_u32 po_era_Unfold_u32 g_era_Unfold_u32 :=
  fn_of_body (E := E_era_Unfold_u32) (envOk_add (envOk_add e0_ok (typed_ok ok_octets_Size_u32)) (typed_ok ok_era_Bits)) (fn := Try.f87) Try.func87 (by kernel_rfl) (by kernel_rfl) [.tmp 4, .tmp 5] (by kernel_rfl) (by kernel_rfl) (by decide) rfl c_era_Unfold_u32 L_era_Unfold_u32 R_era_Unfold_u32
    (by intro x hx; cases hx) (by intro k x hx; cases hx) (by intro x hx; cases hx) (by intro k x hx; cases hx) (fun d out h => ⟨0, (q_era_Unfold_u32_m 0 d).trans h⟩)

/- horologe/stamp.Time -/
@[reducible] def pi_stamp_Time : PSh := ⟨[], [.mk true [.v (.int .u32), .v (.int .u32)], .mk false [.v (.int .i64)]]⟩
@[reducible] def po_stamp_Time : PSh := ⟨[], [.mk false [.v (.int .i64)], .mk false [.v (.int .i64)], .mk false [.v .err]]⟩
def f_stamp_Time_m (T : Unit) (d : Unit × ((Int × (Int × Unit)) × ((Int × Unit) × Unit))) : Option (Unit × ((Int × Unit) × ((Int × Unit) × (((Option Int) × Unit) × Unit)))) :=
  (g_era_Unfold_u32 ((), ((d.2.1.1, ()), ((d.2.2.1.1, ()), ())))).bind fun x1 =>
  let x2 : Bool := (!x1.2.2.1.1.isNone)
  bif x2 then (
  some ((), (((0 : Int), ()), (((0 : Int), ()), ((x1.2.2.1.1, ()), ())))))
  else (
  (g_stamp_Nano ((), ((d.2.1.2.1, ()), ()))).bind fun x3 =>
  some ((), ((x1.2.1.1, ()), ((x3.2.1.1, ()), (((none : Option Int), ()), ())))))
def c_stamp_Time : List Nat := []
def L_stamp_Time (_ : Nat) : Pts po_stamp_Time.den := []
def R_stamp_Time (_ : Nat) : PtsR po_stamp_Time.den := []
def E_stamp_Time : Env := ((E0.add 44 (typedSem pi_stamp_Nano po_stamp_Nano g_stamp_Nano)).add 87 (typedSem pi_era_Unfold_u32 po_era_Unfold_u32 g_era_Unfold_u32))
theorem q_stamp_Time_m (k : Nat) (d : Unit × ((Int × (Int × Unit)) × ((Int × Unit) × Unit))) : evCode E_stamp_Time (tb (L_stamp_Time k) (R_stamp_Time k)) c_stamp_Time (bodyOf Try.f46) 0 (finK E_stamp_Time po_stamp_Time [.tmp 4, .tmp 5, .tmp 6]) (startSt pi_stamp_Time 21 d) = f_stamp_Time_m () d := by kernel_rfl
def g_stamp_Time (d : Unit × ((Int × (Int × Unit)) × ((Int × Unit) × Unit))) : Option (Unit × ((Int × Unit) × ((Int × Unit) × (((Option Int) × Unit) × Unit)))) := f_stamp_Time_m () d
theorem ok_stamp_Time : FnOk Try.prog ET0 46 pi_stamp_Time po_stamp_Time g_stamp_Time :=
  fn_of_body (E := E_stamp_Time) (envOk_add (envOk_add e0_ok (typed_ok ok_stamp_Nano)) (typed_ok ok_era_Unfold_u32)) (fn := Try.f46) Try.func46 (by kernel_rfl) (by kernel_rfl) [.tmp 4, .tmp 5, .tmp 6] (by kernel_rfl) (by kernel_rfl) (by decide) rfl c_stamp_Time L_stamp_Time R_stamp_Time
    (by intro x hx; cases hx) (by intro k x hx; cases hx) (by intro x hx; cases hx) (by intro k x hx; cases hx) (fun d out h => ⟨0, (q_stamp_Time_m 0 d).trans h⟩)

/- horologe/stamp.FromPosix -/
@[reducible] def pi_stamp_FromPosix : PSh := ⟨[], [.mk false [.v (.int .i64)]]⟩
@[reducible] def po_stamp_FromPosix : PSh := ⟨[], [.mk false [.v (.int .i64)], .mk false [.v .err]]⟩
def f_stamp_FromPosix_m (T : Unit) (d : Unit × ((Int × Unit) × Unit)) : Option (Unit × ((Int × Unit) × (((Option Int) × Unit) × Unit))) :=
  (g_num_Add ((), ((d.2.1.1, ()), (((2208988800 : Int), ()), ())))).bind fun x1 =>
  some ((), ((x1.2.1.1, ()), ((x1.2.2.1.1, ()), ())))
def c_stamp_FromPosix : List Nat := []
def L_stamp_FromPosix (_ : Nat) : Pts po_stamp_FromPosix.den := []
def R_stamp_FromPosix (_ : Nat) : PtsR po_stamp_FromPosix.den := []
def E_stamp_FromPosix : Env := (E0.add 88 (typedSem pi_num_Add po_num_Add g_num_Add))
theorem q_stamp_FromPosix_m (k : Nat) (d : Unit × ((Int × Unit) × Unit)) : evCode E_stamp_FromPosix (tb (L_stamp_FromPosix k) (R_stamp_FromPosix k)) c_stamp_FromPosix (bodyOf Try.f47) 0 (finK E_stamp_FromPosix po_stamp_FromPosix [.tmp 2, .tmp 3]) (startSt pi_stamp_FromPosix 8 d) = f_stamp_FromPosix_m () d := by kernel_rfl
def g_stamp_FromPosix (d : Unit × ((Int × Unit) × Unit)) : Option (Unit × ((Int × Unit) × (((Option Int) × Unit) × Unit))) := f_stamp_FromPosix_m () d
theorem ok_stamp_FromPosix : FnOk Try.prog ET0 47 pi_stamp_FromPosix po_stamp_FromPosix g_stamp_FromPosix :=
  fn_of_body (E := E_stamp_FromPosix) (envOk_add e0_ok (typed_ok ok_num_Add)) (fn := Try.f47) Try.func47 (by kernel_rfl) (by kernel_rfl) [.tmp 2, .tmp 3] (by kernel_rfl) (by kernel_rfl) (by decide) rfl c_stamp_FromPosix L_stamp_FromPosix R_stamp_FromPosix
    (by intro x hx; cases hx) (by intro k x hx; cases hx) (by intro x hx; cases hx) (by intro k x hx; cases hx) (fun d out h => ⟨0, (q_stamp_FromPosix_m 0 d).trans h⟩)

/- horologe/num.Sub -/
@[reducible] def pi_num_Sub : PSh := ⟨[], [.mk false [.v (.int .i64)], .mk false [.v (.int .i64)]]⟩
@[reducible] def po_num_Sub : PSh := ⟨[], [.mk false [.v (.int .i64)], .mk false [.v .err]]⟩
def f_num_Sub_m (T : Unit) (d : Unit × ((Int × Unit) × ((Int × Unit) × Unit))) : Option (Unit × ((Int × Unit) × (((Option Int) × Unit) × Unit))) :=
  let x1 : Int := (isub .i64 d.2.1.1 d.2.2.1.1)
  let x2 : Bool := (decide (d.2.2.1.1 > (0 : Int)))
  bif x2 then (
  let x3 : Bool := (decide (x1 > d.2.1.1))
  bif x3 then (
  let x4 : (Option Int) := (some (5 : Int))
  some ((), (((0 : Int), ()), ((x4, ()), ()))))
  else (
  let x5 : Bool := (decide (d.2.2.1.1 < (0 : Int)))
  bif x5 then (
  let x6 : Bool := (decide (x1 < d.2.1.1))
  bif x6 then (
  let x7 : (Option Int) := (some (5 : Int))
  some ((), (((0 : Int), ()), ((x7, ()), ()))))
  else (
  some ((), ((x1, ()), (((none : Option Int), ()), ())))))
  else (
  some ((), ((x1, ()), (((none : Option Int), ()), ()))))))
  else (
  let x8 : Bool := (decide (d.2.2.1.1 < (0 : Int)))
  bif x8 then (
  let x9 : Bool := (decide (x1 < d.2.1.1))
  bif x9 then (
  let x10 : (Option Int) := (some (5 : Int))
  some ((), (((0 : Int), ()), ((x10, ()), ()))))
  else (
  some ((), ((x1, ()), (((none : Option Int), ()), ())))))
  else (
  some ((), ((x1, ()), (((none : Option Int), ()), ())))))
def c_num_Sub : List Nat := []
def L_num_Sub (_ : Nat) : Pts po_num_Sub.den := []
def R_num_Sub (_ : Nat) : PtsR po_num_Sub.den := []
def E_num_Sub : Env := E0
theorem q_num_Sub_m (k : Nat) (d : Unit × ((Int × Unit) × ((Int × Unit) × Unit))) : evCode E_num_Sub (tb (L_num_Sub k) (R_num_Sub k)) c_num_Sub (bodyOf Try.f89) 0 (finK E_num_Sub po_num_Sub [.tmp 4, .tmp 5]) (startSt pi_num_Sub 28 d) = f_num_Sub_m () d := by kernel_rfl
def g_num_Sub (d : Unit × ((Int × Unit) × ((Int × Unit) × Unit))) : Option (Unit × ((Int × Unit) × (((Option Int) × Unit) × Unit))) := f_num_Sub_m () d
theorem ok_num_Sub : FnOk Try.prog ET0 89 pi_num_Sub po_num_Sub g_num_Sub :=
  fn_of_body (E := E_num_Sub) e0_ok (fn := Try.f89) Try.func89 (by kernel_rfl) (by kernel_rfl) [.tmp 4, .tmp 5] (by kernel_rfl) (by kernel_rfl) (by decide) rfl c_num_Sub L_num_Sub R_num_Sub
    (by intro x hx; cases hx) (by intro k x hx; cases hx) (by intro x hx; cases hx) (by intro k x hx; cases hx) (fun d out h => ⟨0, (q_num_Sub_m 0 d).trans h⟩)

/- horologe/stamp.ToPosix -/
@[reducible] def pi_stamp_ToPosix : PSh := ⟨[], [.mk false [.v (.int .i64)]]⟩
@[reducible] def po_stamp_ToPosix : PSh := ⟨[], [.mk false [.v (.int .i64)], .mk false [.v .err]]⟩
def f_stamp_ToPosix_m (T : Unit) (d : Unit × ((Int × Unit) × Unit)) : Option (Unit × ((Int × Unit) × (((Option Int) × Unit) × Unit))) :=
  (g_num_Sub ((), ((d.2.1.1, ()), (((2208988800 : Int), ()), ())))).bind fun x1 =>
  some ((), ((x1.2.1.1, ()), ((x1.2.2.1.1, ()), ())))
def c_stamp_ToPosix : List Nat := []
def L_stamp_ToPosix (_ : Nat) : Pts po_stamp_ToPosix.den := []
def R_stamp_ToPosix (_ : Nat) : PtsR po_stamp_ToPosix.den := []
def E_stamp_ToPosix : Env := (E0.add 89 (typedSem pi_num_Sub po_num_Sub g_num_Sub))
theorem q_stamp_ToPosix_m (k : Nat) (d : Unit × ((Int × Unit) × Unit)) : evCode E_stamp_ToPosix (tb (L_stamp_ToPosix k) (R_stamp_ToPosix k)) c_stamp_ToPosix (bodyOf Try.f48) 0 (finK E_stamp_ToPosix po_stamp_ToPosix [.tmp 2, .tmp 3]) (startSt pi_stamp_ToPosix 8 d) = f_stamp_ToPosix_m () d := by kernel_rfl
def g_stamp_ToPosix (d : Unit × ((Int × Unit) × Unit)) : Option (Unit × ((Int × Unit) × (((Option Int) × Unit) × Unit))) := f_stamp_ToPosix_m () d
theorem ok_stamp_ToPosix : FnOk Try.prog ET0 48 pi_stamp_ToPosix po_stamp_ToPosix g_stamp_ToPosix :=
  fn_of_body (E := E_stamp_ToPosix) (envOk_add e0_ok (typed_ok ok_num_Sub)) (fn := Try.f48) Try.func48 (by kernel_rfl) (by kernel_rfl) [.tmp 2, .tmp 3] (by kernel_rfl) (by kernel_rfl) (by decide) rfl c_stamp_ToPosix L_stamp_ToPosix R_stamp_ToPosix
    (by intro x hx; cases hx) (by intro k x hx; cases hx) (by intro x hx; cases hx) (by intro k x hx; cases hx) (fun d out h => ⟨0, (q_stamp_ToPosix_m 0 d).trans h⟩)

/- horologe/horologelaw15.StampBack -/
@[reducible] def pi_law15_StampBack : PSh := ⟨[], [.mk false [.v (.int .i64)], .mk true [.v (.int .i32), .v (.int .i32)], .mk false [.v (.int .i64)]]⟩
@[reducible] def po_law15_StampBack : PSh := ⟨[], [.mk false [.v .bool]]⟩
def f_law15_StampBack_m (T : Unit) (d : Unit × ((Int × Unit) × ((Int × (Int × Unit)) × ((Int × Unit) × Unit)))) : Option (Unit × ((Bool × Unit) × Unit)) :=
  (g_law15_alive ((), ())).bind fun x1 =>
  let x2 : Bool := (!x1.2.1.1)
  bif x2 then (
  some ((), ((false, ()), ())))
  else (
  let x3 : Int := (iconv .u32 d.2.2.1.2.1)
  (g_stamp_Nano ((), ((x3, ()), ()))).bind fun x4 =>
  (g_stamp_Fraction ((), ((x4.2.1.1, ()), ()))).bind fun x5 =>
  let x6 : Bool := (!x5.2.2.1.1.isNone)
  bif x6 then (
  some ((), ((false, ()), ())))
  else (
  let x7 : Bool := (decide (x5.2.1.1 > x3))
  bif x7 then (
  some ((), ((false, ()), ())))
  else (
  let x8 : Int := (isub .u32 x3 x5.2.1.1)
  let x9 : Bool := (decide (x8 > (4 : Int)))
  bif x9 then (
  some ((), ((false, ()), ())))
  else (
  (g_stamp_Of ((), ((d.2.1.1, ()), ((d.2.2.2.1.1, ()), ())))).bind fun x10 =>
  let x11 : Bool := (!x10.2.2.1.1.isNone)
  bif x11 then (
  let x12 : Bool := (decide (d.2.2.2.1.1 < (0 : Int)))
  bif x12 then (
  some ((), ((true, ()), ())))
  else (
  let x13 : Bool := (decide (d.2.2.2.1.1 > (999999999 : Int)))
  some ((), ((x13, ()), ()))))
  else (
  let x14 : Bool := (decide (d.2.1.1 > (4611686018427387904 : Int)))
  bif x14 then (
  (g_stamp_Nano ((), ((x10.2.1.2.1, ()), ()))).bind fun x15 =>
  let x16 : Bool := (x15.2.1.1 == d.2.2.2.1.1)
  some ((), ((x16, ()), ())))
  else (
  let x17 : Bool := (decide (d.2.1.1 < (-4611686018427387904 : Int)))
  bif x17 then (
  (g_stamp_Nano ((), ((x10.2.1.2.1, ()), ()))).bind fun x18 =>
  let x19 : Bool := (x18.2.1.1 == d.2.2.2.1.1)
  some ((), ((x19, ()), ())))
  else (
  let x20 : Bool := (d.2.2.1.1 == (-2147483648 : Int))
  bif x20 then (
  (g_stamp_Nano ((), ((x10.2.1.2.1, ()), ()))).bind fun x21 =>
  let x22 : Bool := (x21.2.1.1 == d.2.2.2.1.1)
  some ((), ((x22, ()), ())))
  else (
  let x23 : Int := (iconv .i64 d.2.2.1.1)
  let x24 : Int := (iadd .i64 d.2.1.1 x23)
  (g_stamp_Time ((), ((x10.2.1.1, (x10.2.1.2.1, ())), ((x24, ()), ())))).bind fun x25 =>
  (g_stamp_Bytes ((), ((x10.2.1.1, (x10.2.1.2.1, ())), ()))).bind fun x26 =>
  (g_stamp_Parse ((), ((x26.1.1, ()), ()))).bind fun x27 =>
  (g_stamp_FromPosix ((), ((d.2.1.1, ()), ()))).bind fun x28 =>
  (g_stamp_ToPosix ((), ((x28.2.1.1, ()), ()))).bind fun x29 =>
  bif x25.2.2.2.1.1.isNone then (
  bif x27.2.2.1.1.isNone then (
  bif x28.2.2.1.1.isNone then (
  bif x29.2.2.1.1.isNone then (
  let x30 : Bool := (x25.2.1.1 == d.2.1.1)
  bif x30 then (
  let x31 : Bool := (x25.2.2.1.1 == d.2.2.2.1.1)
  bif x31 then (
  let x32 : Bool := ((x27.2.1.1 == x10.2.1.1) && ((x27.2.1.2.1 == x10.2.1.2.1) && true))
  bif x32 then (
  let x33 : Bool := (x29.2.1.1 == d.2.1.1)
  some ((), ((x33, ()), ())))
  else (
  some ((), ((false, ()), ()))))
  else (
  some ((), ((false, ()), ()))))
  else (
  some ((), ((false, ()), ()))))
  else (
  some ((), ((false, ()), ()))))
  else (
  some ((), ((false, ()), ()))))
  else (
  some ((), ((false, ()), ()))))
  else (
  some ((), ((false, ()), ())))))))))))
def c_law15_StampBack : List Nat := []
def L_law15_StampBack (_ : Nat) : Pts po_law15_StampBack.den := []
def R_law15_StampBack (_ : Nat) : PtsR po_law15_StampBack.den := []
def E_law15_StampBack : Env := (((((((((E0.add 33 (typedSem pi_law15_alive po_law15_alive g_law15_alive)).add 34 (typedSem pi_stamp_Bytes po_stamp_Bytes g_stamp_Bytes)).add 39 (typedSem pi_stamp_Parse po_stamp_Parse g_stamp_Parse)).add 43 (typedSem pi_stamp_Fraction po_stamp_Fraction g_stamp_Fraction)).add 44 (typedSem pi_stamp_Nano po_stamp_Nano g_stamp_Nano)).add 45 (typedSem pi_stamp_Of po_stamp_Of g_stamp_Of)).add 46 (typedSem pi_stamp_Time po_stamp_Time g_stamp_Time)).add 47 (typedSem pi_stamp_FromPosix po_stamp_FromPosix g_stamp_FromPosix)).add 48 (typedSem pi_stamp_ToPosix po_stamp_ToPosix g_stamp_ToPosix))
theorem q_law15_StampBack_m (k : Nat) (d : Unit × ((Int × Unit) × ((Int × (Int × Unit)) × ((Int × Unit) × Unit)))) : evCode E_law15_StampBack (tb (L_law15_StampBack k) (R_law15_StampBack k)) c_law15_StampBack (bodyOf Try.f8) 0 (finK E_law15_StampBack po_law15_StampBack [.tmp 6]) (startSt pi_law15_StampBack 135 d) = f_law15_StampBack_m () d := by kernel_rfl
def g_law15_StampBack (d : Unit × ((Int × Unit) × ((Int × (Int × Unit)) × ((Int × Unit) × Unit)))) : Option (Unit × ((Bool × Unit) × Unit)) := f_law15_StampBack_m () d
theorem ok_law15_StampBack : FnOk Try.prog ET0 8 pi_law15_StampBack po_law15_StampBack g_law15_StampBack :=
  fn_of_body (E := E_law15_StampBack) (envOk_add (envOk_add (envOk_add (envOk_add (envOk_add (envOk_add (envOk_add (envOk_add (envOk_add e0_ok (typed_ok ok_law15_alive)) (typed_ok ok_stamp_Bytes)) (typed_ok ok_stamp_Parse)) (typed_ok ok_stamp_Fraction)) (typed_ok ok_stamp_Nano)) (typed_ok ok_stamp_Of)) (typed_ok ok_stamp_Time)) (typed_ok ok_stamp_FromPosix)) (typed_ok ok_stamp_ToPosix)) (fn := Try.f8) Try.func8 (by kernel_rfl) (by kernel_rfl) [.tmp 6] (by kernel_rfl) (by kernel_rfl) (by decide) rfl c_law15_StampBack L_law15_StampBack R_law15_StampBack
    (by intro x hx; cases hx) (by intro k x hx; cases hx) (by intro x hx; cases hx) (by intro k x hx; cases hx) (fun d out h => ⟨0, (q_law15_StampBack_m 0 d).trans h⟩)
end
end Go.Proofs.Ythcegipmninkdaa.Ev
