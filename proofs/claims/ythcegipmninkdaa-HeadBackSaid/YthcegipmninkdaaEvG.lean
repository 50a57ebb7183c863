/- Printed by wip/tools/evgen.py. -/
import Derived.Test.YthcegipmninkdaaEvE
import Derived.Test.YthcegipmninkdaaProg
import Derived.KernelRfl
set_option maxRecDepth 100000
set_option maxHeartbeats 2000000
set_option linter.unusedVariables false
namespace Go.Proofs.Ythcegipmninkdaa.Ev
open Go
noncomputable section
def rows0 : List (TypeId × Row) := [
  (2, ⟨.int .i64, 1, 8, (.int .i64), [AV.val (.int .i64) (0 : Int)], none⟩),
  (3, ⟨.int .i64, 1, 8, (.int .i64), [AV.val (.int .i64) (0 : Int)], none⟩),
  (5, ⟨.int .u8, 1, 1, (.int .u8), [AV.val (.int .u8) (0 : Int)], none⟩),
  (9, ⟨.str, 1, 16, .str, [AV.val .str ByteArray.empty], none⟩),
  (21, ⟨.int .i32, 1, 4, (.int .i32), [AV.val (.int .i32) (0 : Int)], none⟩),
  (22, ⟨.int .i8, 1, 1, (.int .i8), [AV.val (.int .i8) (0 : Int)], none⟩),
  (23, ⟨.int .u16, 1, 2, (.int .u16), [AV.val (.int .u16) (0 : Int)], none⟩),
  (25, ⟨.struct [(0, 1, false), (1, 1, false)], 2, 4, (.pair (.int .u16) (.int .u16)), [AV.val (.int .u16) (0 : Int), AV.val (.int .u16) (0 : Int)], some [.int .u16, .int .u16]⟩),
  (26, ⟨.arr 4 5, 4, 4, (.pair (.int .u8) (.pair (.int .u8) (.pair (.int .u8) (.int .u8)))), [AV.val (.int .u8) (0 : Int), AV.val (.int .u8) (0 : Int), AV.val (.int .u8) (0 : Int), AV.val (.int .u8) (0 : Int)], some [.int .u8, .int .u8, .int .u8, .int .u8]⟩),
  (27, ⟨.int .u32, 1, 4, (.int .u32), [AV.val (.int .u32) (0 : Int)], none⟩),
  (29, ⟨.struct [(0, 1, false), (1, 1, false)], 2, 8, (.pair (.int .u32) (.int .u32)), [AV.val (.int .u32) (0 : Int), AV.val (.int .u32) (0 : Int)], some [.int .u32, .int .u32]⟩),
  (31, ⟨.struct [(0, 1, false), (1, 1, false), (2, 1, false), (3, 1, false), (4, 1, false), (5, 1, false), (6, 2, true), (8, 2, true), (10, 4, true), (14, 2, true), (16, 2, true), (18, 2, true), (20, 2, true)], 22, 72, (.pair (.int .i64) (.pair (.int .i64) (.pair (.int .i64) (.pair (.int .u8) (.pair (.int .i8) (.pair (.int .i8) (.pair (.pair (.int .u16) (.int .u16)) (.pair (.pair (.int .u16) (.int .u16)) (.pair (.pair (.int .u8) (.pair (.int .u8) (.pair (.int .u8) (.int .u8)))) (.pair (.pair (.int .u32) (.int .u32)) (.pair (.pair (.int .u32) (.int .u32)) (.pair (.pair (.int .u32) (.int .u32)) (.pair (.int .u32) (.int .u32)))))))))))))), [AV.val (.int .i64) (0 : Int), AV.val (.int .i64) (0 : Int), AV.val (.int .i64) (0 : Int), AV.val (.int .u8) (0 : Int), AV.val (.int .i8) (0 : Int), AV.val (.int .i8) (0 : Int), AV.val (.int .u16) (0 : Int), AV.val (.int .u16) (0 : Int), AV.val (.int .u16) (0 : Int), AV.val (.int .u16) (0 : Int), AV.val (.int .u8) (0 : Int), AV.val (.int .u8) (0 : Int), AV.val (.int .u8) (0 : Int), AV.val (.int .u8) (0 : Int), AV.val (.int .u32) (0 : Int), AV.val (.int .u32) (0 : Int), AV.val (.int .u32) (0 : Int), AV.val (.int .u32) (0 : Int), AV.val (.int .u32) (0 : Int), AV.val (.int .u32) (0 : Int), AV.val (.int .u32) (0 : Int), AV.val (.int .u32) (0 : Int)], some [.int .i64, .int .i64, .int .i64, .int .u8, .int .i8, .int .i8, .int .u16, .int .u16, .int .u16, .int .u16, .int .u8, .int .u8, .int .u8, .int .u8, .int .u32, .int .u32, .int .u32, .int .u32, .int .u32, .int .u32, .int .u32, .int .u32]⟩),
  (33, ⟨.slice 5, 1, 24, (.sl (.int .u8)), [AV.nilS], none⟩),
  (35, ⟨.iface, 1, 16, .err, [AV.val .err (none : Option Int)], none⟩),
  (39, ⟨.int .u64, 1, 8, (.int .u64), [AV.val (.int .u64) (0 : Int)], none⟩),
  (41, ⟨.struct [(0, 1, false), (1, 1, false), (2, 1, false), (3, 1, false), (4, 1, false), (5, 1, false), (6, 1, false), (7, 1, false), (8, 4, true), (12, 1, false), (13, 1, false), (14, 1, false), (15, 1, false)], 16, 104, (.pair (.int .i64) (.pair (.int .i64) (.pair (.int .i64) (.pair (.int .i64) (.pair (.int .i64) (.pair (.int .i64) (.pair (.int .u64) (.pair (.int .u64) (.pair (.pair (.int .u8) (.pair (.int .u8) (.pair (.int .u8) (.int .u8)))) (.pair (.int .u64) (.pair (.int .u64) (.pair (.int .u64) (.int .u64))))))))))))), [AV.val (.int .i64) (0 : Int), AV.val (.int .i64) (0 : Int), AV.val (.int .i64) (0 : Int), AV.val (.int .i64) (0 : Int), AV.val (.int .i64) (0 : Int), AV.val (.int .i64) (0 : Int), AV.val (.int .u64) (0 : Int), AV.val (.int .u64) (0 : Int), AV.val (.int .u8) (0 : Int), AV.val (.int .u8) (0 : Int), AV.val (.int .u8) (0 : Int), AV.val (.int .u8) (0 : Int), AV.val (.int .u64) (0 : Int), AV.val (.int .u64) (0 : Int), AV.val (.int .u64) (0 : Int), AV.val (.int .u64) (0 : Int)], some [.int .i64, .int .i64, .int .i64, .int .i64, .int .i64, .int .i64, .int .u64, .int .u64, .int .u8, .int .u8, .int .u8, .int .u8, .int .u64, .int .u64, .int .u64, .int .u64]⟩),
  (48, ⟨.slice 27, 1, 24, (.sl (.int .u32)), [AV.nilS], none⟩),
  (82, ⟨.int .i64, 1, 8, (.int .i64), [AV.val (.int .i64) (0 : Int)], none⟩),
  (94, ⟨.arr 3 21, 3, 12, (.pair (.int .i32) (.pair (.int .i32) (.int .i32))), [AV.val (.int .i32) (0 : Int), AV.val (.int .i32) (0 : Int), AV.val (.int .i32) (0 : Int)], some [.int .i32, .int .i32, .int .i32]⟩),
  (105, ⟨.ptr, 1, 8, (.nptr (.pair (.int .u32) (.int .u32))), [AV.nilP], none⟩),
  (106, ⟨.arr 4 105, 4, 32, (.pair (.nptr (.pair (.int .u32) (.int .u32))) (.pair (.nptr (.pair (.int .u32) (.int .u32))) (.pair (.nptr (.pair (.int .u32) (.int .u32))) (.nptr (.pair (.int .u32) (.int .u32)))))), [AV.nilP, AV.nilP, AV.nilP, AV.nilP], none⟩),
  (114, ⟨.slice 23, 1, 24, (.sl (.int .u16)), [AV.nilS], none⟩),
  (141, ⟨.slice 9, 1, 24, (.sl .str), [AV.nilS], none⟩)]
def ET0 : TypeId := 82
def E0 : Env := ⟨rows0, [], ET0, 0, [], [], []⟩
theorem e0_ok : EnvOk Try.prog E0 := envOk_rows (by kernel_rfl) (by kernel_rfl) 0

/- horologe/head.in -/
@[reducible] def pi_head_in : PSh := ⟨[], [.mk false [.v (.int .i64)], .mk false [.v (.int .i64)]]⟩
@[reducible] def po_head_in : PSh := ⟨[], [.mk false [.v .bool]]⟩
def f_head_in_m (T : Unit) (d : Unit × ((Int × Unit) × ((Int × Unit) × Unit))) : Option (Unit × ((Bool × Unit) × Unit)) :=
  let x1 : Bool := (decide (d.2.1.1 ≥ (0 : Int)))
  bif x1 then (
  let x2 : Bool := (decide (d.2.1.1 ≤ d.2.2.1.1))
  some ((), ((x2, ()), ())))
  else (
  some ((), ((false, ()), ())))
def c_head_in : List Nat := []
def L_head_in (_ : Nat) : Pts po_head_in.den := []
def R_head_in (_ : Nat) : PtsR po_head_in.den := []
def E_head_in : Env := E0
theorem q_head_in_m (k : Nat) (d : Unit × ((Int × Unit) × ((Int × Unit) × Unit))) : evCode E_head_in (tb (L_head_in k) (R_head_in k)) c_head_in (bodyOf Try.f58) 0 (finK E_head_in po_head_in [.tmp 4]) (startSt pi_head_in 12 d) = f_head_in_m () d := by kernel_rfl
def g_head_in (d : Unit × ((Int × Unit) × ((Int × Unit) × Unit))) : Option (Unit × ((Bool × Unit) × Unit)) := f_head_in_m () d
theorem ok_head_in : FnOk Try.prog ET0 58 pi_head_in po_head_in g_head_in :=
  fn_of_body (E := E_head_in) e0_ok (fn := Try.f58) Try.func58 (by kernel_rfl) (by kernel_rfl) [.tmp 4] (by kernel_rfl) (by kernel_rfl) (by decide) rfl c_head_in L_head_in R_head_in
    (by intro x hx; cases hx) (by intro k x hx; cases hx) (by intro x hx; cases hx) (by intro k x hx; cases hx) (fun d out h => ⟨0, (q_head_in_m 0 d).trans h⟩)

/- horologe/head.Check -/
@[reducible] def pi_head_Check : PSh := ⟨[], [.mk true [.v (.int .i64), .v (.int .i64), .v (.int .i64), .v (.int .u8), .v (.int .i8), .v (.int .i8), .v (.int .u16), .v (.int .u16), .v (.int .u16), .v (.int .u16), .v (.int .u8), .v (.int .u8), .v (.int .u8), .v (.int .u8), .v (.int .u32), .v (.int .u32), .v (.int .u32), .v (.int .u32), .v (.int .u32), .v (.int .u32), .v (.int .u32), .v (.int .u32)]]⟩
@[reducible] def po_head_Check : PSh := ⟨[], [.mk false [.v .err]]⟩
def f_head_Check_m (T : Unit) (d : Unit × ((Int × (Int × (Int × (Int × (Int × (Int × (Int × (Int × (Int × (Int × (Int × (Int × (Int × (Int × (Int × (Int × (Int × (Int × (Int × (Int × (Int × (Int × Unit)))))))))))))))))))))) × Unit)) : Option (Unit × (((Option Int) × Unit) × Unit)) :=
  (g_head_in ((), ((d.2.1.1, ()), (((3 : Int), ()), ())))).bind fun x1 =>
  let x2 : Bool := (!x1.2.1.1)
  bif x2 then (
  let x3 : (Option Int) := (some (1 : Int))
  some ((), ((x3, ()), ())))
  else (
  (g_head_in ((), ((d.2.1.2.1, ()), (((7 : Int), ()), ())))).bind fun x4 =>
  let x5 : Bool := (!x4.2.1.1)
  bif x5 then (
  let x6 : (Option Int) := (some (1 : Int))
  some ((), ((x6, ()), ())))
  else (
  (g_head_in ((), ((d.2.1.2.2.1, ()), (((7 : Int), ()), ())))).bind fun x7 =>
  let x8 : Bool := (!x7.2.1.1)
  bif x8 then (
  let x9 : (Option Int) := (some (1 : Int))
  some ((), ((x9, ()), ())))
  else (
  some ((), (((none : Option Int), ()), ())))))
def c_head_Check : List Nat := []
def L_head_Check (_ : Nat) : Pts po_head_Check.den := []
def R_head_Check (_ : Nat) : PtsR po_head_Check.den := []
def E_head_Check : Env := (E0.add 58 (typedSem pi_head_in po_head_in g_head_in))
theorem q_head_Check_m (k : Nat) (d : Unit × ((Int × (Int × (Int × (Int × (Int × (Int × (Int × (Int × (Int × (Int × (Int × (Int × (Int × (Int × (Int × (Int × (Int × (Int × (Int × (Int × (Int × (Int × Unit)))))))))))))))))))))) × Unit)) : evCode E_head_Check (tb (L_head_Check k) (R_head_Check k)) c_head_Check (bodyOf Try.f16) 0 (finK E_head_Check po_head_Check [.tmp 2]) (startSt pi_head_Check 20 d) = f_head_Check_m () d := by kernel_rfl
def g_head_Check (d : Unit × ((Int × (Int × (Int × (Int × (Int × (Int × (Int × (Int × (Int × (Int × (Int × (Int × (Int × (Int × (Int × (Int × (Int × (Int × (Int × (Int × (Int × (Int × Unit)))))))))))))))))))))) × Unit)) : Option (Unit × (((Option Int) × Unit) × Unit)) := f_head_Check_m () d
theorem ok_head_Check : FnOk Try.prog ET0 16 pi_head_Check po_head_Check g_head_Check :=
  fn_of_body (E := E_head_Check) (envOk_add e0_ok (typed_ok ok_head_in)) (fn := Try.f16) Try.func16 (by kernel_rfl) (by kernel_rfl) [.tmp 2] (by kernel_rfl) (by kernel_rfl) (by decide) rfl c_head_Check L_head_Check R_head_Check
    (by intro x hx; cases hx) (by intro k x hx; cases hx) (by intro x hx; cases hx) (by intro k x hx; cases hx) (fun d out h => ⟨0, (q_head_Check_m 0 d).trans h⟩)

/- horologe/octets.Size[uint32] -/
@[reducible] def pi_octets_Size_u32 : PSh := ⟨[], []⟩
@[reducible] def po_octets_Size_u32 : PSh := ⟨[], [.mk false [.v (.int .i64)]]⟩
@[reducible] def TT_octets_Size_u32 : Type := (((Unit × ((Int × Unit) × ((Int × Unit) × Unit))) → Option (Unit × ((Int × Unit) × Unit))) × Unit)
@[reducible] def sh_octets_Size_u32_4 : PSh := ⟨[], [.any, .mk false [.v (.int .i64)], .mk false [.v (.int .u32)], .any, .any, .any, .any, .any, .any, .any, .any, .any, .any, .any]⟩
def f_octets_Size_u32_p4 (T : TT_octets_Size_u32) (d : Unit × ((Int × Unit) × ((Int × Unit) × Unit))) : Option (Unit × ((Int × Unit) × Unit)) :=
  let x3 : Bool := (decide (d.2.2.1.1 > (0 : Int)))
  bif x3 then (
  let x4 : Int := (iadd .i64 d.2.1.1 (1 : Int))
  let x5 : Int := (iconv .u64 d.2.2.1.1)
  let x6 : Int := (ishr .u64 x5 (8 : Int))
  let x7 : Int := (iconv .u32 x6)
  (T.1 ((), ((x4, ()), ((x7, ()), ())))))
  else (
  some ((), ((d.2.1.1, ()), ())))
def f_octets_Size_u32_t : Nat → TT_octets_Size_u32
  | 0 => (fun _ => none, ())
  | k + 1 => (f_octets_Size_u32_p4 (f_octets_Size_u32_t k), ())
theorem t_octets_Size_u32 (k : Nat) : f_octets_Size_u32_t (k + 1) = (f_octets_Size_u32_p4 (f_octets_Size_u32_t k), ()) := rfl
def f_octets_Size_u32_m (T : TT_octets_Size_u32) (d : Unit × Unit) : Option (Unit × ((Int × Unit) × Unit)) :=
  let x1 : Int := (iconv .u32 (0 : Int))
  let x2 : Int := (inot .u32 x1)
  (T.1 ((), (((0 : Int), ()), ((x2, ()), ()))))
def c_octets_Size_u32 : List Nat := []
def L_octets_Size_u32 (k : Nat) : Pts po_octets_Size_u32.den := [(4, ⟨sh_octets_Size_u32_4, (f_octets_Size_u32_t k).1⟩)]
def R_octets_Size_u32 (_ : Nat) : PtsR po_octets_Size_u32.den := []
def E_octets_Size_u32 : Env := E0
theorem q_octets_Size_u32_4 (k : Nat) (d : Unit × ((Int × Unit) × ((Int × Unit) × Unit))) : evAt E_octets_Size_u32 (tb (L_octets_Size_u32 k) (R_octets_Size_u32 k)) c_octets_Size_u32 4 (bodyOf Try.f60) 0 (finK E_octets_Size_u32 po_octets_Size_u32 [.tmp 0]) (ptSt sh_octets_Size_u32_4 d) = f_octets_Size_u32_p4 (f_octets_Size_u32_t k) d := by kernel_rfl
theorem q_octets_Size_u32_m (k : Nat) (d : Unit × Unit) : evCode E_octets_Size_u32 (tb (L_octets_Size_u32 k) (R_octets_Size_u32 k)) c_octets_Size_u32 (bodyOf Try.f60) 0 (finK E_octets_Size_u32 po_octets_Size_u32 [.tmp 0]) (startSt pi_octets_Size_u32 14 d) = f_octets_Size_u32_m (f_octets_Size_u32_t k) d := by kernel_rfl
theorem go_octets_Size_u32 (F : Unit × Unit → Option (Unit × ((Int × Unit) × Unit))) (hF : ∀ d out, F d = some out → ∃ k, f_octets_Size_u32_m (f_octets_Size_u32_t k) d = some out) : FnOk Try.prog ET0 60 pi_octets_Size_u32 po_octets_Size_u32 F :=
  fn_of_body (E := E_octets_Size_u32) e0_ok (fn := Try.f60) Try.func60 (by kernel_rfl) (by kernel_rfl) [.tmp 0] (by kernel_rfl) (by kernel_rfl) (by decide) rfl c_octets_Size_u32 L_octets_Size_u32 R_octets_Size_u32
    (by intro x hx d; simp only [L_octets_Size_u32, List.mem_cons, List.not_mem_nil, or_false] at hx; subst hx; rfl)
    (by intro k x hx d out h; simp only [L_octets_Size_u32, List.mem_cons, List.not_mem_nil, or_false] at hx; subst hx; exact (q_octets_Size_u32_4 k d).trans h)
    (by intro x hx; cases hx)
    (by intro k x hx; cases hx)
    (by intro d out h; obtain ⟨k, hk⟩ := hF d out h; exact ⟨k, (q_octets_Size_u32_m k d).trans hk⟩)
def g_octets_Size_u32 (d : Unit × Unit) : Option (Unit × ((Int × Unit) × Unit)) := lim fun k => f_octets_Size_u32_m (f_octets_Size_u32_t k) d
theorem ok_octets_Size_u32 : FnOk Try.prog ET0 60 pi_octets_Size_u32 po_octets_Size_u32 g_octets_Size_u32 := go_octets_Size_u32 g_octets_Size_u32 fun d out h => lim_some h

/- slices.Clone[[]byte,byte] -/
@[reducible] def pi_slices_Clone_byte_byte : PSh := ⟨[], [.mk false [.v (.sl (.int .u8))]]⟩
@[reducible] def po_slices_Clone_byte_byte : PSh := ⟨[.row 5 (.int .u8)], [.mk false [.osl 0]]⟩
def f_slices_Clone_byte_byte_m (T : Unit) (d : Unit × (((List Int) × Unit) × Unit)) : Option (((List Int) × Unit) × (Unit × Unit)) :=
  bif d.2.1.1.isEmpty then (
  agree (
  some ((([] : List Int), ()), ((), ()))) (
  let x1 : (List Int) := ([] : List Int)
  bif decide (((x1.length + d.2.1.1.length) * 1 : Nat) ≤ 140737488355328) && decide (x1.length + d.2.1.1.length ≤ 9223372036854775807) then (
  let x2 : (List Int) := (x1 ++ d.2.1.1)
  some ((x2, ()), ((), ())))
  else none))
  else (
  let x3 : (List Int) := ([] : List Int)
  bif decide (((x3.length + d.2.1.1.length) * 1 : Nat) ≤ 140737488355328) && decide (x3.length + d.2.1.1.length ≤ 9223372036854775807) then (
  let x4 : (List Int) := (x3 ++ d.2.1.1)
  some ((x4, ()), ((), ())))
  else none)
def c_slices_Clone_byte_byte : List Nat := []
def L_slices_Clone_byte_byte (_ : Nat) : Pts po_slices_Clone_byte_byte.den := []
def R_slices_Clone_byte_byte (_ : Nat) : PtsR po_slices_Clone_byte_byte.den := []
def E_slices_Clone_byte_byte : Env := E0
theorem q_slices_Clone_byte_byte_m (k : Nat) (d : Unit × (((List Int) × Unit) × Unit)) : evCode E_slices_Clone_byte_byte (tb (L_slices_Clone_byte_byte k) (R_slices_Clone_byte_byte k)) c_slices_Clone_byte_byte (bodyOf Try.f61) 0 (finK E_slices_Clone_byte_byte po_slices_Clone_byte_byte [.tmp 2]) (startSt pi_slices_Clone_byte_byte 8 d) = f_slices_Clone_byte_byte_m () d := by kernel_rfl
def g_slices_Clone_byte_byte (d : Unit × (((List Int) × Unit) × Unit)) : Option (((List Int) × Unit) × (Unit × Unit)) := f_slices_Clone_byte_byte_m () d
theorem ok_slices_Clone_byte_byte : FnOk Try.prog ET0 61 pi_slices_Clone_byte_byte po_slices_Clone_byte_byte g_slices_Clone_byte_byte :=
  fn_of_body (E := E_slices_Clone_byte_byte) e0_ok (fn := Try.f61) Try.func61 (by kernel_rfl) (by kernel_rfl) [.tmp 2] (by kernel_rfl) (by kernel_rfl) (by decide) rfl c_slices_Clone_byte_byte L_slices_Clone_byte_byte R_slices_Clone_byte_byte
    (by intro x hx; cases hx) (by intro k x hx; cases hx) (by intro x hx; cases hx) (by intro k x hx; cases hx) (fun d out h => ⟨0, (q_slices_Clone_byte_byte_m 0 d).trans h⟩)

/- horologe/octets.Put[uint32] -/
@[reducible] def pi_octets_Put_u32 : PSh := ⟨[], [.mk false [.v (.sl (.int .u8))], .mk false [.v (.sl (.int .u32))]]⟩
@[reducible] def po_octets_Put_u32 : PSh := ⟨[.row 5 (.int .u8)], [.mk false [.osl 0]]⟩
@[reducible] def TT_octets_Put_u32 : Type := (((((List Int) × Unit) × ((Int × Unit) × (Unit × (((List Int) × Unit) × ((Int × Unit) × ((Int × Unit) × Unit)))))) → Option (((List Int) × Unit) × (Unit × Unit))) × (((((List Int) × Unit) × ((Int × Unit) × (Unit × ((Int × Unit) × ((Int × Unit) × (((List Int) × Unit) × ((Int × Unit) × ((Int × Unit) × Unit)))))))) → Option (((List Int) × Unit) × (Unit × Unit))) × Unit))
@[reducible] def sh_octets_Put_u32_5 : PSh := ⟨[.row 5 (.int .u8)], [.any, .any, .any, .any, .any, .mk false [.v (.int .i64)], .mk false [.osl 0], .any, .any, .any, .any, .any, .any, .mk false [.v (.sl (.int .u32))], .mk false [.v (.int .i64)], .mk false [.v (.int .i64)], .any, .any, .any, .any, .any, .any, .any, .any, .any, .any, .any, .any, .any, .any, .any, .any, .any, .any, .any, .any]⟩
@[reducible] def sh_octets_Put_u32_11 : PSh := ⟨[.row 5 (.int .u8)], [.any, .any, .any, .any, .any, .mk false [.v (.int .i64)], .mk false [.osl 0], .any, .mk false [.v (.int .u32)], .mk false [.v (.int .i64)], .any, .any, .any, .mk false [.v (.sl (.int .u32))], .mk false [.v (.int .i64)], .mk false [.v (.int .i64)], .any, .any, .any, .any, .any, .any, .any, .any, .any, .any, .any, .any, .any, .any, .any, .any, .any, .any, .any, .any]⟩
def f_octets_Put_u32_p5 (T : TT_octets_Put_u32) (d : ((List Int) × Unit) × ((Int × Unit) × (Unit × (((List Int) × Unit) × ((Int × Unit) × ((Int × Unit) × Unit)))))) : Option (((List Int) × Unit) × (Unit × Unit)) :=
  let x4 : Bool := (decide (d.2.2.2.2.2.1.1 < d.2.2.2.2.1.1))
  bif x4 then (
  bif decide ((0 : Int) ≤ d.2.2.2.2.2.1.1) && decide (d.2.2.2.2.2.1.1 < (d.2.2.2.1.1.length : Int)) then (
  let x5 : Int := (isub .i64 d.2.1.1 (1 : Int))
  (T.2.1 ((d.1.1, ()), ((d.2.1.1, ()), ((), (((gd (.int .u32) d.2.2.2.1.1 d.2.2.2.2.2.1.1), ()), ((x5, ()), ((d.2.2.2.1.1, ()), ((d.2.2.2.2.1.1, ()), ((d.2.2.2.2.2.1.1, ()), ()))))))))))
  else none)
  else (
  some ((d.1.1, ()), ((), ())))
def f_octets_Put_u32_p11 (T : TT_octets_Put_u32) (d : ((List Int) × Unit) × ((Int × Unit) × (Unit × ((Int × Unit) × ((Int × Unit) × (((List Int) × Unit) × ((Int × Unit) × ((Int × Unit) × Unit)))))))) : Option (((List Int) × Unit) × (Unit × Unit)) :=
  let x6 : Bool := (decide (d.2.2.2.2.1.1 ≥ (0 : Int)))
  bif x6 then (
  let x7 : Int := (iconv .u64 d.2.2.2.1.1)
  let x8 : Int := (imul .i64 (8 : Int) d.2.2.2.2.1.1)
  bif decide (x8 < 0) then (
  none)
  else (
  let x9 : Int := (ishr .u64 x7 x8)
  let x10 : Int := (iconv .u8 x9)
  let x11 : (List Int) := ([x10] : List Int)
  bif decide (((d.1.1.length + x11.length) * 1 : Nat) ≤ 140737488355328) && decide (d.1.1.length + x11.length ≤ 9223372036854775807) then (
  let x12 : (List Int) := (d.1.1 ++ x11)
  let x13 : Int := (isub .i64 d.2.2.2.2.1.1 (1 : Int))
  (T.2.1 ((x12, ()), ((d.2.1.1, ()), ((), ((d.2.2.2.1.1, ()), ((x13, ()), ((d.2.2.2.2.2.1.1, ()), ((d.2.2.2.2.2.2.1.1, ()), ((d.2.2.2.2.2.2.2.1.1, ()), ()))))))))))
  else none))
  else (
  let x14 : Int := (iadd .i64 d.2.2.2.2.2.2.2.1.1 (1 : Int))
  (T.1 ((d.1.1, ()), ((d.2.1.1, ()), ((), ((d.2.2.2.2.2.1.1, ()), ((d.2.2.2.2.2.2.1.1, ()), ((x14, ()), ()))))))))
def f_octets_Put_u32_t : Nat → TT_octets_Put_u32
  | 0 => (fun _ => none, (fun _ => none, ()))
  | k + 1 => (f_octets_Put_u32_p5 (f_octets_Put_u32_t k), (f_octets_Put_u32_p11 (f_octets_Put_u32_t k), ()))
theorem t_octets_Put_u32 (k : Nat) : f_octets_Put_u32_t (k + 1) = (f_octets_Put_u32_p5 (f_octets_Put_u32_t k), (f_octets_Put_u32_p11 (f_octets_Put_u32_t k), ())) := rfl
def f_octets_Put_u32_m (T : TT_octets_Put_u32) (d : Unit × (((List Int) × Unit) × (((List Int) × Unit) × Unit))) : Option (((List Int) × Unit) × (Unit × Unit)) :=
  (g_octets_Size_u32 ((), ())).bind fun x1 =>
  (g_slices_Clone_byte_byte ((), ((d.2.1.1, ()), ()))).bind fun x2 =>
  let x3 : Int := (d.2.2.1.1.length : Int)
  (T.1 ((x2.1.1, ()), ((x1.2.1.1, ()), ((), ((d.2.2.1.1, ()), ((x3, ()), (((0 : Int), ()), ())))))))
def c_octets_Put_u32 : List Nat := []
def L_octets_Put_u32 (k : Nat) : Pts po_octets_Put_u32.den := [(5, ⟨sh_octets_Put_u32_5, (f_octets_Put_u32_t k).1⟩), (11, ⟨sh_octets_Put_u32_11, (f_octets_Put_u32_t k).2.1⟩)]
def R_octets_Put_u32 (_ : Nat) : PtsR po_octets_Put_u32.den := []
def E_octets_Put_u32 : Env := ((E0.add 60 (typedSem pi_octets_Size_u32 po_octets_Size_u32 g_octets_Size_u32)).add 61 (typedSem pi_slices_Clone_byte_byte po_slices_Clone_byte_byte g_slices_Clone_byte_byte))
theorem q_octets_Put_u32_5 (k : Nat) (d : ((List Int) × Unit) × ((Int × Unit) × (Unit × (((List Int) × Unit) × ((Int × Unit) × ((Int × Unit) × Unit)))))) : evAt E_octets_Put_u32 (tb (L_octets_Put_u32 k) (R_octets_Put_u32 k)) c_octets_Put_u32 5 (bodyOf Try.f20) 0 (finK E_octets_Put_u32 po_octets_Put_u32 [.tmp 4]) (ptSt sh_octets_Put_u32_5 d) = f_octets_Put_u32_p5 (f_octets_Put_u32_t k) d := by kernel_rfl
theorem q_octets_Put_u32_11 (k : Nat) (d : ((List Int) × Unit) × ((Int × Unit) × (Unit × ((Int × Unit) × ((Int × Unit) × (((List Int) × Unit) × ((Int × Unit) × ((Int × Unit) × Unit)))))))) : evAt E_octets_Put_u32 (tb (L_octets_Put_u32 k) (R_octets_Put_u32 k)) c_octets_Put_u32 11 (bodyOf Try.f20) 0 (finK E_octets_Put_u32 po_octets_Put_u32 [.tmp 4]) (ptSt sh_octets_Put_u32_11 d) = f_octets_Put_u32_p11 (f_octets_Put_u32_t k) d := by kernel_rfl
theorem q_octets_Put_u32_m (k : Nat) (d : Unit × (((List Int) × Unit) × (((List Int) × Unit) × Unit))) : evCode E_octets_Put_u32 (tb (L_octets_Put_u32 k) (R_octets_Put_u32 k)) c_octets_Put_u32 (bodyOf Try.f20) 0 (finK E_octets_Put_u32 po_octets_Put_u32 [.tmp 4]) (startSt pi_octets_Put_u32 36 d) = f_octets_Put_u32_m (f_octets_Put_u32_t k) d := by kernel_rfl
theorem go_octets_Put_u32 (F : Unit × (((List Int) × Unit) × (((List Int) × Unit) × Unit)) → Option (((List Int) × Unit) × (Unit × Unit))) (hF : ∀ d out, F d = some out → ∃ k, f_octets_Put_u32_m (f_octets_Put_u32_t k) d = some out) : FnOk Try.prog ET0 20 pi_octets_Put_u32 po_octets_Put_u32 F :=
  fn_of_body (E := E_octets_Put_u32) (envOk_add (envOk_add e0_ok (typed_ok ok_octets_Size_u32)) (typed_ok ok_slices_Clone_byte_byte)) (fn := Try.f20) Try.func20 (by kernel_rfl) (by kernel_rfl) [.tmp 4] (by kernel_rfl) (by kernel_rfl) (by decide) rfl c_octets_Put_u32 L_octets_Put_u32 R_octets_Put_u32
    (by intro x hx d; simp only [L_octets_Put_u32, List.mem_cons, List.not_mem_nil, or_false] at hx; rcases hx with rfl | rfl; rfl; rfl)
    (by intro k x hx d out h; simp only [L_octets_Put_u32, List.mem_cons, List.not_mem_nil, or_false] at hx; rcases hx with rfl | rfl; exact (q_octets_Put_u32_5 k d).trans h; exact (q_octets_Put_u32_11 k d).trans h)
    (by intro x hx; cases hx)
    (by intro k x hx; cases hx)
    (by intro d out h; obtain ⟨k, hk⟩ := hF d out h; exact ⟨k, (q_octets_Put_u32_m k d).trans hk⟩)
def g_octets_Put_u32 (d : Unit × (((List Int) × Unit) × (((List Int) × Unit) × Unit))) : Option (((List Int) × Unit) × (Unit × Unit)) := lim fun k => f_octets_Put_u32_m (f_octets_Put_u32_t k) d
theorem ok_octets_Put_u32 : FnOk Try.prog ET0 20 pi_octets_Put_u32 po_octets_Put_u32 g_octets_Put_u32 := go_octets_Put_u32 g_octets_Put_u32 fun d out h => lim_some h

/- horologe/stamp.Bytes -/
@[reducible] def pi_stamp_Bytes : PSh := ⟨[], [.mk true [.v (.int .u32), .v (.int .u32)]]⟩
@[reducible] def po_stamp_Bytes : PSh := ⟨[.row 5 (.int .u8)], [.mk false [.osl 0]]⟩
def f_stamp_Bytes_m (T : Unit) (d : Unit × ((Int × (Int × Unit)) × Unit)) : Option (((List Int) × Unit) × (Unit × Unit)) :=
  let x1 : (List Int) := ([d.2.1.1, d.2.1.2.1] : List Int)
  (g_octets_Put_u32 ((), ((([] : List Int), ()), ((x1, ()), ())))).bind fun x2 =>
  some ((x2.1.1, ()), ((), ()))
def c_stamp_Bytes : List Nat := []
def L_stamp_Bytes (_ : Nat) : Pts po_stamp_Bytes.den := []
def R_stamp_Bytes (_ : Nat) : PtsR po_stamp_Bytes.den := []
def E_stamp_Bytes : Env := (E0.add 20 (typedSem pi_octets_Put_u32 po_octets_Put_u32 g_octets_Put_u32))
theorem q_stamp_Bytes_m (k : Nat) (d : Unit × ((Int × (Int × Unit)) × Unit)) : evCode E_stamp_Bytes (tb (L_stamp_Bytes k) (R_stamp_Bytes k)) c_stamp_Bytes (bodyOf Try.f34) 0 (finK E_stamp_Bytes po_stamp_Bytes [.tmp 2]) (startSt pi_stamp_Bytes 9 d) = f_stamp_Bytes_m () d := by kernel_rfl
def g_stamp_Bytes (d : Unit × ((Int × (Int × Unit)) × Unit)) : Option (((List Int) × Unit) × (Unit × Unit)) := f_stamp_Bytes_m () d
theorem ok_stamp_Bytes : FnOk Try.prog ET0 34 pi_stamp_Bytes po_stamp_Bytes g_stamp_Bytes :=
  fn_of_body (E := E_stamp_Bytes) (envOk_add e0_ok (typed_ok ok_octets_Put_u32)) (fn := Try.f34) Try.func34 (by kernel_rfl) (by kernel_rfl) [.tmp 2] (by kernel_rfl) (by kernel_rfl) (by decide) rfl c_stamp_Bytes L_stamp_Bytes R_stamp_Bytes
    (by intro x hx; cases hx) (by intro k x hx; cases hx) (by intro x hx; cases hx) (by intro k x hx; cases hx) (fun d out h => ⟨0, (q_stamp_Bytes_m 0 d).trans h⟩)

/- horologe/octets.Size[uint16] -/
@[reducible] def pi_octets_Size_u16 : PSh := ⟨[], []⟩
@[reducible] def po_octets_Size_u16 : PSh := ⟨[], [.mk false [.v (.int .i64)]]⟩
@[reducible] def TT_octets_Size_u16 : Type := (((Unit × ((Int × Unit) × ((Int × Unit) × Unit))) → Option (Unit × ((Int × Unit) × Unit))) × Unit)
@[reducible] def sh_octets_Size_u16_4 : PSh := ⟨[], [.any, .mk false [.v (.int .i64)], .mk false [.v (.int .u16)], .any, .any, .any, .any, .any, .any, .any, .any, .any, .any, .any]⟩
def f_octets_Size_u16_p4 (T : TT_octets_Size_u16) (d : Unit × ((Int × Unit) × ((Int × Unit) × Unit))) : Option (Unit × ((Int × Unit) × Unit)) :=
  let x3 : Bool := (decide (d.2.2.1.1 > (0 : Int)))
  bif x3 then (
  let x4 : Int := (iadd .i64 d.2.1.1 (1 : Int))
  let x5 : Int := (iconv .u64 d.2.2.1.1)
  let x6 : Int := (ishr .u64 x5 (8 : Int))
  let x7 : Int := (iconv .u16 x6)
  (T.1 ((), ((x4, ()), ((x7, ()), ())))))
  else (
  some ((), ((d.2.1.1, ()), ())))
def f_octets_Size_u16_t : Nat → TT_octets_Size_u16
  | 0 => (fun _ => none, ())
  | k + 1 => (f_octets_Size_u16_p4 (f_octets_Size_u16_t k), ())
theorem t_octets_Size_u16 (k : Nat) : f_octets_Size_u16_t (k + 1) = (f_octets_Size_u16_p4 (f_octets_Size_u16_t k), ()) := rfl
def f_octets_Size_u16_m (T : TT_octets_Size_u16) (d : Unit × Unit) : Option (Unit × ((Int × Unit) × Unit)) :=
  let x1 : Int := (iconv .u16 (0 : Int))
  let x2 : Int := (inot .u16 x1)
  (T.1 ((), (((0 : Int), ()), ((x2, ()), ()))))
def c_octets_Size_u16 : List Nat := []
def L_octets_Size_u16 (k : Nat) : Pts po_octets_Size_u16.den := [(4, ⟨sh_octets_Size_u16_4, (f_octets_Size_u16_t k).1⟩)]
def R_octets_Size_u16 (_ : Nat) : PtsR po_octets_Size_u16.den := []
def E_octets_Size_u16 : Env := E0
theorem q_octets_Size_u16_4 (k : Nat) (d : Unit × ((Int × Unit) × ((Int × Unit) × Unit))) : evAt E_octets_Size_u16 (tb (L_octets_Size_u16 k) (R_octets_Size_u16 k)) c_octets_Size_u16 4 (bodyOf Try.f62) 0 (finK E_octets_Size_u16 po_octets_Size_u16 [.tmp 0]) (ptSt sh_octets_Size_u16_4 d) = f_octets_Size_u16_p4 (f_octets_Size_u16_t k) d := by kernel_rfl
theorem q_octets_Size_u16_m (k : Nat) (d : Unit × Unit) : evCode E_octets_Size_u16 (tb (L_octets_Size_u16 k) (R_octets_Size_u16 k)) c_octets_Size_u16 (bodyOf Try.f62) 0 (finK E_octets_Size_u16 po_octets_Size_u16 [.tmp 0]) (startSt pi_octets_Size_u16 14 d) = f_octets_Size_u16_m (f_octets_Size_u16_t k) d := by kernel_rfl
theorem go_octets_Size_u16 (F : Unit × Unit → Option (Unit × ((Int × Unit) × Unit))) (hF : ∀ d out, F d = some out → ∃ k, f_octets_Size_u16_m (f_octets_Size_u16_t k) d = some out) : FnOk Try.prog ET0 62 pi_octets_Size_u16 po_octets_Size_u16 F :=
  fn_of_body (E := E_octets_Size_u16) e0_ok (fn := Try.f62) Try.func62 (by kernel_rfl) (by kernel_rfl) [.tmp 0] (by kernel_rfl) (by kernel_rfl) (by decide) rfl c_octets_Size_u16 L_octets_Size_u16 R_octets_Size_u16
    (by intro x hx d; simp only [L_octets_Size_u16, List.mem_cons, List.not_mem_nil, or_false] at hx; subst hx; rfl)
    (by intro k x hx d out h; simp only [L_octets_Size_u16, List.mem_cons, List.not_mem_nil, or_false] at hx; subst hx; exact (q_octets_Size_u16_4 k d).trans h)
    (by intro x hx; cases hx)
    (by intro k x hx; cases hx)
    (by intro d out h; obtain ⟨k, hk⟩ := hF d out h; exact ⟨k, (q_octets_Size_u16_m k d).trans hk⟩)
def g_octets_Size_u16 (d : Unit × Unit) : Option (Unit × ((Int × Unit) × Unit)) := lim fun k => f_octets_Size_u16_m (f_octets_Size_u16_t k) d
theorem ok_octets_Size_u16 : FnOk Try.prog ET0 62 pi_octets_Size_u16 po_octets_Size_u16 g_octets_Size_u16 := go_octets_Size_u16 g_octets_Size_u16 fun d out h => lim_some h

/- horologe/octets.Put[uint16] -/
@[reducible] def pi_octets_Put_u16 : PSh := ⟨[], [.mk false [.v (.sl (.int .u8))], .mk false [.v (.sl (.int .u16))]]⟩
@[reducible] def po_octets_Put_u16 : PSh := ⟨[.row 5 (.int .u8)], [.mk false [.osl 0]]⟩
@[reducible] def TT_octets_Put_u16 : Type := (((((List Int) × Unit) × ((Int × Unit) × (Unit × (((List Int) × Unit) × ((Int × Unit) × ((Int × Unit) × Unit)))))) → Option (((List Int) × Unit) × (Unit × Unit))) × (((((List Int) × Unit) × ((Int × Unit) × (Unit × ((Int × Unit) × ((Int × Unit) × (((List Int) × Unit) × ((Int × Unit) × ((Int × Unit) × Unit)))))))) → Option (((List Int) × Unit) × (Unit × Unit))) × Unit))
@[reducible] def sh_octets_Put_u16_5 : PSh := ⟨[.row 5 (.int .u8)], [.any, .any, .any, .any, .any, .mk false [.v (.int .i64)], .mk false [.osl 0], .any, .any, .any, .any, .any, .any, .mk false [.v (.sl (.int .u16))], .mk false [.v (.int .i64)], .mk false [.v (.int .i64)], .any, .any, .any, .any, .any, .any, .any, .any, .any, .any, .any, .any, .any, .any, .any, .any, .any, .any, .any, .any]⟩
@[reducible] def sh_octets_Put_u16_11 : PSh := ⟨[.row 5 (.int .u8)], [.any, .any, .any, .any, .any, .mk false [.v (.int .i64)], .mk false [.osl 0], .any, .mk false [.v (.int .u16)], .mk false [.v (.int .i64)], .any, .any, .any, .mk false [.v (.sl (.int .u16))], .mk false [.v (.int .i64)], .mk false [.v (.int .i64)], .any, .any, .any, .any, .any, .any, .any, .any, .any, .any, .any, .any, .any, .any, .any, .any, .any, .any, .any, .any]⟩
def f_octets_Put_u16_p5 (T : TT_octets_Put_u16) (d : ((List Int) × Unit) × ((Int × Unit) × (Unit × (((List Int) × Unit) × ((Int × Unit) × ((Int × Unit) × Unit)))))) : Option (((List Int) × Unit) × (Unit × Unit)) :=
  let x4 : Bool := (decide (d.2.2.2.2.2.1.1 < d.2.2.2.2.1.1))
  bif x4 then (
  bif decide ((0 : Int) ≤ d.2.2.2.2.2.1.1) && decide (d.2.2.2.2.2.1.1 < (d.2.2.2.1.1.length : Int)) then (
  let x5 : Int := (isub .i64 d.2.1.1 (1 : Int))
  (T.2.1 ((d.1.1, ()), ((d.2.1.1, ()), ((), (((gd (.int .u16) d.2.2.2.1.1 d.2.2.2.2.2.1.1), ()), ((x5, ()), ((d.2.2.2.1.1, ()), ((d.2.2.2.2.1.1, ()), ((d.2.2.2.2.2.1.1, ()), ()))))))))))
  else none)
  else (
  some ((d.1.1, ()), ((), ())))
def f_octets_Put_u16_p11 (T : TT_octets_Put_u16) (d : ((List Int) × Unit) × ((Int × Unit) × (Unit × ((Int × Unit) × ((Int × Unit) × (((List Int) × Unit) × ((Int × Unit) × ((Int × Unit) × Unit)))))))) : Option (((List Int) × Unit) × (Unit × Unit)) :=
  let x6 : Bool := (decide (d.2.2.2.2.1.1 ≥ (0 : Int)))
  bif x6 then (
  let x7 : Int := (iconv .u64 d.2.2.2.1.1)
  let x8 : Int := (imul .i64 (8 : Int) d.2.2.2.2.1.1)
  bif decide (x8 < 0) then (
  none)
  else (
  let x9 : Int := (ishr .u64 x7 x8)
  let x10 : Int := (iconv .u8 x9)
  let x11 : (List Int) := ([x10] : List Int)
  bif decide (((d.1.1.length + x11.length) * 1 : Nat) ≤ 140737488355328) && decide (d.1.1.length + x11.length ≤ 9223372036854775807) then (
  let x12 : (List Int) := (d.1.1 ++ x11)
  let x13 : Int := (isub .i64 d.2.2.2.2.1.1 (1 : Int))
  (T.2.1 ((x12, ()), ((d.2.1.1, ()), ((), ((d.2.2.2.1.1, ()), ((x13, ()), ((d.2.2.2.2.2.1.1, ()), ((d.2.2.2.2.2.2.1.1, ()), ((d.2.2.2.2.2.2.2.1.1, ()), ()))))))))))
  else none))
  else (
  let x14 : Int := (iadd .i64 d.2.2.2.2.2.2.2.1.1 (1 : Int))
  (T.1 ((d.1.1, ()), ((d.2.1.1, ()), ((), ((d.2.2.2.2.2.1.1, ()), ((d.2.2.2.2.2.2.1.1, ()), ((x14, ()), ()))))))))
def f_octets_Put_u16_t : Nat → TT_octets_Put_u16
  | 0 => (fun _ => none, (fun _ => none, ()))
  | k + 1 => (f_octets_Put_u16_p5 (f_octets_Put_u16_t k), (f_octets_Put_u16_p11 (f_octets_Put_u16_t k), ()))
theorem t_octets_Put_u16 (k : Nat) : f_octets_Put_u16_t (k + 1) = (f_octets_Put_u16_p5 (f_octets_Put_u16_t k), (f_octets_Put_u16_p11 (f_octets_Put_u16_t k), ())) := rfl
def f_octets_Put_u16_m (T : TT_octets_Put_u16) (d : Unit × (((List Int) × Unit) × (((List Int) × Unit) × Unit))) : Option (((List Int) × Unit) × (Unit × Unit)) :=
  (g_octets_Size_u16 ((), ())).bind fun x1 =>
  (g_slices_Clone_byte_byte ((), ((d.2.1.1, ()), ()))).bind fun x2 =>
  let x3 : Int := (d.2.2.1.1.length : Int)
  (T.1 ((x2.1.1, ()), ((x1.2.1.1, ()), ((), ((d.2.2.1.1, ()), ((x3, ()), (((0 : Int), ()), ())))))))
def c_octets_Put_u16 : List Nat := []
def L_octets_Put_u16 (k : Nat) : Pts po_octets_Put_u16.den := [(5, ⟨sh_octets_Put_u16_5, (f_octets_Put_u16_t k).1⟩), (11, ⟨sh_octets_Put_u16_11, (f_octets_Put_u16_t k).2.1⟩)]
def R_octets_Put_u16 (_ : Nat) : PtsR po_octets_Put_u16.den := []
def E_octets_Put_u16 : Env := ((E0.add 61 (typedSem pi_slices_Clone_byte_byte po_slices_Clone_byte_byte g_slices_Clone_byte_byte)).add 62 (typedSem pi_octets_Size_u16 po_octets_Size_u16 g_octets_Size_u16))
theorem q_octets_Put_u16_5 (k : Nat) (d : ((List Int) × Unit) × ((Int × Unit) × (Unit × (((List Int) × Unit) × ((Int × Unit) × ((Int × Unit) × Unit)))))) : evAt E_octets_Put_u16 (tb (L_octets_Put_u16 k) (R_octets_Put_u16 k)) c_octets_Put_u16 5 (bodyOf Try.f21) 0 (finK E_octets_Put_u16 po_octets_Put_u16 [.tmp 4]) (ptSt sh_octets_Put_u16_5 d) = f_octets_Put_u16_p5 (f_octets_Put_u16_t k) d := by kernel_rfl
theorem q_octets_Put_u16_11 (k : Nat) (d : ((List Int) × Unit) × ((Int × Unit) × (Unit × ((Int × Unit) × ((Int × Unit) × (((List Int) × Unit) × ((Int × Unit) × ((Int × Unit) × Unit)))))))) : evAt E_octets_Put_u16 (tb (L_octets_Put_u16 k) (R_octets_Put_u16 k)) c_octets_Put_u16 11 (bodyOf Try.f21) 0 (finK E_octets_Put_u16 po_octets_Put_u16 [.tmp 4]) (ptSt sh_octets_Put_u16_11 d) = f_octets_Put_u16_p11 (f_octets_Put_u16_t k) d := by kernel_rfl
theorem q_octets_Put_u16_m (k : Nat) (d : Unit × (((List Int) × Unit) × (((List Int) × Unit) × Unit))) : evCode E_octets_Put_u16 (tb (L_octets_Put_u16 k) (R_octets_Put_u16 k)) c_octets_Put_u16 (bodyOf Try.f21) 0 (finK E_octets_Put_u16 po_octets_Put_u16 [.tmp 4]) (startSt pi_octets_Put_u16 36 d) = f_octets_Put_u16_m (f_octets_Put_u16_t k) d := by kernel_rfl
theorem go_octets_Put_u16 (F : Unit × (((List Int) × Unit) × (((List Int) × Unit) × Unit)) → Option (((List Int) × Unit) × (Unit × Unit))) (hF : ∀ d out, F d = some out → ∃ k, f_octets_Put_u16_m (f_octets_Put_u16_t k) d = some out) : FnOk Try.prog ET0 21 pi_octets_Put_u16 po_octets_Put_u16 F :=
  fn_of_body (E := E_octets_Put_u16) (envOk_add (envOk_add e0_ok (typed_ok ok_slices_Clone_byte_byte)) (typed_ok ok_octets_Size_u16)) (fn := Try.f21) Try.func21 (by kernel_rfl) (by kernel_rfl) [.tmp 4] (by kernel_rfl) (by kernel_rfl) (by decide) rfl c_octets_Put_u16 L_octets_Put_u16 R_octets_Put_u16
    (by intro x hx d; simp only [L_octets_Put_u16, List.mem_cons, List.not_mem_nil, or_false] at hx; rcases hx with rfl | rfl; rfl; rfl)
    (by intro k x hx d out h; simp only [L_octets_Put_u16, List.mem_cons, List.not_mem_nil, or_false] at hx; rcases hx with rfl | rfl; exact (q_octets_Put_u16_5 k d).trans h; exact (q_octets_Put_u16_11 k d).trans h)
    (by intro x hx; cases hx)
    (by intro k x hx; cases hx)
    (by intro d out h; obtain ⟨k, hk⟩ := hF d out h; exact ⟨k, (q_octets_Put_u16_m k d).trans hk⟩)
def g_octets_Put_u16 (d : Unit × (((List Int) × Unit) × (((List Int) × Unit) × Unit))) : Option (((List Int) × Unit) × (Unit × Unit)) := lim fun k => f_octets_Put_u16_m (f_octets_Put_u16_t k) d
theorem ok_octets_Put_u16 : FnOk Try.prog ET0 21 pi_octets_Put_u16 po_octets_Put_u16 g_octets_Put_u16 := go_octets_Put_u16 g_octets_Put_u16 fun d out h => lim_some h

/- horologe/stamp.ShortBytes -/
@[reducible] def pi_stamp_ShortBytes : PSh := ⟨[], [.mk true [.v (.int .u16), .v (.int .u16)]]⟩
@[reducible] def po_stamp_ShortBytes : PSh := ⟨[.row 5 (.int .u8)], [.mk false [.osl 0]]⟩
def f_stamp_ShortBytes_m (T : Unit) (d : Unit × ((Int × (Int × Unit)) × Unit)) : Option (((List Int) × Unit) × (Unit × Unit)) :=
  let x1 : (List Int) := ([d.2.1.1, d.2.1.2.1] : List Int)
  (g_octets_Put_u16 ((), ((([] : List Int), ()), ((x1, ()), ())))).bind fun x2 =>
  some ((x2.1.1, ()), ((), ()))
def c_stamp_ShortBytes : List Nat := []
def L_stamp_ShortBytes (_ : Nat) : Pts po_stamp_ShortBytes.den := []
def R_stamp_ShortBytes (_ : Nat) : PtsR po_stamp_ShortBytes.den := []
def E_stamp_ShortBytes : Env := (E0.add 21 (typedSem pi_octets_Put_u16 po_octets_Put_u16 g_octets_Put_u16))
theorem q_stamp_ShortBytes_m (k : Nat) (d : Unit × ((Int × (Int × Unit)) × Unit)) : evCode E_stamp_ShortBytes (tb (L_stamp_ShortBytes k) (R_stamp_ShortBytes k)) c_stamp_ShortBytes (bodyOf Try.f36) 0 (finK E_stamp_ShortBytes po_stamp_ShortBytes [.tmp 2]) (startSt pi_stamp_ShortBytes 9 d) = f_stamp_ShortBytes_m () d := by kernel_rfl
def g_stamp_ShortBytes (d : Unit × ((Int × (Int × Unit)) × Unit)) : Option (((List Int) × Unit) × (Unit × Unit)) := f_stamp_ShortBytes_m () d
theorem ok_stamp_ShortBytes : FnOk Try.prog ET0 36 pi_stamp_ShortBytes po_stamp_ShortBytes g_stamp_ShortBytes :=
  fn_of_body (E := E_stamp_ShortBytes) (envOk_add e0_ok (typed_ok ok_octets_Put_u16)) (fn := Try.f36) Try.func36 (by kernel_rfl) (by kernel_rfl) [.tmp 2] (by kernel_rfl) (by kernel_rfl) (by decide) rfl c_stamp_ShortBytes L_stamp_ShortBytes R_stamp_ShortBytes
    (by intro x hx; cases hx) (by intro k x hx; cases hx) (by intro x hx; cases hx) (by intro k x hx; cases hx) (fun d out h => ⟨0, (q_stamp_ShortBytes_m 0 d).trans h⟩)

/- (*horologe/head.Head).longs -/
@[reducible] def pi_head_Head_longs : PSh := ⟨[], [.mk false [.v (.nptr (.pair (.int .i64) (.pair (.int .i64) (.pair (.int .i64) (.pair (.int .u8) (.pair (.int .i8) (.pair (.int .i8) (.pair (.pair (.int .u16) (.int .u16)) (.pair (.pair (.int .u16) (.int .u16)) (.pair (.pair (.int .u8) (.pair (.int .u8) (.pair (.int .u8) (.int .u8)))) (.pair (.pair (.int .u32) (.int .u32)) (.pair (.pair (.int .u32) (.int .u32)) (.pair (.pair (.int .u32) (.int .u32)) (.pair (.int .u32) (.int .u32)))))))))))))))]]⟩
@[reducible] def po_head_Head_longs : PSh := ⟨[], [.mk true [.v (.nptr (.pair (.int .u32) (.int .u32))), .v (.nptr (.pair (.int .u32) (.int .u32))), .v (.nptr (.pair (.int .u32) (.int .u32))), .v (.nptr (.pair (.int .u32) (.int .u32)))]]⟩
def f_head_Head_longs_m (T : Unit) (d : Unit × (((Option (Int × (Int × (Int × (Int × (Int × (Int × ((Int × Int) × ((Int × Int) × ((Int × (Int × (Int × Int))) × ((Int × Int) × ((Int × Int) × ((Int × Int) × (Int × Int)))))))))))))) × Unit) × Unit)) : Option (Unit × (((Option (Int × Int)) × ((Option (Int × Int)) × ((Option (Int × Int)) × ((Option (Int × Int)) × Unit)))) × Unit)) :=
  d.2.1.1.bind fun x1 =>
  d.2.1.1.bind fun x2 =>
  d.2.1.1.bind fun x3 =>
  d.2.1.1.bind fun x4 =>
  some ((), (((some x1.2.2.2.2.2.2.2.2.2.1), ((some x2.2.2.2.2.2.2.2.2.2.2.1), ((some x3.2.2.2.2.2.2.2.2.2.2.2.1), ((some x4.2.2.2.2.2.2.2.2.2.2.2.2), ())))), ()))
def c_head_Head_longs : List Nat := []
def L_head_Head_longs (_ : Nat) : Pts po_head_Head_longs.den := []
def R_head_Head_longs (_ : Nat) : PtsR po_head_Head_longs.den := []
def E_head_Head_longs : Env := E0
theorem q_head_Head_longs_m (k : Nat) (d : Unit × (((Option (Int × (Int × (Int × (Int × (Int × (Int × ((Int × Int) × ((Int × Int) × ((Int × (Int × (Int × Int))) × ((Int × Int) × ((Int × Int) × ((Int × Int) × (Int × Int)))))))))))))) × Unit) × Unit)) : evCode E_head_Head_longs (tb (L_head_Head_longs k) (R_head_Head_longs k)) c_head_Head_longs (bodyOf Try.f56) 0 (finK E_head_Head_longs po_head_Head_longs [.cell 2 106]) (startSt pi_head_Head_longs 16 d) = f_head_Head_longs_m () d := by kernel_rfl
def g_head_Head_longs (d : Unit × (((Option (Int × (Int × (Int × (Int × (Int × (Int × ((Int × Int) × ((Int × Int) × ((Int × (Int × (Int × Int))) × ((Int × Int) × ((Int × Int) × ((Int × Int) × (Int × Int)))))))))))))) × Unit) × Unit)) : Option (Unit × (((Option (Int × Int)) × ((Option (Int × Int)) × ((Option (Int × Int)) × ((Option (Int × Int)) × Unit)))) × Unit)) := f_head_Head_longs_m () d
theorem ok_head_Head_longs : FnOk Try.prog ET0 56 pi_head_Head_longs po_head_Head_longs g_head_Head_longs :=
  fn_of_body (E := E_head_Head_longs) e0_ok (fn := Try.f56) Try.func56 (by kernel_rfl) (by kernel_rfl) [.cell 2 106] (by kernel_rfl) (by kernel_rfl) (by decide) rfl c_head_Head_longs L_head_Head_longs R_head_Head_longs
    (by intro x hx; cases hx) (by intro k x hx; cases hx) (by intro x hx; cases hx) (by intro k x hx; cases hx) (fun d out h => ⟨0, (q_head_Head_longs_m 0 d).trans h⟩)

/- horologe/head.Put -/
@[reducible] def pi_head_Put : PSh := ⟨[], [.mk true [.v (.int .i64), .v (.int .i64), .v (.int .i64), .v (.int .u8), .v (.int .i8), .v (.int .i8), .v (.int .u16), .v (.int .u16), .v (.int .u16), .v (.int .u16), .v (.int .u8), .v (.int .u8), .v (.int .u8), .v (.int .u8), .v (.int .u32), .v (.int .u32), .v (.int .u32), .v (.int .u32), .v (.int .u32), .v (.int .u32), .v (.int .u32), .v (.int .u32)]]⟩
@[reducible] def po_head_Put : PSh := ⟨[.row 5 (.int .u8)], [.mk false [.osl 0], .mk false [.v .err]]⟩
@[reducible] def TT_head_Put : Type := (((((List Int) × Unit) × (Unit × (((Option (Int × Int)) × ((Option (Int × Int)) × ((Option (Int × Int)) × ((Option (Int × Int)) × Unit)))) × ((Int × Unit) × Unit)))) → Option (((List Int) × Unit) × (Unit × (((Option Int) × Unit) × Unit)))) × Unit)
@[reducible] def sh_head_Put_10 : PSh := ⟨[.row 5 (.int .u8)], [.any, .any, .any, .any, .any, .mk false [.osl 0], .any, .any, .any, .any, .any, .any, .any, .any, .any, .any, .any, .any, .any, .any, .any, .any, .any, .any, .any, .any, .any, .any, .any, .any, .any, .any, .any, .any, .any, .any, .any, .any, .any, .any, .any, .any, .any, .any, .any, .any, .mk true [.v (.nptr (.pair (.int .u32) (.int .u32))), .v (.nptr (.pair (.int .u32) (.int .u32))), .v (.nptr (.pair (.int .u32) (.int .u32))), .v (.nptr (.pair (.int .u32) (.int .u32)))], .mk false [.v (.int .i64)], .any, .any, .any, .any, .any, .any, .any, .any, .any, .any]⟩
def f_head_Put_p10 (T : TT_head_Put) (d : ((List Int) × Unit) × (Unit × (((Option (Int × Int)) × ((Option (Int × Int)) × ((Option (Int × Int)) × ((Option (Int × Int)) × Unit)))) × ((Int × Unit) × Unit)))) : Option (((List Int) × Unit) × (Unit × (((Option Int) × Unit) × Unit))) :=
  let x19 : Bool := (decide (d.2.2.2.1.1 < (4 : Int)))
  bif x19 then (
  bif decide ((0 : Int) ≤ d.2.2.2.1.1) && decide (d.2.2.2.1.1 < (4 : Int)) then (
  bif decide (d.2.2.2.1.1 = (0 : Int)) then (
  d.2.2.1.1.bind fun x32 =>
  (g_stamp_Bytes ((), ((x32.1, (x32.2, ())), ()))).bind fun x33 =>
  bif decide (((d.1.1.length + x33.1.1.length) * 1 : Nat) ≤ 140737488355328) && decide (d.1.1.length + x33.1.1.length ≤ 9223372036854775807) then (
  let x34 : (List Int) := (d.1.1 ++ x33.1.1)
  let x35 : Int := (iadd .i64 d.2.2.2.1.1 (1 : Int))
  (T.1 ((x34, ()), ((), ((d.2.2.1.1, (d.2.2.1.2.1, (d.2.2.1.2.2.1, (d.2.2.1.2.2.2.1, ())))), ((x35, ()), ()))))))
  else none)
  else (
  bif decide (d.2.2.2.1.1 = (1 : Int)) then (
  d.2.2.1.2.1.bind fun x28 =>
  (g_stamp_Bytes ((), ((x28.1, (x28.2, ())), ()))).bind fun x29 =>
  bif decide (((d.1.1.length + x29.1.1.length) * 1 : Nat) ≤ 140737488355328) && decide (d.1.1.length + x29.1.1.length ≤ 9223372036854775807) then (
  let x30 : (List Int) := (d.1.1 ++ x29.1.1)
  let x31 : Int := (iadd .i64 d.2.2.2.1.1 (1 : Int))
  (T.1 ((x30, ()), ((), ((d.2.2.1.1, (d.2.2.1.2.1, (d.2.2.1.2.2.1, (d.2.2.1.2.2.2.1, ())))), ((x31, ()), ()))))))
  else none)
  else (
  bif decide (d.2.2.2.1.1 = (2 : Int)) then (
  d.2.2.1.2.2.1.bind fun x24 =>
  (g_stamp_Bytes ((), ((x24.1, (x24.2, ())), ()))).bind fun x25 =>
  bif decide (((d.1.1.length + x25.1.1.length) * 1 : Nat) ≤ 140737488355328) && decide (d.1.1.length + x25.1.1.length ≤ 9223372036854775807) then (
  let x26 : (List Int) := (d.1.1 ++ x25.1.1)
  let x27 : Int := (iadd .i64 d.2.2.2.1.1 (1 : Int))
  (T.1 ((x26, ()), ((), ((d.2.2.1.1, (d.2.2.1.2.1, (d.2.2.1.2.2.1, (d.2.2.1.2.2.2.1, ())))), ((x27, ()), ()))))))
  else none)
  else (
  bif decide (d.2.2.2.1.1 = (3 : Int)) then (
  d.2.2.1.2.2.2.1.bind fun x20 =>
  (g_stamp_Bytes ((), ((x20.1, (x20.2, ())), ()))).bind fun x21 =>
  bif decide (((d.1.1.length + x21.1.1.length) * 1 : Nat) ≤ 140737488355328) && decide (d.1.1.length + x21.1.1.length ≤ 9223372036854775807) then (
  let x22 : (List Int) := (d.1.1 ++ x21.1.1)
  let x23 : Int := (iadd .i64 d.2.2.2.1.1 (1 : Int))
  (T.1 ((x22, ()), ((), ((d.2.2.1.1, (d.2.2.1.2.1, (d.2.2.1.2.2.1, (d.2.2.1.2.2.2.1, ())))), ((x23, ()), ()))))))
  else none)
  else (
  none)))))
  else none)
  else (
  some ((d.1.1, ()), ((), (((none : Option Int), ()), ()))))
def f_head_Put_t : Nat → TT_head_Put
  | 0 => (fun _ => none, ())
  | k + 1 => (f_head_Put_p10 (f_head_Put_t k), ())
theorem t_head_Put (k : Nat) : f_head_Put_t (k + 1) = (f_head_Put_p10 (f_head_Put_t k), ()) := rfl
def f_head_Put_m (T : TT_head_Put) (d : Unit × ((Int × (Int × (Int × (Int × (Int × (Int × (Int × (Int × (Int × (Int × (Int × (Int × (Int × (Int × (Int × (Int × (Int × (Int × (Int × (Int × (Int × (Int × Unit)))))))))))))))))))))) × Unit)) : Option (((List Int) × Unit) × (Unit × (((Option Int) × Unit) × Unit))) :=
  (g_head_Check ((), ((d.2.1.1, (d.2.1.2.1, (d.2.1.2.2.1, (d.2.1.2.2.2.1, (d.2.1.2.2.2.2.1, (d.2.1.2.2.2.2.2.1, (d.2.1.2.2.2.2.2.2.1, (d.2.1.2.2.2.2.2.2.2.1, (d.2.1.2.2.2.2.2.2.2.2.1, (d.2.1.2.2.2.2.2.2.2.2.2.1, (d.2.1.2.2.2.2.2.2.2.2.2.2.1, (d.2.1.2.2.2.2.2.2.2.2.2.2.2.1, (d.2.1.2.2.2.2.2.2.2.2.2.2.2.2.1, (d.2.1.2.2.2.2.2.2.2.2.2.2.2.2.2.1, (d.2.1.2.2.2.2.2.2.2.2.2.2.2.2.2.2.1, (d.2.1.2.2.2.2.2.2.2.2.2.2.2.2.2.2.2.1, (d.2.1.2.2.2.2.2.2.2.2.2.2.2.2.2.2.2.2.1, (d.2.1.2.2.2.2.2.2.2.2.2.2.2.2.2.2.2.2.2.1, (d.2.1.2.2.2.2.2.2.2.2.2.2.2.2.2.2.2.2.2.2.1, (d.2.1.2.2.2.2.2.2.2.2.2.2.2.2.2.2.2.2.2.2.2.1, (d.2.1.2.2.2.2.2.2.2.2.2.2.2.2.2.2.2.2.2.2.2.2.1, (d.2.1.2.2.2.2.2.2.2.2.2.2.2.2.2.2.2.2.2.2.2.2.2.1, ())))))))))))))))))))))), ()))).bind fun x1 =>
  let x2 : Bool := (!x1.2.1.1.isNone)
  bif x2 then (
  some ((([] : List Int), ()), ((), ((x1.2.1.1, ()), ()))))
  else (
  let x3 : Int := (ishl .i64 d.2.1.1 (6 : Int))
  let x4 : Int := (ishl .i64 d.2.1.2.1 (3 : Int))
  let x5 : Int := (ior .i64 x3 x4)
  let x6 : Int := (ior .i64 x5 d.2.1.2.2.1)
  let x7 : Int := (iconv .u8 x6)
  let x8 : Int := (iconv .u8 d.2.1.2.2.2.2.1)
  let x9 : Int := (iconv .u8 d.2.1.2.2.2.2.2.1)
  let x10 : (List Int) := ([x7, d.2.1.2.2.2.1, x8, x9] : List Int)
  (g_stamp_ShortBytes ((), ((d.2.1.2.2.2.2.2.2.1, (d.2.1.2.2.2.2.2.2.2.1, ())), ()))).bind fun x11 =>
  bif decide (((x10.length + x11.1.1.length) * 1 : Nat) ≤ 140737488355328) && decide (x10.length + x11.1.1.length ≤ 9223372036854775807) then (
  let x12 : (List Int) := (x10 ++ x11.1.1)
  (g_stamp_ShortBytes ((), ((d.2.1.2.2.2.2.2.2.2.2.1, (d.2.1.2.2.2.2.2.2.2.2.2.1, ())), ()))).bind fun x13 =>
  bif decide (((x12.length + x13.1.1.length) * 1 : Nat) ≤ 140737488355328) && decide (x12.length + x13.1.1.length ≤ 9223372036854775807) then (
  let x14 : (List Int) := (x12 ++ x13.1.1)
  let x15 : (Int × (Int × (Int × (Int × (Int × (Int × ((Int × Int) × ((Int × Int) × ((Int × (Int × (Int × Int))) × ((Int × Int) × ((Int × Int) × ((Int × Int) × (Int × Int))))))))))))) := (d.2.1.1, (d.2.1.2.1, (d.2.1.2.2.1, (d.2.1.2.2.2.1, (d.2.1.2.2.2.2.1, (d.2.1.2.2.2.2.2.1, ((d.2.1.2.2.2.2.2.2.1, d.2.1.2.2.2.2.2.2.2.1), ((d.2.1.2.2.2.2.2.2.2.2.1, d.2.1.2.2.2.2.2.2.2.2.2.1), ((d.2.1.2.2.2.2.2.2.2.2.2.2.1, (d.2.1.2.2.2.2.2.2.2.2.2.2.2.1, (d.2.1.2.2.2.2.2.2.2.2.2.2.2.2.1, d.2.1.2.2.2.2.2.2.2.2.2.2.2.2.2.1))), ((d.2.1.2.2.2.2.2.2.2.2.2.2.2.2.2.2.1, d.2.1.2.2.2.2.2.2.2.2.2.2.2.2.2.2.2.1), ((d.2.1.2.2.2.2.2.2.2.2.2.2.2.2.2.2.2.2.1, d.2.1.2.2.2.2.2.2.2.2.2.2.2.2.2.2.2.2.2.1), ((d.2.1.2.2.2.2.2.2.2.2.2.2.2.2.2.2.2.2.2.2.1, d.2.1.2.2.2.2.2.2.2.2.2.2.2.2.2.2.2.2.2.2.2.1), (d.2.1.2.2.2.2.2.2.2.2.2.2.2.2.2.2.2.2.2.2.2.2.1, d.2.1.2.2.2.2.2.2.2.2.2.2.2.2.2.2.2.2.2.2.2.2.2.1)))))))))))))
  let x16 : (List Int) := ([x15.2.2.2.2.2.2.2.2.1.1, x15.2.2.2.2.2.2.2.2.1.2.1, x15.2.2.2.2.2.2.2.2.1.2.2.1, x15.2.2.2.2.2.2.2.2.1.2.2.2] : List Int)
  bif decide (((x14.length + x16.length) * 1 : Nat) ≤ 140737488355328) && decide (x14.length + x16.length ≤ 9223372036854775807) then (
  let x17 : (List Int) := (x14 ++ x16)
  (g_head_Head_longs ((), (((some x15), ()), ()))).bind fun x18 =>
  (T.1 ((x17, ()), ((), ((x18.2.1.1, (x18.2.1.2.1, (x18.2.1.2.2.1, (x18.2.1.2.2.2.1, ())))), (((0 : Int), ()), ()))))))
  else none)
  else none)
  else none)
def c_head_Put : List Nat := []
def L_head_Put (k : Nat) : Pts po_head_Put.den := [(10, ⟨sh_head_Put_10, (f_head_Put_t k).1⟩)]
def R_head_Put (_ : Nat) : PtsR po_head_Put.den := []
def E_head_Put : Env := (((((E0.add 16 (typedSem pi_head_Check po_head_Check g_head_Check)).add 34 (typedSem pi_stamp_Bytes po_stamp_Bytes g_stamp_Bytes)).add 36 (typedSem pi_stamp_ShortBytes po_stamp_ShortBytes g_stamp_ShortBytes)).add 56 (typedSem pi_head_Head_longs po_head_Head_longs g_head_Head_longs)).fr [(44, [43])])
theorem q_head_Put_10 (k : Nat) (d : ((List Int) × Unit) × (Unit × (((Option (Int × Int)) × ((Option (Int × Int)) × ((Option (Int × Int)) × ((Option (Int × Int)) × Unit)))) × ((Int × Unit) × Unit)))) : evAt E_head_Put (tb (L_head_Put k) (R_head_Put k)) c_head_Put 10 (bodyOf Try.f12) 0 (finK E_head_Put po_head_Put [.tmp 2, .tmp 3]) (ptSt sh_head_Put_10 d) = f_head_Put_p10 (f_head_Put_t k) d := by kernel_rfl
theorem q_head_Put_m (k : Nat) (d : Unit × ((Int × (Int × (Int × (Int × (Int × (Int × (Int × (Int × (Int × (Int × (Int × (Int × (Int × (Int × (Int × (Int × (Int × (Int × (Int × (Int × (Int × (Int × Unit)))))))))))))))))))))) × Unit)) : evCode E_head_Put (tb (L_head_Put k) (R_head_Put k)) c_head_Put (bodyOf Try.f12) 0 (finK E_head_Put po_head_Put [.tmp 2, .tmp 3]) (startSt pi_head_Put 58 d) = f_head_Put_m (f_head_Put_t k) d := by kernel_rfl
theorem go_head_Put (F : Unit × ((Int × (Int × (Int × (Int × (Int × (Int × (Int × (Int × (Int × (Int × (Int × (Int × (Int × (Int × (Int × (Int × (Int × (Int × (Int × (Int × (Int × (Int × Unit)))))))))))))))))))))) × Unit) → Option (((List Int) × Unit) × (Unit × (((Option Int) × Unit) × Unit)))) (hF : ∀ d out, F d = some out → ∃ k, f_head_Put_m (f_head_Put_t k) d = some out) : FnOk Try.prog ET0 12 pi_head_Put po_head_Put F :=
  fn_of_body (E := E_head_Put) (envOk_fr (envOk_add (envOk_add (envOk_add (envOk_add e0_ok (typed_ok ok_head_Check)) (typed_ok ok_stamp_Bytes)) (typed_ok ok_stamp_ShortBytes)) (typed_ok ok_head_Head_longs))) (fn := Try.f12) Try.func12 (by kernel_rfl) (by kernel_rfl) [.tmp 2, .tmp 3] (by kernel_rfl) (by kernel_rfl) (by decide) rfl c_head_Put L_head_Put R_head_Put
    (by intro x hx d; simp only [L_head_Put, List.mem_cons, List.not_mem_nil, or_false] at hx; subst hx; rfl)
    (by intro k x hx d out h; simp only [L_head_Put, List.mem_cons, List.not_mem_nil, or_false] at hx; subst hx; exact (q_head_Put_10 k d).trans h)
    (by intro x hx; cases hx)
    (by intro k x hx; cases hx)
    (by intro d out h; obtain ⟨k, hk⟩ := hF d out h; exact ⟨k, (q_head_Put_m k d).trans hk⟩)
def g_head_Put (d : Unit × ((Int × (Int × (Int × (Int × (Int × (Int × (Int × (Int × (Int × (Int × (Int × (Int × (Int × (Int × (Int × (Int × (Int × (Int × (Int × (Int × (Int × (Int × Unit)))))))))))))))))))))) × Unit)) : Option (((List Int) × Unit) × (Unit × (((Option Int) × Unit) × Unit))) := lim fun k => f_head_Put_m (f_head_Put_t k) d
theorem ok_head_Put : FnOk Try.prog ET0 12 pi_head_Put po_head_Put g_head_Put := go_head_Put g_head_Put fun d out h => lim_some h

/- horologe/octets.from -/
@[reducible] def pi_octets_from : PSh := ⟨[], [.mk false [.v (.sl (.int .u8))], .mk false [.v (.int .i64)], .mk false [.v (.int .i64)]]⟩
@[reducible] def po_octets_from : PSh := ⟨[], [.mk false [.v (.sl (.int .u8))], .mk false [.v .err]]⟩
def f_octets_from_m (T : Unit) (d : Unit × (((List Int) × Unit) × ((Int × Unit) × ((Int × Unit) × Unit)))) : Option (Unit × (((List Int) × Unit) × (((Option Int) × Unit) × Unit))) :=
  let x1 : Bool := (decide (d.2.2.1.1 < (0 : Int)))
  bif x1 then (
  let x2 : (Option Int) := (some (1 : Int))
  some ((), ((([] : List Int), ()), ((x2, ()), ()))))
  else (
  let x3 : Int := (d.2.1.1.length : Int)
  let x4 : Bool := (decide (d.2.2.1.1 > x3))
  bif x4 then (
  let x5 : (Option Int) := (some (1 : Int))
  some ((), ((([] : List Int), ()), ((x5, ()), ()))))
  else (
  let x6 : Bool := (decide (d.2.2.2.1.1 < (0 : Int)))
  bif x6 then (
  let x7 : (Option Int) := (some (1 : Int))
  some ((), ((([] : List Int), ()), ((x7, ()), ()))))
  else (
  let x8 : Int := (d.2.1.1.length : Int)
  let x9 : Int := (isub .i64 x8 d.2.2.1.1)
  let x10 : Bool := (decide (d.2.2.2.1.1 > x9))
  bif x10 then (
  let x11 : (Option Int) := (some (4 : Int))
  some ((), ((([] : List Int), ()), ((x11, ()), ()))))
  else (
  let x12 : Int := (iadd .i64 d.2.2.1.1 d.2.2.2.1.1)
  bif decide ((0 : Int) ≤ d.2.2.1.1) && decide (d.2.2.1.1 ≤ x12) && decide (x12 ≤ (d.2.1.1.length : Int)) then (
  let x13 : (List Int) := (List.drop (Int.toNat d.2.2.1.1) (List.take (Int.toNat x12) d.2.1.1))
  some ((), ((x13, ()), (((none : Option Int), ()), ()))))
  else none))))
def c_octets_from : List Nat := []
def L_octets_from (_ : Nat) : Pts po_octets_from.den := []
def R_octets_from (_ : Nat) : PtsR po_octets_from.den := []
def E_octets_from : Env := E0
theorem q_octets_from_m (k : Nat) (d : Unit × (((List Int) × Unit) × ((Int × Unit) × ((Int × Unit) × Unit)))) : evCode E_octets_from (tb (L_octets_from k) (R_octets_from k)) c_octets_from (bodyOf Try.f63) 0 (finK E_octets_from po_octets_from [.tmp 6, .tmp 7]) (startSt pi_octets_from 36 d) = f_octets_from_m () d := by kernel_rfl
def g_octets_from (d : Unit × (((List Int) × Unit) × ((Int × Unit) × ((Int × Unit) × Unit)))) : Option (Unit × (((List Int) × Unit) × (((Option Int) × Unit) × Unit))) := f_octets_from_m () d
theorem ok_octets_from : FnOk Try.prog ET0 63 pi_octets_from po_octets_from g_octets_from :=
  fn_of_body (E := E_octets_from) e0_ok (fn := Try.f63) Try.func63 (by kernel_rfl) (by kernel_rfl) [.tmp 6, .tmp 7] (by kernel_rfl) (by kernel_rfl) (by decide) rfl c_octets_from L_octets_from R_octets_from
    (by intro x hx; cases hx) (by intro k x hx; cases hx) (by intro x hx; cases hx) (by intro k x hx; cases hx) (fun d out h => ⟨0, (q_octets_from_m 0 d).trans h⟩)

/- horologe/octets.Size[uint8] -/
@[reducible] def pi_octets_Size_u8 : PSh := ⟨[], []⟩
@[reducible] def po_octets_Size_u8 : PSh := ⟨[], [.mk false [.v (.int .i64)]]⟩
@[reducible] def TT_octets_Size_u8 : Type := (((Unit × ((Int × Unit) × ((Int × Unit) × Unit))) → Option (Unit × ((Int × Unit) × Unit))) × Unit)
@[reducible] def sh_octets_Size_u8_4 : PSh := ⟨[], [.any, .mk false [.v (.int .i64)], .mk false [.v (.int .u8)], .any, .any, .any, .any, .any, .any, .any, .any, .any, .any, .any]⟩
def f_octets_Size_u8_p4 (T : TT_octets_Size_u8) (d : Unit × ((Int × Unit) × ((Int × Unit) × Unit))) : Option (Unit × ((Int × Unit) × Unit)) :=
  let x3 : Bool := (decide (d.2.2.1.1 > (0 : Int)))
  bif x3 then (
  let x4 : Int := (iadd .i64 d.2.1.1 (1 : Int))
  let x5 : Int := (iconv .u64 d.2.2.1.1)
  let x6 : Int := (ishr .u64 x5 (8 : Int))
  let x7 : Int := (iconv .u8 x6)
  (T.1 ((), ((x4, ()), ((x7, ()), ())))))
  else (
  some ((), ((d.2.1.1, ()), ())))
def f_octets_Size_u8_t : Nat → TT_octets_Size_u8
  | 0 => (fun _ => none, ())
  | k + 1 => (f_octets_Size_u8_p4 (f_octets_Size_u8_t k), ())
theorem t_octets_Size_u8 (k : Nat) : f_octets_Size_u8_t (k + 1) = (f_octets_Size_u8_p4 (f_octets_Size_u8_t k), ()) := rfl
def f_octets_Size_u8_m (T : TT_octets_Size_u8) (d : Unit × Unit) : Option (Unit × ((Int × Unit) × Unit)) :=
  let x1 : Int := (iconv .u8 (0 : Int))
  let x2 : Int := (inot .u8 x1)
  (T.1 ((), (((0 : Int), ()), ((x2, ()), ()))))
def c_octets_Size_u8 : List Nat := []
def L_octets_Size_u8 (k : Nat) : Pts po_octets_Size_u8.den := [(4, ⟨sh_octets_Size_u8_4, (f_octets_Size_u8_t k).1⟩)]
def R_octets_Size_u8 (_ : Nat) : PtsR po_octets_Size_u8.den := []
def E_octets_Size_u8 : Env := E0
theorem q_octets_Size_u8_4 (k : Nat) (d : Unit × ((Int × Unit) × ((Int × Unit) × Unit))) : evAt E_octets_Size_u8 (tb (L_octets_Size_u8 k) (R_octets_Size_u8 k)) c_octets_Size_u8 4 (bodyOf Try.f69) 0 (finK E_octets_Size_u8 po_octets_Size_u8 [.tmp 0]) (ptSt sh_octets_Size_u8_4 d) = f_octets_Size_u8_p4 (f_octets_Size_u8_t k) d := by kernel_rfl
theorem q_octets_Size_u8_m (k : Nat) (d : Unit × Unit) : evCode E_octets_Size_u8 (tb (L_octets_Size_u8 k) (R_octets_Size_u8 k)) c_octets_Size_u8 (bodyOf Try.f69) 0 (finK E_octets_Size_u8 po_octets_Size_u8 [.tmp 0]) (startSt pi_octets_Size_u8 14 d) = f_octets_Size_u8_m (f_octets_Size_u8_t k) d := by kernel_rfl
theorem go_octets_Size_u8 (F : Unit × Unit → Option (Unit × ((Int × Unit) × Unit))) (hF : ∀ d out, F d = some out → ∃ k, f_octets_Size_u8_m (f_octets_Size_u8_t k) d = some out) : FnOk Try.prog ET0 69 pi_octets_Size_u8 po_octets_Size_u8 F :=
  fn_of_body (E := E_octets_Size_u8) e0_ok (fn := Try.f69) Try.func69 (by kernel_rfl) (by kernel_rfl) [.tmp 0] (by kernel_rfl) (by kernel_rfl) (by decide) rfl c_octets_Size_u8 L_octets_Size_u8 R_octets_Size_u8
    (by intro x hx d; simp only [L_octets_Size_u8, List.mem_cons, List.not_mem_nil, or_false] at hx; subst hx; rfl)
    (by intro k x hx d out h; simp only [L_octets_Size_u8, List.mem_cons, List.not_mem_nil, or_false] at hx; subst hx; exact (q_octets_Size_u8_4 k d).trans h)
    (by intro x hx; cases hx)
    (by intro k x hx; cases hx)
    (by intro d out h; obtain ⟨k, hk⟩ := hF d out h; exact ⟨k, (q_octets_Size_u8_m k d).trans hk⟩)
def g_octets_Size_u8 (d : Unit × Unit) : Option (Unit × ((Int × Unit) × Unit)) := lim fun k => f_octets_Size_u8_m (f_octets_Size_u8_t k) d
theorem ok_octets_Size_u8 : FnOk Try.prog ET0 69 pi_octets_Size_u8 po_octets_Size_u8 g_octets_Size_u8 := go_octets_Size_u8 g_octets_Size_u8 fun d out h => lim_some h

/- horologe/octets.word[uint8] -/
@[reducible] def pi_octets_word_u8 : PSh := ⟨[], [.mk false [.v (.sl (.int .u8))]]⟩
@[reducible] def po_octets_word_u8 : PSh := ⟨[], [.mk false [.v (.int .u8)]]⟩
@[reducible] def TT_octets_word_u8 : Type := (((Unit × ((Int × Unit) × (((List Int) × Unit) × ((Int × Unit) × ((Int × Unit) × Unit))))) → Option (Unit × ((Int × Unit) × Unit))) × Unit)
@[reducible] def sh_octets_word_u8_4 : PSh := ⟨[], [.any, .any, .any, .mk false [.v (.int .u64)], .any, .any, .mk false [.v (.sl (.int .u8))], .mk false [.v (.int .i64)], .mk false [.v (.int .i64)], .any, .any, .any, .any, .any, .any, .any, .any, .any, .any, .any]⟩
def f_octets_word_u8_p4 (T : TT_octets_word_u8) (d : Unit × ((Int × Unit) × (((List Int) × Unit) × ((Int × Unit) × ((Int × Unit) × Unit))))) : Option (Unit × ((Int × Unit) × Unit)) :=
  let x2 : Bool := (decide (d.2.2.2.2.1.1 < d.2.2.2.1.1))
  bif x2 then (
  bif decide ((0 : Int) ≤ d.2.2.2.2.1.1) && decide (d.2.2.2.2.1.1 < (d.2.2.1.1.length : Int)) then (
  let x3 : Int := (ishl .u64 d.2.1.1 (8 : Int))
  let x4 : Int := (iconv .u64 (gd (.int .u8) d.2.2.1.1 d.2.2.2.2.1.1))
  let x5 : Int := (ior .u64 x3 x4)
  let x6 : Int := (iadd .i64 d.2.2.2.2.1.1 (1 : Int))
  (T.1 ((), ((x5, ()), ((d.2.2.1.1, ()), ((d.2.2.2.1.1, ()), ((x6, ()), ())))))))
  else none)
  else (
  let x7 : Int := (iconv .u8 d.2.1.1)
  some ((), ((x7, ()), ())))
def f_octets_word_u8_t : Nat → TT_octets_word_u8
  | 0 => (fun _ => none, ())
  | k + 1 => (f_octets_word_u8_p4 (f_octets_word_u8_t k), ())
theorem t_octets_word_u8 (k : Nat) : f_octets_word_u8_t (k + 1) = (f_octets_word_u8_p4 (f_octets_word_u8_t k), ()) := rfl
def f_octets_word_u8_m (T : TT_octets_word_u8) (d : Unit × (((List Int) × Unit) × Unit)) : Option (Unit × ((Int × Unit) × Unit)) :=
  let x1 : Int := (d.2.1.1.length : Int)
  (T.1 ((), (((0 : Int), ()), ((d.2.1.1, ()), ((x1, ()), (((0 : Int), ()), ()))))))
def c_octets_word_u8 : List Nat := []
def L_octets_word_u8 (k : Nat) : Pts po_octets_word_u8.den := [(4, ⟨sh_octets_word_u8_4, (f_octets_word_u8_t k).1⟩)]
def R_octets_word_u8 (_ : Nat) : PtsR po_octets_word_u8.den := []
def E_octets_word_u8 : Env := E0
theorem q_octets_word_u8_4 (k : Nat) (d : Unit × ((Int × Unit) × (((List Int) × Unit) × ((Int × Unit) × ((Int × Unit) × Unit))))) : evAt E_octets_word_u8 (tb (L_octets_word_u8 k) (R_octets_word_u8 k)) c_octets_word_u8 4 (bodyOf Try.f92) 0 (finK E_octets_word_u8 po_octets_word_u8 [.tmp 2]) (ptSt sh_octets_word_u8_4 d) = f_octets_word_u8_p4 (f_octets_word_u8_t k) d := by kernel_rfl
theorem q_octets_word_u8_m (k : Nat) (d : Unit × (((List Int) × Unit) × Unit)) : evCode E_octets_word_u8 (tb (L_octets_word_u8 k) (R_octets_word_u8 k)) c_octets_word_u8 (bodyOf Try.f92) 0 (finK E_octets_word_u8 po_octets_word_u8 [.tmp 2]) (startSt pi_octets_word_u8 20 d) = f_octets_word_u8_m (f_octets_word_u8_t k) d := by kernel_rfl
theorem go_octets_word_u8 (F : Unit × (((List Int) × Unit) × Unit) → Option (Unit × ((Int × Unit) × Unit))) (hF : ∀ d out, F d = some out → ∃ k, f_octets_word_u8_m (f_octets_word_u8_t k) d = some out) : FnOk Try.prog ET0 92 pi_octets_word_u8 po_octets_word_u8 F :=
  fn_of_body (E := E_octets_word_u8) e0_ok (fn := Try.f92) Try.func92 (by kernel_rfl) (by kernel_rfl) [.tmp 2] (by kernel_rfl) (by kernel_rfl) (by decide) rfl c_octets_word_u8 L_octets_word_u8 R_octets_word_u8
    (by intro x hx d; simp only [L_octets_word_u8, List.mem_cons, List.not_mem_nil, or_false] at hx; subst hx; rfl)
    (by intro k x hx d out h; simp only [L_octets_word_u8, List.mem_cons, List.not_mem_nil, or_false] at hx; subst hx; exact (q_octets_word_u8_4 k d).trans h)
    (by intro x hx; cases hx)
    (by intro k x hx; cases hx)
    (by intro d out h; obtain ⟨k, hk⟩ := hF d out h; exact ⟨k, (q_octets_word_u8_m k d).trans hk⟩)
def g_octets_word_u8 (d : Unit × (((List Int) × Unit) × Unit)) : Option (Unit × ((Int × Unit) × Unit)) := lim fun k => f_octets_word_u8_m (f_octets_word_u8_t k) d
theorem ok_octets_word_u8 : FnOk Try.prog ET0 92 pi_octets_word_u8 po_octets_word_u8 g_octets_word_u8 := go_octets_word_u8 g_octets_word_u8 fun d out h => lim_some h

/- horologe/octets.Get[uint8] -/
@[reducible] def pi_octets_Get_u8 : PSh := ⟨[], [.mk false [.v (.sl (.int .u8))], .mk false [.v (.int .i64)]]⟩
@[reducible] def po_octets_Get_u8 : PSh := ⟨[], [.mk false [.v (.int .u8)], .mk false [.v .err]]⟩
def f_octets_Get_u8_m (T : Unit) (d : Unit × (((List Int) × Unit) × ((Int × Unit) × Unit))) : Option (Unit × ((Int × Unit) × (((Option Int) × Unit) × Unit))) :=
  (g_octets_Size_u8 ((), ())).bind fun x1 =>
  (g_octets_from ((), ((d.2.1.1, ()), ((d.2.2.1.1, ()), ((x1.2.1.1, ()), ()))))).bind fun x2 =>
  let x3 : Bool := (!x2.2.2.1.1.isNone)
  bif x3 then (
  some ((), (((0 : Int), ()), ((x2.2.2.1.1, ()), ()))))
  else (
  (g_octets_word_u8 ((), ((x2.2.1.1, ()), ()))).bind fun x4 =>
  some ((), ((x4.2.1.1, ()), (((none : Option Int), ()), ()))))
def c_octets_Get_u8 : List Nat := []
def L_octets_Get_u8 (_ : Nat) : Pts po_octets_Get_u8.den := []
def R_octets_Get_u8 (_ : Nat) : PtsR po_octets_Get_u8.den := []
def E_octets_Get_u8 : Env := (((E0.add 63 (typedSem pi_octets_from po_octets_from g_octets_from)).add 69 (typedSem pi_octets_Size_u8 po_octets_Size_u8 g_octets_Size_u8)).add 92 (typedSem pi_octets_word_u8 po_octets_word_u8 g_octets_word_u8))
theorem q_octets_Get_u8_m (k : Nat) (d : Unit × (((List Int) × Unit) × ((Int × Unit) × Unit))) : evCode E_octets_Get_u8 (tb (L_octets_Get_u8 k) (R_octets_Get_u8 k)) c_octets_Get_u8 (bodyOf Try.f70) 0 (finK E_octets_Get_u8 po_octets_Get_u8 [.tmp 4, .tmp 5]) (startSt pi_octets_Get_u8 20 d) = f_octets_Get_u8_m () d := by kernel_rfl
def g_octets_Get_u8 (d : Unit × (((List Int) × Unit) × ((Int × Unit) × Unit))) : Option (Unit × ((Int × Unit) × (((Option Int) × Unit) × Unit))) := f_octets_Get_u8_m () d
theorem ok_octets_Get_u8 : FnOk Try.prog ET0 70 pi_octets_Get_u8 po_octets_Get_u8 g_octets_Get_u8 :=
  fn_of_body (E := E_octets_Get_u8) (envOk_add (envOk_add (envOk_add e0_ok (typed_ok ok_octets_from)) (typed_ok ok_octets_Size_u8)) (typed_ok ok_octets_word_u8)) (fn := Try.f70) Try.func70 (by kernel_rfl) (by kernel_rfl) [.tmp 4, .tmp 5] (by kernel_rfl) (by kernel_rfl) (by decide) rfl c_octets_Get_u8 L_octets_Get_u8 R_octets_Get_u8
    (by intro x hx; cases hx) (by intro k x hx; cases hx) (by intro x hx; cases hx) (by intro k x hx; cases hx) (fun d out h => ⟨0, (q_octets_Get_u8_m 0 d).trans h⟩)

/- horologe/head.First -/
@[reducible] def pi_head_First : PSh := ⟨[], [.mk false [.v (.sl (.int .u8))]]⟩
@[reducible] def po_head_First : PSh := ⟨[], [.mk false [.v (.int .i64)], .mk false [.v (.int .i64)], .mk false [.v (.int .i64)], .mk false [.v .err]]⟩
def f_head_First_m (T : Unit) (d : Unit × (((List Int) × Unit) × Unit)) : Option (Unit × ((Int × Unit) × ((Int × Unit) × ((Int × Unit) × (((Option Int) × Unit) × Unit))))) :=
  (g_octets_Get_u8 ((), ((d.2.1.1, ()), (((0 : Int), ()), ())))).bind fun x1 =>
  let x2 : Bool := (!x1.2.2.1.1.isNone)
  bif x2 then (
  some ((), (((0 : Int), ()), (((0 : Int), ()), (((0 : Int), ()), ((x1.2.2.1.1, ()), ()))))))
  else (
  let x3 : Int := (ishr .u8 x1.2.1.1 (6 : Int))
  let x4 : Int := (iconv .i64 x3)
  let x5 : Int := (ishr .u8 x1.2.1.1 (3 : Int))
  let x6 : Int := (iand .u8 x5 (7 : Int))
  let x7 : Int := (iconv .i64 x6)
  let x8 : Int := (iand .u8 x1.2.1.1 (7 : Int))
  let x9 : Int := (iconv .i64 x8)
  some ((), ((x4, ()), ((x7, ()), ((x9, ()), (((none : Option Int), ()), ()))))))
def c_head_First : List Nat := []
def L_head_First (_ : Nat) : Pts po_head_First.den := []
def R_head_First (_ : Nat) : PtsR po_head_First.den := []
def E_head_First : Env := (E0.add 70 (typedSem pi_octets_Get_u8 po_octets_Get_u8 g_octets_Get_u8))
theorem q_head_First_m (k : Nat) (d : Unit × (((List Int) × Unit) × Unit)) : evCode E_head_First (tb (L_head_First k) (R_head_First k)) c_head_First (bodyOf Try.f52) 0 (finK E_head_First po_head_First [.tmp 2, .tmp 3, .tmp 4, .tmp 5]) (startSt pi_head_First 25 d) = f_head_First_m () d := by kernel_rfl
def g_head_First (d : Unit × (((List Int) × Unit) × Unit)) : Option (Unit × ((Int × Unit) × ((Int × Unit) × ((Int × Unit) × (((Option Int) × Unit) × Unit))))) := f_head_First_m () d
theorem ok_head_First : FnOk Try.prog ET0 52 pi_head_First po_head_First g_head_First :=
  fn_of_body (E := E_head_First) (envOk_add e0_ok (typed_ok ok_octets_Get_u8)) (fn := Try.f52) Try.func52 (by kernel_rfl) (by kernel_rfl) [.tmp 2, .tmp 3, .tmp 4, .tmp 5] (by kernel_rfl) (by kernel_rfl) (by decide) rfl c_head_First L_head_First R_head_First
    (by intro x hx; cases hx) (by intro k x hx; cases hx) (by intro x hx; cases hx) (by intro k x hx; cases hx) (fun d out h => ⟨0, (q_head_First_m 0 d).trans h⟩)

/- horologe/horologelaw28.alive -/
@[reducible] def pi_law28_alive : PSh := ⟨[], []⟩
@[reducible] def po_law28_alive : PSh := ⟨[], [.mk false [.v .bool]]⟩
def f_law28_alive_m (T : Unit) (d : Unit × Unit) : Option (Unit × ((Bool × Unit) × Unit)) :=
  let x1 : (List Int) := ([(35 : Int)] : List Int)
  (g_head_First ((), ((x1, ()), ()))).bind fun x2 =>
  (g_head_Put ((), (((0 : Int), ((4 : Int), ((3 : Int), ((9 : Int), ((0 : Int), ((0 : Int), ((0 : Int), ((0 : Int), ((0 : Int), ((0 : Int), ((0 : Int), ((0 : Int), ((0 : Int), ((0 : Int), ((0 : Int), ((0 : Int), ((0 : Int), ((0 : Int), ((0 : Int), ((0 : Int), ((0 : Int), ((0 : Int), ())))))))))))))))))))))), ()))).bind fun x3 =>
  bif x2.2.2.2.2.1.1.isNone then (
  bif x3.2.2.1.1.isNone then (
  let x4 : Bool := (x2.2.1.1 == (0 : Int))
  bif x4 then (
  let x5 : Bool := (x2.2.2.1.1 == (4 : Int))
  bif x5 then (
  let x6 : Bool := (x2.2.2.2.1.1 == (3 : Int))
  bif x6 then (
  let x7 : Int := (x3.1.1.length : Int)
  let x8 : Bool := (x7 == (48 : Int))
  bif x8 then (
  bif decide ((0 : Int) ≤ (0 : Int)) && decide ((0 : Int) < (x3.1.1.length : Int)) then (
  let x9 : Bool := ((gd (.int .u8) x3.1.1 (0 : Int)) == (35 : Int))
  bif x9 then (
  bif decide ((0 : Int) ≤ (1 : Int)) && decide ((1 : Int) < (x3.1.1.length : Int)) then (
  let x10 : Bool := ((gd (.int .u8) x3.1.1 (1 : Int)) == (9 : Int))
  some ((), ((x10, ()), ())))
  else none)
  else (
  some ((), ((false, ()), ()))))
  else none)
  else (
  some ((), ((false, ()), ()))))
  else (
  some ((), ((false, ()), ()))))
  else (
  some ((), ((false, ()), ()))))
  else (
  some ((), ((false, ()), ()))))
  else (
  some ((), ((false, ()), ()))))
  else (
  some ((), ((false, ()), ())))
def c_law28_alive : List Nat := []
def L_law28_alive (_ : Nat) : Pts po_law28_alive.den := []
def R_law28_alive (_ : Nat) : PtsR po_law28_alive.den := []
def E_law28_alive : Env := ((E0.add 12 (typedSem pi_head_Put po_head_Put g_head_Put)).add 52 (typedSem pi_head_First po_head_First g_head_First))
theorem q_law28_alive_m (k : Nat) (d : Unit × Unit) : evCode E_law28_alive (tb (L_law28_alive k) (R_law28_alive k)) c_law28_alive (bodyOf Try.f11) 0 (finK E_law28_alive po_law28_alive [.tmp 0]) (startSt pi_law28_alive 54 d) = f_law28_alive_m () d := by kernel_rfl
def g_law28_alive (d : Unit × Unit) : Option (Unit × ((Bool × Unit) × Unit)) := f_law28_alive_m () d
theorem ok_law28_alive : FnOk Try.prog ET0 11 pi_law28_alive po_law28_alive g_law28_alive :=
  fn_of_body (E := E_law28_alive) (envOk_add (envOk_add e0_ok (typed_ok ok_head_Put)) (typed_ok ok_head_First)) (fn := Try.f11) Try.func11 (by kernel_rfl) (by kernel_rfl) [.tmp 0] (by kernel_rfl) (by kernel_rfl) (by decide) rfl c_law28_alive L_law28_alive R_law28_alive
    (by intro x hx; cases hx) (by intro k x hx; cases hx) (by intro x hx; cases hx) (by intro k x hx; cases hx) (fun d out h => ⟨0, (q_law28_alive_m 0 d).trans h⟩)

/- horologe/horologenum.Bytes -/
@[reducible] def pi_hnum_Bytes : PSh := ⟨[], [.mk false [.v (.sl (.int .u8))], .mk false [.v (.sl (.int .u8))]]⟩
@[reducible] def po_hnum_Bytes : PSh := ⟨[], [.mk false [.v .bool]]⟩
def f_hnum_Bytes_m (T : Unit) (d : Unit × (((List Int) × Unit) × (((List Int) × Unit) × Unit))) : Option (Unit × ((Bool × Unit) × Unit)) :=
  let x1 : ByteArray := (strOf d.2.1.1)
  let x2 : ByteArray := (strOf d.2.2.1.1)
  let x3 : Bool := (x1.toList == x2.toList)
  some ((), ((x3, ()), ()))
def c_hnum_Bytes : List Nat := []
def L_hnum_Bytes (_ : Nat) : Pts po_hnum_Bytes.den := []
def R_hnum_Bytes (_ : Nat) : PtsR po_hnum_Bytes.den := []
def E_hnum_Bytes : Env := E0
theorem q_hnum_Bytes_m (k : Nat) (d : Unit × (((List Int) × Unit) × (((List Int) × Unit) × Unit))) : evCode E_hnum_Bytes (tb (L_hnum_Bytes k) (R_hnum_Bytes k)) c_hnum_Bytes (bodyOf Try.f17) 0 (finK E_hnum_Bytes po_hnum_Bytes [.tmp 4]) (startSt pi_hnum_Bytes 10 d) = f_hnum_Bytes_m () d := by kernel_rfl
def g_hnum_Bytes (d : Unit × (((List Int) × Unit) × (((List Int) × Unit) × Unit))) : Option (Unit × ((Bool × Unit) × Unit)) := f_hnum_Bytes_m () d
theorem ok_hnum_Bytes : FnOk Try.prog ET0 17 pi_hnum_Bytes po_hnum_Bytes g_hnum_Bytes :=
  fn_of_body (E := E_hnum_Bytes) e0_ok (fn := Try.f17) Try.func17 (by kernel_rfl) (by kernel_rfl) [.tmp 4] (by kernel_rfl) (by kernel_rfl) (by decide) rfl c_hnum_Bytes L_hnum_Bytes R_hnum_Bytes
    (by intro x hx; cases hx) (by intro k x hx; cases hx) (by intro x hx; cases hx) (by intro k x hx; cases hx) (fun d out h => ⟨0, (q_hnum_Bytes_m 0 d).trans h⟩)

/- (horologe/stamp.Long).bits -/
@[reducible] def pi_stamp_Long_bits : PSh := ⟨[], [.mk true [.v (.int .u32), .v (.int .u32)]]⟩
@[reducible] def po_stamp_Long_bits : PSh := ⟨[], [.mk false [.v (.int .u64)]]⟩
def f_stamp_Long_bits_m (T : Unit) (d : Unit × ((Int × (Int × Unit)) × Unit)) : Option (Unit × ((Int × Unit) × Unit)) :=
  let x1 : Int := (iconv .u64 d.2.1.1)
  let x2 : Int := (ishl .u64 x1 (32 : Int))
  let x3 : Int := (iconv .u64 d.2.1.2.1)
  let x4 : Int := (ior .u64 x2 x3)
  some ((), ((x4, ()), ()))
def c_stamp_Long_bits : List Nat := []
def L_stamp_Long_bits (_ : Nat) : Pts po_stamp_Long_bits.den := []
def R_stamp_Long_bits (_ : Nat) : PtsR po_stamp_Long_bits.den := []
def E_stamp_Long_bits : Env := E0
theorem q_stamp_Long_bits_m (k : Nat) (d : Unit × ((Int × (Int × Unit)) × Unit)) : evCode E_stamp_Long_bits (tb (L_stamp_Long_bits k) (R_stamp_Long_bits k)) c_stamp_Long_bits (bodyOf Try.f82) 0 (finK E_stamp_Long_bits po_stamp_Long_bits [.tmp 2]) (startSt pi_stamp_Long_bits 11 d) = f_stamp_Long_bits_m () d := by kernel_rfl
def g_stamp_Long_bits (d : Unit × ((Int × (Int × Unit)) × Unit)) : Option (Unit × ((Int × Unit) × Unit)) := f_stamp_Long_bits_m () d
theorem ok_stamp_Long_bits : FnOk Try.prog ET0 82 pi_stamp_Long_bits po_stamp_Long_bits g_stamp_Long_bits :=
  fn_of_body (E := E_stamp_Long_bits) e0_ok (fn := Try.f82) Try.func82 (by kernel_rfl) (by kernel_rfl) [.tmp 2] (by kernel_rfl) (by kernel_rfl) (by decide) rfl c_stamp_Long_bits L_stamp_Long_bits R_stamp_Long_bits
    (by intro x hx; cases hx) (by intro k x hx; cases hx) (by intro x hx; cases hx) (by intro k x hx; cases hx) (fun d out h => ⟨0, (q_stamp_Long_bits_m 0 d).trans h⟩)

/- horologe/stamp.Sub -/
@[reducible] def pi_stamp_Sub : PSh := ⟨[], [.mk true [.v (.int .u32), .v (.int .u32)], .mk true [.v (.int .u32), .v (.int .u32)]]⟩
@[reducible] def po_stamp_Sub : PSh := ⟨[], [.mk false [.v (.int .i64)]]⟩
def f_stamp_Sub_m (T : Unit) (d : Unit × ((Int × (Int × Unit)) × ((Int × (Int × Unit)) × Unit))) : Option (Unit × ((Int × Unit) × Unit)) :=
  (g_stamp_Long_bits ((), ((d.2.1.1, (d.2.1.2.1, ())), ()))).bind fun x1 =>
  (g_stamp_Long_bits ((), ((d.2.2.1.1, (d.2.2.1.2.1, ())), ()))).bind fun x2 =>
  let x3 : Int := (isub .u64 x1.2.1.1 x2.2.1.1)
  let x4 : Int := (iconv .i64 x3)
  some ((), ((x4, ()), ()))
def c_stamp_Sub : List Nat := []
def L_stamp_Sub (_ : Nat) : Pts po_stamp_Sub.den := []
def R_stamp_Sub (_ : Nat) : PtsR po_stamp_Sub.den := []
def E_stamp_Sub : Env := (E0.add 82 (typedSem pi_stamp_Long_bits po_stamp_Long_bits g_stamp_Long_bits))
theorem q_stamp_Sub_m (k : Nat) (d : Unit × ((Int × (Int × Unit)) × ((Int × (Int × Unit)) × Unit))) : evCode E_stamp_Sub (tb (L_stamp_Sub k) (R_stamp_Sub k)) c_stamp_Sub (bodyOf Try.f37) 0 (finK E_stamp_Sub po_stamp_Sub [.tmp 4]) (startSt pi_stamp_Sub 11 d) = f_stamp_Sub_m () d := by kernel_rfl
def g_stamp_Sub (d : Unit × ((Int × (Int × Unit)) × ((Int × (Int × Unit)) × Unit))) : Option (Unit × ((Int × Unit) × Unit)) := f_stamp_Sub_m () d
theorem ok_stamp_Sub : FnOk Try.prog ET0 37 pi_stamp_Sub po_stamp_Sub g_stamp_Sub :=
  fn_of_body (E := E_stamp_Sub) (envOk_add e0_ok (typed_ok ok_stamp_Long_bits)) (fn := Try.f37) Try.func37 (by kernel_rfl) (by kernel_rfl) [.tmp 4] (by kernel_rfl) (by kernel_rfl) (by decide) rfl c_stamp_Sub L_stamp_Sub R_stamp_Sub
    (by intro x hx; cases hx) (by intro k x hx; cases hx) (by intro x hx; cases hx) (by intro k x hx; cases hx) (fun d out h => ⟨0, (q_stamp_Sub_m 0 d).trans h⟩)

/- horologe/head.Round -/
@[reducible] def pi_head_Round : PSh := ⟨[], [.mk true [.v (.int .i64), .v (.int .i64), .v (.int .i64), .v (.int .u8), .v (.int .i8), .v (.int .i8), .v (.int .u16), .v (.int .u16), .v (.int .u16), .v (.int .u16), .v (.int .u8), .v (.int .u8), .v (.int .u8), .v (.int .u8), .v (.int .u32), .v (.int .u32), .v (.int .u32), .v (.int .u32), .v (.int .u32), .v (.int .u32), .v (.int .u32), .v (.int .u32)], .mk true [.v (.int .u32), .v (.int .u32)]]⟩
@[reducible] def po_head_Round : PSh := ⟨[], [.mk false [.v (.int .i64)], .mk false [.v (.int .i64)]]⟩
def f_head_Round_m (T : Unit) (d : Unit × ((Int × (Int × (Int × (Int × (Int × (Int × (Int × (Int × (Int × (Int × (Int × (Int × (Int × (Int × (Int × (Int × (Int × (Int × (Int × (Int × (Int × (Int × Unit)))))))))))))))))))))) × ((Int × (Int × Unit)) × Unit))) : Option (Unit × ((Int × Unit) × ((Int × Unit) × Unit))) :=
  (g_stamp_Sub ((), ((d.2.1.2.2.2.2.2.2.2.2.2.2.2.2.2.2.2.2.2.2.1, (d.2.1.2.2.2.2.2.2.2.2.2.2.2.2.2.2.2.2.2.2.2.1, ())), ((d.2.1.2.2.2.2.2.2.2.2.2.2.2.2.2.2.2.2.1, (d.2.1.2.2.2.2.2.2.2.2.2.2.2.2.2.2.2.2.2.1, ())), ())))).bind fun x1 =>
  (g_stamp_Sub ((), ((d.2.1.2.2.2.2.2.2.2.2.2.2.2.2.2.2.2.2.2.2.2.2.1, (d.2.1.2.2.2.2.2.2.2.2.2.2.2.2.2.2.2.2.2.2.2.2.2.1, ())), ((d.2.2.1.1, (d.2.2.1.2.1, ())), ())))).bind fun x2 =>
  (g_stamp_Sub ((), ((d.2.2.1.1, (d.2.2.1.2.1, ())), ((d.2.1.2.2.2.2.2.2.2.2.2.2.2.2.2.2.2.2.1, (d.2.1.2.2.2.2.2.2.2.2.2.2.2.2.2.2.2.2.2.1, ())), ())))).bind fun x3 =>
  (g_stamp_Sub ((), ((d.2.1.2.2.2.2.2.2.2.2.2.2.2.2.2.2.2.2.2.2.2.2.1, (d.2.1.2.2.2.2.2.2.2.2.2.2.2.2.2.2.2.2.2.2.2.2.2.1, ())), ((d.2.1.2.2.2.2.2.2.2.2.2.2.2.2.2.2.2.2.2.2.1, (d.2.1.2.2.2.2.2.2.2.2.2.2.2.2.2.2.2.2.2.2.2.1, ())), ())))).bind fun x4 =>
  let x5 : Int := (isub .i64 x3.2.1.1 x4.2.1.1)
  let x6 : Int := (ishr .i64 x1.2.1.1 (1 : Int))
  let x7 : Int := (ishr .i64 x2.2.1.1 (1 : Int))
  let x8 : Int := (iadd .i64 x6 x7)
  let x9 : Int := (iand .i64 x1.2.1.1 x2.2.1.1)
  let x10 : Int := (iand .i64 x9 (1 : Int))
  let x11 : Int := (iadd .i64 x8 x10)
  some ((), ((x11, ()), ((x5, ()), ())))
def c_head_Round : List Nat := []
def L_head_Round (_ : Nat) : Pts po_head_Round.den := []
def R_head_Round (_ : Nat) : PtsR po_head_Round.den := []
def E_head_Round : Env := (E0.add 37 (typedSem pi_stamp_Sub po_stamp_Sub g_stamp_Sub))
theorem q_head_Round_m (k : Nat) (d : Unit × ((Int × (Int × (Int × (Int × (Int × (Int × (Int × (Int × (Int × (Int × (Int × (Int × (Int × (Int × (Int × (Int × (Int × (Int × (Int × (Int × (Int × (Int × Unit)))))))))))))))))))))) × ((Int × (Int × Unit)) × Unit))) : evCode E_head_Round (tb (L_head_Round k) (R_head_Round k)) c_head_Round (bodyOf Try.f27) 0 (finK E_head_Round po_head_Round [.tmp 4, .tmp 5]) (startSt pi_head_Round 38 d) = f_head_Round_m () d := by kernel_rfl
def g_head_Round (d : Unit × ((Int × (Int × (Int × (Int × (Int × (Int × (Int × (Int × (Int × (Int × (Int × (Int × (Int × (Int × (Int × (Int × (Int × (Int × (Int × (Int × (Int × (Int × Unit)))))))))))))))))))))) × ((Int × (Int × Unit)) × Unit))) : Option (Unit × ((Int × Unit) × ((Int × Unit) × Unit))) := f_head_Round_m () d
theorem ok_head_Round : FnOk Try.prog ET0 27 pi_head_Round po_head_Round g_head_Round :=
  fn_of_body (E := E_head_Round) (envOk_add e0_ok (typed_ok ok_stamp_Sub)) (fn := Try.f27) Try.func27 (by kernel_rfl) (by kernel_rfl) [.tmp 4, .tmp 5] (by kernel_rfl) (by kernel_rfl) (by decide) rfl c_head_Round L_head_Round R_head_Round
    (by intro x hx; cases hx) (by intro k x hx; cases hx) (by intro x hx; cases hx) (by intro k x hx; cases hx) (fun d out h => ⟨0, (q_head_Round_m 0 d).trans h⟩)

/- horologe/octets.Cut -/
@[reducible] def pi_octets_Cut : PSh := ⟨[], [.mk false [.v (.sl (.int .u8))], .mk false [.v (.int .i64)], .mk false [.v (.int .i64)]]⟩
@[reducible] def po_octets_Cut : PSh := ⟨[.row 5 (.int .u8)], [.mk false [.osl 0], .mk false [.v .err]]⟩
def f_octets_Cut_m (T : Unit) (d : Unit × (((List Int) × Unit) × ((Int × Unit) × ((Int × Unit) × Unit)))) : Option (((List Int) × Unit) × (Unit × (((Option Int) × Unit) × Unit))) :=
  (g_octets_from ((), ((d.2.1.1, ()), ((d.2.2.1.1, ()), ((d.2.2.2.1.1, ()), ()))))).bind fun x1 =>
  let x2 : Bool := (!x1.2.2.1.1.isNone)
  bif x2 then (
  some ((([] : List Int), ()), ((), ((x1.2.2.1.1, ()), ()))))
  else (
  (g_slices_Clone_byte_byte ((), ((x1.2.1.1, ()), ()))).bind fun x3 =>
  some ((x3.1.1, ()), ((), (((none : Option Int), ()), ()))))
def c_octets_Cut : List Nat := []
def L_octets_Cut (_ : Nat) : Pts po_octets_Cut.den := []
def R_octets_Cut (_ : Nat) : PtsR po_octets_Cut.den := []
def E_octets_Cut : Env := ((E0.add 61 (typedSem pi_slices_Clone_byte_byte po_slices_Clone_byte_byte g_slices_Clone_byte_byte)).add 63 (typedSem pi_octets_from po_octets_from g_octets_from))
theorem q_octets_Cut_m (k : Nat) (d : Unit × (((List Int) × Unit) × ((Int × Unit) × ((Int × Unit) × Unit)))) : evCode E_octets_Cut (tb (L_octets_Cut k) (R_octets_Cut k)) c_octets_Cut (bodyOf Try.f26) 0 (finK E_octets_Cut po_octets_Cut [.tmp 6, .tmp 7]) (startSt pi_octets_Cut 22 d) = f_octets_Cut_m () d := by kernel_rfl
def g_octets_Cut (d : Unit × (((List Int) × Unit) × ((Int × Unit) × ((Int × Unit) × Unit)))) : Option (((List Int) × Unit) × (Unit × (((Option Int) × Unit) × Unit))) := f_octets_Cut_m () d
theorem ok_octets_Cut : FnOk Try.prog ET0 26 pi_octets_Cut po_octets_Cut g_octets_Cut :=
  fn_of_body (E := E_octets_Cut) (envOk_add (envOk_add e0_ok (typed_ok ok_slices_Clone_byte_byte)) (typed_ok ok_octets_from)) (fn := Try.f26) Try.func26 (by kernel_rfl) (by kernel_rfl) [.tmp 6, .tmp 7] (by kernel_rfl) (by kernel_rfl) (by decide) rfl c_octets_Cut L_octets_Cut R_octets_Cut
    (by intro x hx; cases hx) (by intro k x hx; cases hx) (by intro x hx; cases hx) (by intro k x hx; cases hx) (fun d out h => ⟨0, (q_octets_Cut_m 0 d).trans h⟩)

/- slices.Chunk[[]byte,byte] -/
@[reducible] def pi_slices_Chunk_byte_byte : PSh := ⟨[], [.mk false [.v (.sl (.int .u8))], .mk false [.v (.int .i64)]]⟩
@[reducible] def po_slices_Chunk_byte_byte : PSh := ⟨[.var 33 [.v (.sl (.int .u8))], .var 3 [.v (.int .i64)]], [.mk false [.fn 91 [0, 1]]]⟩
def f_slices_Chunk_byte_byte_m (T : Unit) (d : Unit × (((List Int) × Unit) × ((Int × Unit) × Unit))) : Option ((((List Int) × Unit) × ((Int × Unit) × Unit)) × (Unit × Unit)) :=
  let x1 : Bool := (decide (d.2.2.1.1 < (1 : Int)))
  bif x1 then (
  none)
  else (
  some (((d.2.1.1, ()), ((d.2.2.1.1, ()), ())), ((), ())))
def c_slices_Chunk_byte_byte : List Nat := []
def L_slices_Chunk_byte_byte (_ : Nat) : Pts po_slices_Chunk_byte_byte.den := []
def R_slices_Chunk_byte_byte (_ : Nat) : PtsR po_slices_Chunk_byte_byte.den := []
def E_slices_Chunk_byte_byte : Env := E0
theorem q_slices_Chunk_byte_byte_m (k : Nat) (d : Unit × (((List Int) × Unit) × ((Int × Unit) × Unit))) : evCode E_slices_Chunk_byte_byte (tb (L_slices_Chunk_byte_byte k) (R_slices_Chunk_byte_byte k)) c_slices_Chunk_byte_byte (bodyOf Try.f66) 0 (finK E_slices_Chunk_byte_byte po_slices_Chunk_byte_byte [.tmp 4]) (startSt pi_slices_Chunk_byte_byte 9 d) = f_slices_Chunk_byte_byte_m () d := by kernel_rfl
def g_slices_Chunk_byte_byte (d : Unit × (((List Int) × Unit) × ((Int × Unit) × Unit))) : Option ((((List Int) × Unit) × ((Int × Unit) × Unit)) × (Unit × Unit)) := f_slices_Chunk_byte_byte_m () d
theorem ok_slices_Chunk_byte_byte : FnOk Try.prog ET0 66 pi_slices_Chunk_byte_byte po_slices_Chunk_byte_byte g_slices_Chunk_byte_byte :=
  fn_of_body (E := E_slices_Chunk_byte_byte) e0_ok (fn := Try.f66) Try.func66 (by kernel_rfl) (by kernel_rfl) [.tmp 4] (by kernel_rfl) (by kernel_rfl) (by decide) rfl c_slices_Chunk_byte_byte L_slices_Chunk_byte_byte R_slices_Chunk_byte_byte
    (by intro x hx; cases hx) (by intro k x hx; cases hx) (by intro x hx; cases hx) (by intro k x hx; cases hx) (fun d out h => ⟨0, (q_slices_Chunk_byte_byte_m 0 d).trans h⟩)

/- horologe/octets.word[uint32] -/
@[reducible] def pi_octets_word_u32 : PSh := ⟨[], [.mk false [.v (.sl (.int .u8))]]⟩
@[reducible] def po_octets_word_u32 : PSh := ⟨[], [.mk false [.v (.int .u32)]]⟩
@[reducible] def TT_octets_word_u32 : Type := (((Unit × ((Int × Unit) × (((List Int) × Unit) × ((Int × Unit) × ((Int × Unit) × Unit))))) → Option (Unit × ((Int × Unit) × Unit))) × Unit)
@[reducible] def sh_octets_word_u32_4 : PSh := ⟨[], [.any, .any, .any, .mk false [.v (.int .u64)], .any, .any, .mk false [.v (.sl (.int .u8))], .mk false [.v (.int .i64)], .mk false [.v (.int .i64)], .any, .any, .any, .any, .any, .any, .any, .any, .any, .any, .any]⟩
def f_octets_word_u32_p4 (T : TT_octets_word_u32) (d : Unit × ((Int × Unit) × (((List Int) × Unit) × ((Int × Unit) × ((Int × Unit) × Unit))))) : Option (Unit × ((Int × Unit) × Unit)) :=
  let x2 : Bool := (decide (d.2.2.2.2.1.1 < d.2.2.2.1.1))
  bif x2 then (
  bif decide ((0 : Int) ≤ d.2.2.2.2.1.1) && decide (d.2.2.2.2.1.1 < (d.2.2.1.1.length : Int)) then (
  let x3 : Int := (ishl .u64 d.2.1.1 (8 : Int))
  let x4 : Int := (iconv .u64 (gd (.int .u8) d.2.2.1.1 d.2.2.2.2.1.1))
  let x5 : Int := (ior .u64 x3 x4)
  let x6 : Int := (iadd .i64 d.2.2.2.2.1.1 (1 : Int))
  (T.1 ((), ((x5, ()), ((d.2.2.1.1, ()), ((d.2.2.2.1.1, ()), ((x6, ()), ())))))))
  else none)
  else (
  let x7 : Int := (iconv .u32 d.2.1.1)
  some ((), ((x7, ()), ())))
def f_octets_word_u32_t : Nat → TT_octets_word_u32
  | 0 => (fun _ => none, ())
  | k + 1 => (f_octets_word_u32_p4 (f_octets_word_u32_t k), ())
theorem t_octets_word_u32 (k : Nat) : f_octets_word_u32_t (k + 1) = (f_octets_word_u32_p4 (f_octets_word_u32_t k), ()) := rfl
def f_octets_word_u32_m (T : TT_octets_word_u32) (d : Unit × (((List Int) × Unit) × Unit)) : Option (Unit × ((Int × Unit) × Unit)) :=
  let x1 : Int := (d.2.1.1.length : Int)
  (T.1 ((), (((0 : Int), ()), ((d.2.1.1, ()), ((x1, ()), (((0 : Int), ()), ()))))))
def c_octets_word_u32 : List Nat := []
def L_octets_word_u32 (k : Nat) : Pts po_octets_word_u32.den := [(4, ⟨sh_octets_word_u32_4, (f_octets_word_u32_t k).1⟩)]
def R_octets_word_u32 (_ : Nat) : PtsR po_octets_word_u32.den := []
def E_octets_word_u32 : Env := E0
theorem q_octets_word_u32_4 (k : Nat) (d : Unit × ((Int × Unit) × (((List Int) × Unit) × ((Int × Unit) × ((Int × Unit) × Unit))))) : evAt E_octets_word_u32 (tb (L_octets_word_u32 k) (R_octets_word_u32 k)) c_octets_word_u32 4 (bodyOf Try.f67) 0 (finK E_octets_word_u32 po_octets_word_u32 [.tmp 2]) (ptSt sh_octets_word_u32_4 d) = f_octets_word_u32_p4 (f_octets_word_u32_t k) d := by kernel_rfl
theorem q_octets_word_u32_m (k : Nat) (d : Unit × (((List Int) × Unit) × Unit)) : evCode E_octets_word_u32 (tb (L_octets_word_u32 k) (R_octets_word_u32 k)) c_octets_word_u32 (bodyOf Try.f67) 0 (finK E_octets_word_u32 po_octets_word_u32 [.tmp 2]) (startSt pi_octets_word_u32 20 d) = f_octets_word_u32_m (f_octets_word_u32_t k) d := by kernel_rfl
theorem go_octets_word_u32 (F : Unit × (((List Int) × Unit) × Unit) → Option (Unit × ((Int × Unit) × Unit))) (hF : ∀ d out, F d = some out → ∃ k, f_octets_word_u32_m (f_octets_word_u32_t k) d = some out) : FnOk Try.prog ET0 67 pi_octets_word_u32 po_octets_word_u32 F :=
  fn_of_body (E := E_octets_word_u32) e0_ok (fn := Try.f67) Try.func67 (by kernel_rfl) (by kernel_rfl) [.tmp 2] (by kernel_rfl) (by kernel_rfl) (by decide) rfl c_octets_word_u32 L_octets_word_u32 R_octets_word_u32
    (by intro x hx d; simp only [L_octets_word_u32, List.mem_cons, List.not_mem_nil, or_false] at hx; subst hx; rfl)
    (by intro k x hx d out h; simp only [L_octets_word_u32, List.mem_cons, List.not_mem_nil, or_false] at hx; subst hx; exact (q_octets_word_u32_4 k d).trans h)
    (by intro x hx; cases hx)
    (by intro k x hx; cases hx)
    (by intro d out h; obtain ⟨k, hk⟩ := hF d out h; exact ⟨k, (q_octets_word_u32_m k d).trans hk⟩)
def g_octets_word_u32 (d : Unit × (((List Int) × Unit) × Unit)) : Option (Unit × ((Int × Unit) × Unit)) := lim fun k => f_octets_word_u32_m (f_octets_word_u32_t k) d
theorem ok_octets_word_u32 : FnOk Try.prog ET0 67 pi_octets_word_u32 po_octets_word_u32 g_octets_word_u32 := go_octets_word_u32 g_octets_word_u32 fun d out h => lim_some h

/- slices.Chunk[[]byte,byte]$1 -/
@[reducible] def TY_slices_Chunk_byte_byte_1 : Type := (((Unit × (((Option (List Int)) × Unit) × (((Option Int) × Unit) × ((Int × Unit) × Unit)))) → Option (List (List Int))) × Unit)
@[reducible] def sh_slices_Chunk_byte_byte_1_1 : PSh := ⟨[], [.any, .mk false [.v (.nptr (.sl (.int .u8)))], .mk false [.v (.nptr (.int .i64))], .any, .mk false [.v (.int .i64)], .any, .any, .any, .any, .any, .any, .any, .any, .any, .any, .any, .any, .any, .any, .any, .any, .any, .any, .any, .any, .any, .any, .any, .any, .any, .any]⟩
def f_slices_Chunk_byte_byte_1_p1 (T : TY_slices_Chunk_byte_byte_1) (d : Unit × (((Option (List Int)) × Unit) × (((Option Int) × Unit) × ((Int × Unit) × Unit)))) : Option (List (List Int)) :=
  d.2.1.1.bind fun x1 =>
  let x2 : Int := (x1.length : Int)
  let x3 : Bool := (decide (d.2.2.2.1.1 < x2))
  bif x3 then (
  d.2.2.1.1.bind fun x4 =>
  d.2.1.1.bind fun x5 =>
  bif decide ((0 : Int) ≤ d.2.2.2.1.1) && decide (d.2.2.2.1.1 ≤ (x5.length : Int)) && decide ((x5.length : Int) ≤ (x5.length : Int)) then (
  let x6 : (List Int) := (List.drop (Int.toNat d.2.2.2.1.1) (List.take (Int.toNat (x5.length : Int)) x5))
  let x7 : Int := (x6.length : Int)
  let x8 : Int := (if x7 < x4 then x7 else x4)
  d.2.1.1.bind fun x9 =>
  let x10 : Int := (iadd .i64 d.2.2.2.1.1 x8)
  let x11 : Int := (iadd .i64 d.2.2.2.1.1 x8)
  bif decide ((0 : Int) ≤ d.2.2.2.1.1) && decide (d.2.2.2.1.1 ≤ x10) && decide (x10 ≤ x11) && decide (x11 ≤ (x9.length : Int)) then (
  let x12 : (List Int) := (List.drop (Int.toNat d.2.2.2.1.1) (List.take (Int.toNat x10) x9))
  (some ([] : List (List Int))).bind fun (x13 : List (List Int)) =>
  bif x13.isEmpty then (
  (d.2.2.1.1.bind fun x15 =>
  let x16 : Int := (iadd .i64 d.2.2.2.1.1 x15)
  (T.1 ((), ((d.2.1.1, ()), ((d.2.2.1.1, ()), ((x16, ()), ())))))).bind fun (x14 : List (List Int)) =>
  some (x12 :: x14))
  else none)
  else none)
  else none)
  else (
  some ([] : List (List Int)))
def f_slices_Chunk_byte_byte_1_t : Nat → TY_slices_Chunk_byte_byte_1
  | 0 => (fun _ => none, ())
  | k + 1 => (f_slices_Chunk_byte_byte_1_p1 (f_slices_Chunk_byte_byte_1_t k), ())
theorem t_slices_Chunk_byte_byte_1 (k : Nat) : f_slices_Chunk_byte_byte_1_t (k + 1) = (f_slices_Chunk_byte_byte_1_p1 (f_slices_Chunk_byte_byte_1_t k), ()) := rfl
def f_slices_Chunk_byte_byte_1_m (T : TY_slices_Chunk_byte_byte_1) (d : ((List Int) × (Int × Unit))) : Option (List (List Int)) :=
  (T.1 ((), (((some d.1), ()), (((some d.2.1), ()), (((0 : Int), ()), ())))))
def L_slices_Chunk_byte_byte_1 (k : Nat) : Pts (List (List Int)) := [(1, ⟨sh_slices_Chunk_byte_byte_1_1, (f_slices_Chunk_byte_byte_1_t k).1⟩)]
def F_slices_Chunk_byte_byte_1 (d : ((List Int) × (Int × Unit))) : Option (List (List Int)) := lim fun k => f_slices_Chunk_byte_byte_1_m (f_slices_Chunk_byte_byte_1_t k) d
def sq_slices_Chunk_byte_byte_1 : SeqSem := ⟨[(33, (.sl (.int .u8))), (3, (.int .i64))], [false, false], (.sl (.int .u8)), F_slices_Chunk_byte_byte_1⟩
def E_slices_Chunk_byte_byte_1 : Env := E0
theorem q_slices_Chunk_byte_byte_1_1 (k : Nat) (d : Unit × (((Option (List Int)) × Unit) × (((Option Int) × Unit) × ((Int × Unit) × Unit)))) : evAtY E_slices_Chunk_byte_byte_1 (.sl (.int .u8)) (tabY (L_slices_Chunk_byte_byte_1 k)) 1 (bodyOf Try.f91) 0 finY (ptSt sh_slices_Chunk_byte_byte_1_1 d) = f_slices_Chunk_byte_byte_1_p1 (f_slices_Chunk_byte_byte_1_t k) d := by kernel_rfl
theorem q_slices_Chunk_byte_byte_1_m (k : Nat) (d : ((List Int) × (Int × Unit))) : evCodeY E_slices_Chunk_byte_byte_1 (.sl (.int .u8)) (tabY (L_slices_Chunk_byte_byte_1 k)) (bodyOf Try.f91) 0 finY (startY sq_slices_Chunk_byte_byte_1.ts sq_slices_Chunk_byte_byte_1.wr 31 d) = f_slices_Chunk_byte_byte_1_m (f_slices_Chunk_byte_byte_1_t k) d := by kernel_rfl
theorem okq_slices_Chunk_byte_byte_1 : SeqOk Try.prog ET0 91 sq_slices_Chunk_byte_byte_1 := by
  refine seq_of_body (E := E_slices_Chunk_byte_byte_1) e0_ok rfl rfl (fn := Try.f91) Try.func91 (by kernel_rfl) (by kernel_rfl) (by kernel_rfl) (by kernel_rfl) L_slices_Chunk_byte_byte_1 ?_ ?_ ?_ (by intro d l h; obtain ⟨k, hk⟩ := lim_some h; exact ⟨k, (q_slices_Chunk_byte_byte_1_m k d).trans hk⟩)
  · intro x hx d
    rcases List.mem_cons.1 hx with rfl | hx
    · rfl
    ·
      cases hx
  · intro k x hx
    rcases List.mem_cons.1 hx with rfl | hx
    · rfl
    ·
      cases hx
  · intro k x hx d out h
    rcases List.mem_cons.1 hx with rfl | hx
    · exact (q_slices_Chunk_byte_byte_1_1 k d).trans h
    ·
      cases hx

/- horologe/octets.List[uint32] -/
@[reducible] def pi_octets_List_u32 : PSh := ⟨[], [.mk false [.v (.sl (.int .u8))], .mk false [.v (.int .i64)], .mk false [.v (.int .i64)]]⟩
@[reducible] def po_octets_List_u32 : PSh := ⟨[.row 27 (.int .u32)], [.mk false [.osl 0], .mk false [.v .err]]⟩
@[reducible] def TT_octets_List_u32 : Type := ((List (List Int) → ((Unit × ((List Int) × Unit)) × (Unit × Unit)) → Option (((List Int) × Unit) × (Unit × (((Option Int) × Unit) × Unit)))) × Unit)
@[reducible] def sh_octets_List_u32_10 : PSh := ⟨[.var 48 [.osl 1], .row 27 (.int .u32)], [.any, .any, .any, .any, .any, .any, .any, .any, .any, .mk false [.ref 0 0], .any, .any, .any, .any, .any, .any, .any, .any, .any, .any, .any, .any, .any, .any, .any, .any, .any, .any, .any, .any, .any, .any, .any, .any, .any, .any, .any, .any, .any, .any, .any, .any, .any, .any, .any, .any, .any, .any, .any, .any, .any, .any, .any]⟩
def f_octets_List_u32_p10 (T : TT_octets_List_u32) (l : List (List Int)) (d : (Unit × ((List Int) × Unit)) × (Unit × Unit)) : Option (((List Int) × Unit) × (Unit × (((Option Int) × Unit) × Unit))) :=
  bif l.isEmpty then (
  some ((d.1.2.1, ()), ((), (((none : Option Int), ()), ()))))
  else (
  let x19 : (List Int) := (gd (.sl (.int .u8)) l (0 : Int))
  (g_octets_word_u32 ((), ((x19, ()), ()))).bind fun x20 =>
  let x21 : (List Int) := ([x20.2.1.1] : List Int)
  bif decide (((d.1.2.1.length + x21.length) * 4 : Nat) ≤ 140737488355328) && decide (d.1.2.1.length + x21.length ≤ 9223372036854775807) then (
  let x22 : (List Int) := (d.1.2.1 ++ x21)
  (T.1 (List.drop 1 l) (((), (x22, ())), ((), ()))))
  else none)
def f_octets_List_u32_t : Nat → TT_octets_List_u32
  | 0 => (fun _ _ => none, ())
  | k + 1 => (f_octets_List_u32_p10 (f_octets_List_u32_t k), ())
theorem t_octets_List_u32 (k : Nat) : f_octets_List_u32_t (k + 1) = (f_octets_List_u32_p10 (f_octets_List_u32_t k), ()) := rfl
def f_octets_List_u32_m (T : TT_octets_List_u32) (d : Unit × (((List Int) × Unit) × ((Int × Unit) × ((Int × Unit) × Unit)))) : Option (((List Int) × Unit) × (Unit × (((Option Int) × Unit) × Unit))) :=
  (g_octets_Size_u32 ((), ())).bind fun x1 =>
  let x2 : Bool := (decide (d.2.2.1.1 < (0 : Int)))
  bif x2 then (
  let x3 : (Option Int) := (some (1 : Int))
  some ((([] : List Int), ()), ((), ((x3, ()), ()))))
  else (
  let x4 : Int := (d.2.1.1.length : Int)
  let x5 : Bool := (decide (d.2.2.1.1 > x4))
  bif x5 then (
  let x6 : (Option Int) := (some (1 : Int))
  some ((([] : List Int), ()), ((), ((x6, ()), ()))))
  else (
  let x7 : Bool := (decide (d.2.2.2.1.1 < (0 : Int)))
  bif x7 then (
  let x8 : (Option Int) := (some (1 : Int))
  some ((([] : List Int), ()), ((), ((x8, ()), ()))))
  else (
  let x9 : Int := (d.2.1.1.length : Int)
  let x10 : Int := (isub .i64 x9 d.2.2.1.1)
  bif (x1.2.1.1 == 0) then (
  none)
  else (
  let x11 : Int := (iquo .i64 x10 x1.2.1.1)
  let x12 : Bool := (decide (d.2.2.2.1.1 > x11))
  bif x12 then (
  let x13 : (Option Int) := (some (4 : Int))
  some ((([] : List Int), ()), ((), ((x13, ()), ()))))
  else (
  let x14 : Int := (imul .i64 d.2.2.2.1.1 x1.2.1.1)
  let x15 : Int := (iadd .i64 d.2.2.1.1 x14)
  bif decide ((0 : Int) ≤ d.2.2.1.1) && decide (d.2.2.1.1 ≤ x15) && decide (x15 ≤ (d.2.1.1.length : Int)) then (
  let x16 : (List Int) := (List.drop (Int.toNat d.2.2.1.1) (List.take (Int.toNat x15) d.2.1.1))
  (g_slices_Chunk_byte_byte ((), ((x16, ()), ((x1.2.1.1, ()), ())))).bind fun x17 =>
  (F_slices_Chunk_byte_byte_1 (x17.1.1.1, (x17.1.2.1.1, ()))).bind fun x18 =>
  (T.1 x18 (((), (([] : List Int), ())), ((), ()))))
  else none)))))
def c_octets_List_u32 : List Nat := []
def L_octets_List_u32 (_ : Nat) : Pts po_octets_List_u32.den := []
def R_octets_List_u32 (k : Nat) : PtsR po_octets_List_u32.den := [(10, ⟨(sh_octets_List_u32_10, (.sl (.int .u8))), (f_octets_List_u32_t k).1⟩)]
def E_octets_List_u32 : Env := ((((E0.add 60 (typedSem pi_octets_Size_u32 po_octets_Size_u32 g_octets_Size_u32)).add 66 (typedSem pi_slices_Chunk_byte_byte po_slices_Chunk_byte_byte g_slices_Chunk_byte_byte)).add 67 (typedSem pi_octets_word_u32 po_octets_word_u32 g_octets_word_u32)).sq 91 sq_slices_Chunk_byte_byte_1)
theorem q_octets_List_u32_10 (k : Nat) (l : List (List Int)) (d : (Unit × ((List Int) × Unit)) × (Unit × Unit)) : evAtR E_octets_List_u32 (tb (L_octets_List_u32 k) (R_octets_List_u32 k)) c_octets_List_u32 10 (bodyOf Try.f25) 0 (finK E_octets_List_u32 po_octets_List_u32 [.tmp 6, .tmp 7]) (.sl (.int .u8)) l (ptSt sh_octets_List_u32_10 d) = f_octets_List_u32_p10 (f_octets_List_u32_t k) l d := by kernel_rfl
theorem q_octets_List_u32_m (k : Nat) (d : Unit × (((List Int) × Unit) × ((Int × Unit) × ((Int × Unit) × Unit)))) : evCode E_octets_List_u32 (tb (L_octets_List_u32 k) (R_octets_List_u32 k)) c_octets_List_u32 (bodyOf Try.f25) 0 (finK E_octets_List_u32 po_octets_List_u32 [.tmp 6, .tmp 7]) (startSt pi_octets_List_u32 53 d) = f_octets_List_u32_m (f_octets_List_u32_t k) d := by kernel_rfl
theorem go_octets_List_u32 (F : Unit × (((List Int) × Unit) × ((Int × Unit) × ((Int × Unit) × Unit))) → Option (((List Int) × Unit) × (Unit × (((Option Int) × Unit) × Unit)))) (hF : ∀ d out, F d = some out → ∃ k, f_octets_List_u32_m (f_octets_List_u32_t k) d = some out) : FnOk Try.prog ET0 25 pi_octets_List_u32 po_octets_List_u32 F :=
  fn_of_body (E := E_octets_List_u32) (envOk_sq (envOk_add (envOk_add (envOk_add e0_ok (typed_ok ok_octets_Size_u32)) (typed_ok ok_slices_Chunk_byte_byte)) (typed_ok ok_octets_word_u32)) okq_slices_Chunk_byte_byte_1) (fn := Try.f25) Try.func25 (by kernel_rfl) (by kernel_rfl) [.tmp 6, .tmp 7] (by kernel_rfl) (by kernel_rfl) (by decide) rfl c_octets_List_u32 L_octets_List_u32 R_octets_List_u32
    (by intro x hx; cases hx)
    (by intro k x hx; cases hx)
    (by intro x hx l d; simp only [R_octets_List_u32, List.mem_cons, List.not_mem_nil, or_false] at hx; subst hx; rfl)
    (by intro k x hx l d out h; simp only [R_octets_List_u32, List.mem_cons, List.not_mem_nil, or_false] at hx; subst hx; exact (q_octets_List_u32_10 k l d).trans h)
    (by intro d out h; obtain ⟨k, hk⟩ := hF d out h; exact ⟨k, (q_octets_List_u32_m k d).trans hk⟩)
def g_octets_List_u32 (d : Unit × (((List Int) × Unit) × ((Int × Unit) × ((Int × Unit) × Unit)))) : Option (((List Int) × Unit) × (Unit × (((Option Int) × Unit) × Unit))) := lim fun k => f_octets_List_u32_m (f_octets_List_u32_t k) d
theorem ok_octets_List_u32 : FnOk Try.prog ET0 25 pi_octets_List_u32 po_octets_List_u32 g_octets_List_u32 := go_octets_List_u32 g_octets_List_u32 fun d out h => lim_some h

/- horologe/stamp.two[uint32] -/
@[reducible] def pi_stamp_two_u32 : PSh := ⟨[], [.mk false [.v (.sl (.int .u8))]]⟩
@[reducible] def po_stamp_two_u32 : PSh := ⟨[], [.mk false [.v (.int .u32)], .mk false [.v (.int .u32)], .mk false [.v .err]]⟩
def f_stamp_two_u32_m (T : Unit) (d : Unit × (((List Int) × Unit) × Unit)) : Option (Unit × ((Int × Unit) × ((Int × Unit) × (((Option Int) × Unit) × Unit)))) :=
  (g_octets_List_u32 ((), ((d.2.1.1, ()), (((0 : Int), ()), (((2 : Int), ()), ()))))).bind fun x1 =>
  let x2 : Bool := (!x1.2.2.1.1.isNone)
  bif x2 then (
  let x3 : (Option Int) := (some (2 : Int))
  some ((), (((0 : Int), ()), (((0 : Int), ()), ((x3, ()), ())))))
  else (
  let x4 : Int := (d.2.1.1.length : Int)
  (g_octets_Size_u32 ((), ())).bind fun x5 =>
  let x6 : Int := (imul .i64 (2 : Int) x5.2.1.1)
  let x7 : Bool := (x4 != x6)
  bif x7 then (
  let x8 : (Option Int) := (some (2 : Int))
  some ((), (((0 : Int), ()), (((0 : Int), ()), ((x8, ()), ())))))
  else (
  bif decide ((0 : Int) ≤ (0 : Int)) && decide ((0 : Int) < (x1.1.1.length : Int)) then (
  bif decide ((0 : Int) ≤ (1 : Int)) && decide ((1 : Int) < (x1.1.1.length : Int)) then (
  some ((), (((gd (.int .u32) x1.1.1 (0 : Int)), ()), (((gd (.int .u32) x1.1.1 (1 : Int)), ()), (((none : Option Int), ()), ())))))
  else none)
  else none))
def c_stamp_two_u32 : List Nat := []
def L_stamp_two_u32 (_ : Nat) : Pts po_stamp_two_u32.den := []
def R_stamp_two_u32 (_ : Nat) : PtsR po_stamp_two_u32.den := []
def E_stamp_two_u32 : Env := ((E0.add 25 (typedSem pi_octets_List_u32 po_octets_List_u32 g_octets_List_u32)).add 60 (typedSem pi_octets_Size_u32 po_octets_Size_u32 g_octets_Size_u32))
theorem q_stamp_two_u32_m (k : Nat) (d : Unit × (((List Int) × Unit) × Unit)) : evCode E_stamp_two_u32 (tb (L_stamp_two_u32 k) (R_stamp_two_u32 k)) c_stamp_two_u32 (bodyOf Try.f83) 0 (finK E_stamp_two_u32 po_stamp_two_u32 [.tmp 2, .tmp 3, .tmp 4]) (startSt pi_stamp_two_u32 28 d) = f_stamp_two_u32_m () d := by kernel_rfl
def g_stamp_two_u32 (d : Unit × (((List Int) × Unit) × Unit)) : Option (Unit × ((Int × Unit) × ((Int × Unit) × (((Option Int) × Unit) × Unit)))) := f_stamp_two_u32_m () d
theorem ok_stamp_two_u32 : FnOk Try.prog ET0 83 pi_stamp_two_u32 po_stamp_two_u32 g_stamp_two_u32 :=
  fn_of_body (E := E_stamp_two_u32) (envOk_add (envOk_add e0_ok (typed_ok ok_octets_List_u32)) (typed_ok ok_octets_Size_u32)) (fn := Try.f83) Try.func83 (by kernel_rfl) (by kernel_rfl) [.tmp 2, .tmp 3, .tmp 4] (by kernel_rfl) (by kernel_rfl) (by decide) rfl c_stamp_two_u32 L_stamp_two_u32 R_stamp_two_u32
    (by intro x hx; cases hx) (by intro k x hx; cases hx) (by intro x hx; cases hx) (by intro k x hx; cases hx) (fun d out h => ⟨0, (q_stamp_two_u32_m 0 d).trans h⟩)

/- horologe/stamp.Parse -/
@[reducible] def pi_stamp_Parse : PSh := ⟨[], [.mk false [.v (.sl (.int .u8))]]⟩
@[reducible] def po_stamp_Parse : PSh := ⟨[], [.mk true [.v (.int .u32), .v (.int .u32)], .mk false [.v .err]]⟩
def f_stamp_Parse_m (T : Unit) (d : Unit × (((List Int) × Unit) × Unit)) : Option (Unit × ((Int × (Int × Unit)) × (((Option Int) × Unit) × Unit))) :=
  (g_stamp_two_u32 ((), ((d.2.1.1, ()), ()))).bind fun x1 =>
  some ((), ((x1.2.1.1, (x1.2.2.1.1, ())), ((x1.2.2.2.1.1, ()), ())))
def c_stamp_Parse : List Nat := []
def L_stamp_Parse (_ : Nat) : Pts po_stamp_Parse.den := []
def R_stamp_Parse (_ : Nat) : PtsR po_stamp_Parse.den := []
def E_stamp_Parse : Env := (E0.add 83 (typedSem pi_stamp_two_u32 po_stamp_two_u32 g_stamp_two_u32))
theorem q_stamp_Parse_m (k : Nat) (d : Unit × (((List Int) × Unit) × Unit)) : evCode E_stamp_Parse (tb (L_stamp_Parse k) (R_stamp_Parse k)) c_stamp_Parse (bodyOf Try.f39) 0 (finK E_stamp_Parse po_stamp_Parse [.cell 2 29, .tmp 3]) (startSt pi_stamp_Parse 17 d) = f_stamp_Parse_m () d := by kernel_rfl
def g_stamp_Parse (d : Unit × (((List Int) × Unit) × Unit)) : Option (Unit × ((Int × (Int × Unit)) × (((Option Int) × Unit) × Unit))) := f_stamp_Parse_m () d
theorem ok_stamp_Parse : FnOk Try.prog ET0 39 pi_stamp_Parse po_stamp_Parse g_stamp_Parse :=
  fn_of_body (E := E_stamp_Parse) (envOk_add e0_ok (typed_ok ok_stamp_two_u32)) (fn := Try.f39) Try.func39 (by kernel_rfl) (by kernel_rfl) [.cell 2 29, .tmp 3] (by kernel_rfl) (by kernel_rfl) (by decide) rfl c_stamp_Parse L_stamp_Parse R_stamp_Parse
    (by intro x hx; cases hx) (by intro k x hx; cases hx) (by intro x hx; cases hx) (by intro k x hx; cases hx) (fun d out h => ⟨0, (q_stamp_Parse_m 0 d).trans h⟩)

/- horologe/octets.word[uint16] -/
@[reducible] def pi_octets_word_u16 : PSh := ⟨[], [.mk false [.v (.sl (.int .u8))]]⟩
@[reducible] def po_octets_word_u16 : PSh := ⟨[], [.mk false [.v (.int .u16)]]⟩
@[reducible] def TT_octets_word_u16 : Type := (((Unit × ((Int × Unit) × (((List Int) × Unit) × ((Int × Unit) × ((Int × Unit) × Unit))))) → Option (Unit × ((Int × Unit) × Unit))) × Unit)
@[reducible] def sh_octets_word_u16_4 : PSh := ⟨[], [.any, .any, .any, .mk false [.v (.int .u64)], .any, .any, .mk false [.v (.sl (.int .u8))], .mk false [.v (.int .i64)], .mk false [.v (.int .i64)], .any, .any, .any, .any, .any, .any, .any, .any, .any, .any, .any]⟩
def f_octets_word_u16_p4 (T : TT_octets_word_u16) (d : Unit × ((Int × Unit) × (((List Int) × Unit) × ((Int × Unit) × ((Int × Unit) × Unit))))) : Option (Unit × ((Int × Unit) × Unit)) :=
  let x2 : Bool := (decide (d.2.2.2.2.1.1 < d.2.2.2.1.1))
  bif x2 then (
  bif decide ((0 : Int) ≤ d.2.2.2.2.1.1) && decide (d.2.2.2.2.1.1 < (d.2.2.1.1.length : Int)) then (
  let x3 : Int := (ishl .u64 d.2.1.1 (8 : Int))
  let x4 : Int := (iconv .u64 (gd (.int .u8) d.2.2.1.1 d.2.2.2.2.1.1))
  let x5 : Int := (ior .u64 x3 x4)
  let x6 : Int := (iadd .i64 d.2.2.2.2.1.1 (1 : Int))
  (T.1 ((), ((x5, ()), ((d.2.2.1.1, ()), ((d.2.2.2.1.1, ()), ((x6, ()), ())))))))
  else none)
  else (
  let x7 : Int := (iconv .u16 d.2.1.1)
  some ((), ((x7, ()), ())))
def f_octets_word_u16_t : Nat → TT_octets_word_u16
  | 0 => (fun _ => none, ())
  | k + 1 => (f_octets_word_u16_p4 (f_octets_word_u16_t k), ())
theorem t_octets_word_u16 (k : Nat) : f_octets_word_u16_t (k + 1) = (f_octets_word_u16_p4 (f_octets_word_u16_t k), ()) := rfl
def f_octets_word_u16_m (T : TT_octets_word_u16) (d : Unit × (((List Int) × Unit) × Unit)) : Option (Unit × ((Int × Unit) × Unit)) :=
  let x1 : Int := (d.2.1.1.length : Int)
  (T.1 ((), (((0 : Int), ()), ((d.2.1.1, ()), ((x1, ()), (((0 : Int), ()), ()))))))
def c_octets_word_u16 : List Nat := []
def L_octets_word_u16 (k : Nat) : Pts po_octets_word_u16.den := [(4, ⟨sh_octets_word_u16_4, (f_octets_word_u16_t k).1⟩)]
def R_octets_word_u16 (_ : Nat) : PtsR po_octets_word_u16.den := []
def E_octets_word_u16 : Env := E0
theorem q_octets_word_u16_4 (k : Nat) (d : Unit × ((Int × Unit) × (((List Int) × Unit) × ((Int × Unit) × ((Int × Unit) × Unit))))) : evAt E_octets_word_u16 (tb (L_octets_word_u16 k) (R_octets_word_u16 k)) c_octets_word_u16 4 (bodyOf Try.f65) 0 (finK E_octets_word_u16 po_octets_word_u16 [.tmp 2]) (ptSt sh_octets_word_u16_4 d) = f_octets_word_u16_p4 (f_octets_word_u16_t k) d := by kernel_rfl
theorem q_octets_word_u16_m (k : Nat) (d : Unit × (((List Int) × Unit) × Unit)) : evCode E_octets_word_u16 (tb (L_octets_word_u16 k) (R_octets_word_u16 k)) c_octets_word_u16 (bodyOf Try.f65) 0 (finK E_octets_word_u16 po_octets_word_u16 [.tmp 2]) (startSt pi_octets_word_u16 20 d) = f_octets_word_u16_m (f_octets_word_u16_t k) d := by kernel_rfl
theorem go_octets_word_u16 (F : Unit × (((List Int) × Unit) × Unit) → Option (Unit × ((Int × Unit) × Unit))) (hF : ∀ d out, F d = some out → ∃ k, f_octets_word_u16_m (f_octets_word_u16_t k) d = some out) : FnOk Try.prog ET0 65 pi_octets_word_u16 po_octets_word_u16 F :=
  fn_of_body (E := E_octets_word_u16) e0_ok (fn := Try.f65) Try.func65 (by kernel_rfl) (by kernel_rfl) [.tmp 2] (by kernel_rfl) (by kernel_rfl) (by decide) rfl c_octets_word_u16 L_octets_word_u16 R_octets_word_u16
    (by intro x hx d; simp only [L_octets_word_u16, List.mem_cons, List.not_mem_nil, or_false] at hx; subst hx; rfl)
    (by intro k x hx d out h; simp only [L_octets_word_u16, List.mem_cons, List.not_mem_nil, or_false] at hx; subst hx; exact (q_octets_word_u16_4 k d).trans h)
    (by intro x hx; cases hx)
    (by intro k x hx; cases hx)
    (by intro d out h; obtain ⟨k, hk⟩ := hF d out h; exact ⟨k, (q_octets_word_u16_m k d).trans hk⟩)
def g_octets_word_u16 (d : Unit × (((List Int) × Unit) × Unit)) : Option (Unit × ((Int × Unit) × Unit)) := lim fun k => f_octets_word_u16_m (f_octets_word_u16_t k) d
theorem ok_octets_word_u16 : FnOk Try.prog ET0 65 pi_octets_word_u16 po_octets_word_u16 g_octets_word_u16 := go_octets_word_u16 g_octets_word_u16 fun d out h => lim_some h

/- horologe/octets.List[uint16] -/
@[reducible] def pi_octets_List_u16 : PSh := ⟨[], [.mk false [.v (.sl (.int .u8))], .mk false [.v (.int .i64)], .mk false [.v (.int .i64)]]⟩
@[reducible] def po_octets_List_u16 : PSh := ⟨[.row 23 (.int .u16)], [.mk false [.osl 0], .mk false [.v .err]]⟩
@[reducible] def TT_octets_List_u16 : Type := ((List (List Int) → ((Unit × ((List Int) × Unit)) × (Unit × Unit)) → Option (((List Int) × Unit) × (Unit × (((Option Int) × Unit) × Unit)))) × Unit)
@[reducible] def sh_octets_List_u16_10 : PSh := ⟨[.var 114 [.osl 1], .row 23 (.int .u16)], [.any, .any, .any, .any, .any, .any, .any, .any, .any, .mk false [.ref 0 0], .any, .any, .any, .any, .any, .any, .any, .any, .any, .any, .any, .any, .any, .any, .any, .any, .any, .any, .any, .any, .any, .any, .any, .any, .any, .any, .any, .any, .any, .any, .any, .any, .any, .any, .any, .any, .any, .any, .any, .any, .any, .any, .any]⟩
def f_octets_List_u16_p10 (T : TT_octets_List_u16) (l : List (List Int)) (d : (Unit × ((List Int) × Unit)) × (Unit × Unit)) : Option (((List Int) × Unit) × (Unit × (((Option Int) × Unit) × Unit))) :=
  bif l.isEmpty then (
  some ((d.1.2.1, ()), ((), (((none : Option Int), ()), ()))))
  else (
  let x19 : (List Int) := (gd (.sl (.int .u8)) l (0 : Int))
  (g_octets_word_u16 ((), ((x19, ()), ()))).bind fun x20 =>
  let x21 : (List Int) := ([x20.2.1.1] : List Int)
  bif decide (((d.1.2.1.length + x21.length) * 2 : Nat) ≤ 140737488355328) && decide (d.1.2.1.length + x21.length ≤ 9223372036854775807) then (
  let x22 : (List Int) := (d.1.2.1 ++ x21)
  (T.1 (List.drop 1 l) (((), (x22, ())), ((), ()))))
  else none)
def f_octets_List_u16_t : Nat → TT_octets_List_u16
  | 0 => (fun _ _ => none, ())
  | k + 1 => (f_octets_List_u16_p10 (f_octets_List_u16_t k), ())
theorem t_octets_List_u16 (k : Nat) : f_octets_List_u16_t (k + 1) = (f_octets_List_u16_p10 (f_octets_List_u16_t k), ()) := rfl
def f_octets_List_u16_m (T : TT_octets_List_u16) (d : Unit × (((List Int) × Unit) × ((Int × Unit) × ((Int × Unit) × Unit)))) : Option (((List Int) × Unit) × (Unit × (((Option Int) × Unit) × Unit))) :=
  (g_octets_Size_u16 ((), ())).bind fun x1 =>
  let x2 : Bool := (decide (d.2.2.1.1 < (0 : Int)))
  bif x2 then (
  let x3 : (Option Int) := (some (1 : Int))
  some ((([] : List Int), ()), ((), ((x3, ()), ()))))
  else (
  let x4 : Int := (d.2.1.1.length : Int)
  let x5 : Bool := (decide (d.2.2.1.1 > x4))
  bif x5 then (
  let x6 : (Option Int) := (some (1 : Int))
  some ((([] : List Int), ()), ((), ((x6, ()), ()))))
  else (
  let x7 : Bool := (decide (d.2.2.2.1.1 < (0 : Int)))
  bif x7 then (
  let x8 : (Option Int) := (some (1 : Int))
  some ((([] : List Int), ()), ((), ((x8, ()), ()))))
  else (
  let x9 : Int := (d.2.1.1.length : Int)
  let x10 : Int := (isub .i64 x9 d.2.2.1.1)
  bif (x1.2.1.1 == 0) then (
  none)
  else (
  let x11 : Int := (iquo .i64 x10 x1.2.1.1)
  let x12 : Bool := (decide (d.2.2.2.1.1 > x11))
  bif x12 then (
  let x13 : (Option Int) := (some (4 : Int))
  some ((([] : List Int), ()), ((), ((x13, ()), ()))))
  else (
  let x14 : Int := (imul .i64 d.2.2.2.1.1 x1.2.1.1)
  let x15 : Int := (iadd .i64 d.2.2.1.1 x14)
  bif decide ((0 : Int) ≤ d.2.2.1.1) && decide (d.2.2.1.1 ≤ x15) && decide (x15 ≤ (d.2.1.1.length : Int)) then (
  let x16 : (List Int) := (List.drop (Int.toNat d.2.2.1.1) (List.take (Int.toNat x15) d.2.1.1))
  (g_slices_Chunk_byte_byte ((), ((x16, ()), ((x1.2.1.1, ()), ())))).bind fun x17 =>
  (F_slices_Chunk_byte_byte_1 (x17.1.1.1, (x17.1.2.1.1, ()))).bind fun x18 =>
  (T.1 x18 (((), (([] : List Int), ())), ((), ()))))
  else none)))))
def c_octets_List_u16 : List Nat := []
def L_octets_List_u16 (_ : Nat) : Pts po_octets_List_u16.den := []
def R_octets_List_u16 (k : Nat) : PtsR po_octets_List_u16.den := [(10, ⟨(sh_octets_List_u16_10, (.sl (.int .u8))), (f_octets_List_u16_t k).1⟩)]
def E_octets_List_u16 : Env := ((((E0.add 62 (typedSem pi_octets_Size_u16 po_octets_Size_u16 g_octets_Size_u16)).add 65 (typedSem pi_octets_word_u16 po_octets_word_u16 g_octets_word_u16)).add 66 (typedSem pi_slices_Chunk_byte_byte po_slices_Chunk_byte_byte g_slices_Chunk_byte_byte)).sq 91 sq_slices_Chunk_byte_byte_1)
theorem q_octets_List_u16_10 (k : Nat) (l : List (List Int)) (d : (Unit × ((List Int) × Unit)) × (Unit × Unit)) : evAtR E_octets_List_u16 (tb (L_octets_List_u16 k) (R_octets_List_u16 k)) c_octets_List_u16 10 (bodyOf Try.f95) 0 (finK E_octets_List_u16 po_octets_List_u16 [.tmp 6, .tmp 7]) (.sl (.int .u8)) l (ptSt sh_octets_List_u16_10 d) = f_octets_List_u16_p10 (f_octets_List_u16_t k) l d := by kernel_rfl
theorem q_octets_List_u16_m (k : Nat) (d : Unit × (((List Int) × Unit) × ((Int × Unit) × ((Int × Unit) × Unit)))) : evCode E_octets_List_u16 (tb (L_octets_List_u16 k) (R_octets_List_u16 k)) c_octets_List_u16 (bodyOf Try.f95) 0 (finK E_octets_List_u16 po_octets_List_u16 [.tmp 6, .tmp 7]) (startSt pi_octets_List_u16 53 d) = f_octets_List_u16_m (f_octets_List_u16_t k) d := by kernel_rfl
theorem go_octets_List_u16 (F : Unit × (((List Int) × Unit) × ((Int × Unit) × ((Int × Unit) × Unit))) → Option (((List Int) × Unit) × (Unit × (((Option Int) × Unit) × Unit)))) (hF : ∀ d out, F d = some out → ∃ k, f_octets_List_u16_m (f_octets_List_u16_t k) d = some out) : FnOk Try.prog ET0 95 pi_octets_List_u16 po_octets_List_u16 F :=
  fn_of_body (E := E_octets_List_u16) (envOk_sq (envOk_add (envOk_add (envOk_add e0_ok (typed_ok ok_octets_Size_u16)) (typed_ok ok_octets_word_u16)) (typed_ok ok_slices_Chunk_byte_byte)) okq_slices_Chunk_byte_byte_1) (fn := Try.f95) Try.func95 (by kernel_rfl) (by kernel_rfl) [.tmp 6, .tmp 7] (by kernel_rfl) (by kernel_rfl) (by decide) rfl c_octets_List_u16 L_octets_List_u16 R_octets_List_u16
    (by intro x hx; cases hx)
    (by intro k x hx; cases hx)
    (by intro x hx l d; simp only [R_octets_List_u16, List.mem_cons, List.not_mem_nil, or_false] at hx; subst hx; rfl)
    (by intro k x hx l d out h; simp only [R_octets_List_u16, List.mem_cons, List.not_mem_nil, or_false] at hx; subst hx; exact (q_octets_List_u16_10 k l d).trans h)
    (by intro d out h; obtain ⟨k, hk⟩ := hF d out h; exact ⟨k, (q_octets_List_u16_m k d).trans hk⟩)
def g_octets_List_u16 (d : Unit × (((List Int) × Unit) × ((Int × Unit) × ((Int × Unit) × Unit)))) : Option (((List Int) × Unit) × (Unit × (((Option Int) × Unit) × Unit))) := lim fun k => f_octets_List_u16_m (f_octets_List_u16_t k) d
theorem ok_octets_List_u16 : FnOk Try.prog ET0 95 pi_octets_List_u16 po_octets_List_u16 g_octets_List_u16 := go_octets_List_u16 g_octets_List_u16 fun d out h => lim_some h

/- horologe/stamp.two[uint16] -/
@[reducible] def pi_stamp_two_u16 : PSh := ⟨[], [.mk false [.v (.sl (.int .u8))]]⟩
@[reducible] def po_stamp_two_u16 : PSh := ⟨[], [.mk false [.v (.int .u16)], .mk false [.v (.int .u16)], .mk false [.v .err]]⟩
def f_stamp_two_u16_m (T : Unit) (d : Unit × (((List Int) × Unit) × Unit)) : Option (Unit × ((Int × Unit) × ((Int × Unit) × (((Option Int) × Unit) × Unit)))) :=
  (g_octets_List_u16 ((), ((d.2.1.1, ()), (((0 : Int), ()), (((2 : Int), ()), ()))))).bind fun x1 =>
  let x2 : Bool := (!x1.2.2.1.1.isNone)
  bif x2 then (
  let x3 : (Option Int) := (some (2 : Int))
  some ((), (((0 : Int), ()), (((0 : Int), ()), ((x3, ()), ())))))
  else (
  let x4 : Int := (d.2.1.1.length : Int)
  (g_octets_Size_u16 ((), ())).bind fun x5 =>
  let x6 : Int := (imul .i64 (2 : Int) x5.2.1.1)
  let x7 : Bool := (x4 != x6)
  bif x7 then (
  let x8 : (Option Int) := (some (2 : Int))
  some ((), (((0 : Int), ()), (((0 : Int), ()), ((x8, ()), ())))))
  else (
  bif decide ((0 : Int) ≤ (0 : Int)) && decide ((0 : Int) < (x1.1.1.length : Int)) then (
  bif decide ((0 : Int) ≤ (1 : Int)) && decide ((1 : Int) < (x1.1.1.length : Int)) then (
  some ((), (((gd (.int .u16) x1.1.1 (0 : Int)), ()), (((gd (.int .u16) x1.1.1 (1 : Int)), ()), (((none : Option Int), ()), ())))))
  else none)
  else none))
def c_stamp_two_u16 : List Nat := []
def L_stamp_two_u16 (_ : Nat) : Pts po_stamp_two_u16.den := []
def R_stamp_two_u16 (_ : Nat) : PtsR po_stamp_two_u16.den := []
def E_stamp_two_u16 : Env := ((E0.add 62 (typedSem pi_octets_Size_u16 po_octets_Size_u16 g_octets_Size_u16)).add 95 (typedSem pi_octets_List_u16 po_octets_List_u16 g_octets_List_u16))
theorem q_stamp_two_u16_m (k : Nat) (d : Unit × (((List Int) × Unit) × Unit)) : evCode E_stamp_two_u16 (tb (L_stamp_two_u16 k) (R_stamp_two_u16 k)) c_stamp_two_u16 (bodyOf Try.f84) 0 (finK E_stamp_two_u16 po_stamp_two_u16 [.tmp 2, .tmp 3, .tmp 4]) (startSt pi_stamp_two_u16 28 d) = f_stamp_two_u16_m () d := by kernel_rfl
def g_stamp_two_u16 (d : Unit × (((List Int) × Unit) × Unit)) : Option (Unit × ((Int × Unit) × ((Int × Unit) × (((Option Int) × Unit) × Unit)))) := f_stamp_two_u16_m () d
theorem ok_stamp_two_u16 : FnOk Try.prog ET0 84 pi_stamp_two_u16 po_stamp_two_u16 g_stamp_two_u16 :=
  fn_of_body (E := E_stamp_two_u16) (envOk_add (envOk_add e0_ok (typed_ok ok_octets_Size_u16)) (typed_ok ok_octets_List_u16)) (fn := Try.f84) Try.func84 (by kernel_rfl) (by kernel_rfl) [.tmp 2, .tmp 3, .tmp 4] (by kernel_rfl) (by kernel_rfl) (by decide) rfl c_stamp_two_u16 L_stamp_two_u16 R_stamp_two_u16
    (by intro x hx; cases hx) (by intro k x hx; cases hx) (by intro x hx; cases hx) (by intro k x hx; cases hx) (fun d out h => ⟨0, (q_stamp_two_u16_m 0 d).trans h⟩)

/- horologe/stamp.ParseShort -/
@[reducible] def pi_stamp_ParseShort : PSh := ⟨[], [.mk false [.v (.sl (.int .u8))]]⟩
@[reducible] def po_stamp_ParseShort : PSh := ⟨[], [.mk true [.v (.int .u16), .v (.int .u16)], .mk false [.v .err]]⟩
def f_stamp_ParseShort_m (T : Unit) (d : Unit × (((List Int) × Unit) × Unit)) : Option (Unit × ((Int × (Int × Unit)) × (((Option Int) × Unit) × Unit))) :=
  (g_stamp_two_u16 ((), ((d.2.1.1, ()), ()))).bind fun x1 =>
  some ((), ((x1.2.1.1, (x1.2.2.1.1, ())), ((x1.2.2.2.1.1, ()), ())))
def c_stamp_ParseShort : List Nat := []
def L_stamp_ParseShort (_ : Nat) : Pts po_stamp_ParseShort.den := []
def R_stamp_ParseShort (_ : Nat) : PtsR po_stamp_ParseShort.den := []
def E_stamp_ParseShort : Env := (E0.add 84 (typedSem pi_stamp_two_u16 po_stamp_two_u16 g_stamp_two_u16))
theorem q_stamp_ParseShort_m (k : Nat) (d : Unit × (((List Int) × Unit) × Unit)) : evCode E_stamp_ParseShort (tb (L_stamp_ParseShort k) (R_stamp_ParseShort k)) c_stamp_ParseShort (bodyOf Try.f40) 0 (finK E_stamp_ParseShort po_stamp_ParseShort [.cell 2 25, .tmp 3]) (startSt pi_stamp_ParseShort 17 d) = f_stamp_ParseShort_m () d := by kernel_rfl
def g_stamp_ParseShort (d : Unit × (((List Int) × Unit) × Unit)) : Option (Unit × ((Int × (Int × Unit)) × (((Option Int) × Unit) × Unit))) := f_stamp_ParseShort_m () d
theorem ok_stamp_ParseShort : FnOk Try.prog ET0 40 pi_stamp_ParseShort po_stamp_ParseShort g_stamp_ParseShort :=
  fn_of_body (E := E_stamp_ParseShort) (envOk_add e0_ok (typed_ok ok_stamp_two_u16)) (fn := Try.f40) Try.func40 (by kernel_rfl) (by kernel_rfl) [.cell 2 25, .tmp 3] (by kernel_rfl) (by kernel_rfl) (by decide) rfl c_stamp_ParseShort L_stamp_ParseShort R_stamp_ParseShort
    (by intro x hx; cases hx) (by intro k x hx; cases hx) (by intro x hx; cases hx) (by intro k x hx; cases hx) (fun d out h => ⟨0, (q_stamp_ParseShort_m 0 d).trans h⟩)

/- (*horologe/head.Head).longs -/
@[reducible] def pi_head_Head_longs_io : PSh := ⟨[.var 31 [.v (.int .i64), .v (.int .i64), .v (.int .i64), .v (.int .u8), .v (.int .i8), .v (.int .i8), .v (.int .u16), .v (.int .u16), .v (.int .u16), .v (.int .u16), .v (.int .u8), .v (.int .u8), .v (.int .u8), .v (.int .u8), .v (.int .u32), .v (.int .u32), .v (.int .u32), .v (.int .u32), .v (.int .u32), .v (.int .u32), .v (.int .u32), .v (.int .u32)]], [.mk false [.ref 0 0]]⟩
@[reducible] def po_head_Head_longs_io : PSh := ⟨[.var 31 [.v (.int .i64), .v (.int .i64), .v (.int .i64), .v (.int .u8), .v (.int .i8), .v (.int .i8), .v (.int .u16), .v (.int .u16), .v (.int .u16), .v (.int .u16), .v (.int .u8), .v (.int .u8), .v (.int .u8), .v (.int .u8), .v (.int .u32), .v (.int .u32), .v (.int .u32), .v (.int .u32), .v (.int .u32), .v (.int .u32), .v (.int .u32), .v (.int .u32)]], [.mk true [.ref 0 14, .ref 0 16, .ref 0 18, .ref 0 20], .mk false [.ref 0 0]]⟩
def f_head_Head_longs_io_m (T : Unit) (d : ((Int × (Int × (Int × (Int × (Int × (Int × (Int × (Int × (Int × (Int × (Int × (Int × (Int × (Int × (Int × (Int × (Int × (Int × (Int × (Int × (Int × (Int × Unit)))))))))))))))))))))) × Unit) × (Unit × Unit)) : Option (((Int × (Int × (Int × (Int × (Int × (Int × (Int × (Int × (Int × (Int × (Int × (Int × (Int × (Int × (Int × (Int × (Int × (Int × (Int × (Int × (Int × (Int × Unit)))))))))))))))))))))) × Unit) × (Unit × (Unit × Unit))) :=
  some (((d.1.1.1, (d.1.1.2.1, (d.1.1.2.2.1, (d.1.1.2.2.2.1, (d.1.1.2.2.2.2.1, (d.1.1.2.2.2.2.2.1, (d.1.1.2.2.2.2.2.2.1, (d.1.1.2.2.2.2.2.2.2.1, (d.1.1.2.2.2.2.2.2.2.2.1, (d.1.1.2.2.2.2.2.2.2.2.2.1, (d.1.1.2.2.2.2.2.2.2.2.2.2.1, (d.1.1.2.2.2.2.2.2.2.2.2.2.2.1, (d.1.1.2.2.2.2.2.2.2.2.2.2.2.2.1, (d.1.1.2.2.2.2.2.2.2.2.2.2.2.2.2.1, (d.1.1.2.2.2.2.2.2.2.2.2.2.2.2.2.2.1, (d.1.1.2.2.2.2.2.2.2.2.2.2.2.2.2.2.2.1, (d.1.1.2.2.2.2.2.2.2.2.2.2.2.2.2.2.2.2.1, (d.1.1.2.2.2.2.2.2.2.2.2.2.2.2.2.2.2.2.2.1, (d.1.1.2.2.2.2.2.2.2.2.2.2.2.2.2.2.2.2.2.2.1, (d.1.1.2.2.2.2.2.2.2.2.2.2.2.2.2.2.2.2.2.2.2.1, (d.1.1.2.2.2.2.2.2.2.2.2.2.2.2.2.2.2.2.2.2.2.2.1, (d.1.1.2.2.2.2.2.2.2.2.2.2.2.2.2.2.2.2.2.2.2.2.2.1, ())))))))))))))))))))))), ()), ((), ((), ())))
def c_head_Head_longs_io : List Nat := []
def L_head_Head_longs_io (_ : Nat) : Pts po_head_Head_longs_io.den := []
def R_head_Head_longs_io (_ : Nat) : PtsR po_head_Head_longs_io.den := []
def E_head_Head_longs_io : Env := (E0.kp [0])
theorem q_head_Head_longs_io_m (k : Nat) (d : ((Int × (Int × (Int × (Int × (Int × (Int × (Int × (Int × (Int × (Int × (Int × (Int × (Int × (Int × (Int × (Int × (Int × (Int × (Int × (Int × (Int × (Int × Unit)))))))))))))))))))))) × Unit) × (Unit × Unit)) : evCode E_head_Head_longs_io (tb (L_head_Head_longs_io k) (R_head_Head_longs_io k)) c_head_Head_longs_io (bodyOf Try.f56) 0 (finKio E_head_Head_longs_io po_head_Head_longs_io [.cell 2 106] [(0, none)]) (startSt pi_head_Head_longs_io 16 d) = f_head_Head_longs_io_m () d := by kernel_rfl
def g_head_Head_longs_io (d : ((Int × (Int × (Int × (Int × (Int × (Int × (Int × (Int × (Int × (Int × (Int × (Int × (Int × (Int × (Int × (Int × (Int × (Int × (Int × (Int × (Int × (Int × Unit)))))))))))))))))))))) × Unit) × (Unit × Unit)) : Option (((Int × (Int × (Int × (Int × (Int × (Int × (Int × (Int × (Int × (Int × (Int × (Int × (Int × (Int × (Int × (Int × (Int × (Int × (Int × (Int × (Int × (Int × Unit)))))))))))))))))))))) × Unit) × (Unit × (Unit × Unit))) := f_head_Head_longs_io_m () d
theorem ok_head_Head_longs_io : FnIo Try.prog ET0 56 pi_head_Head_longs_io po_head_Head_longs_io 1 [(0, 0, none)] g_head_Head_longs_io :=
  fn_of_bodyIo (E := E_head_Head_longs_io) (envOk_kp e0_ok) (fn := Try.f56) Try.func56 (by kernel_rfl) (by kernel_rfl) [.cell 2 106] [(0, none)] [(0, 0, none)] (by kernel_rfl) (by kernel_rfl) (by kernel_rfl) (by kernel_rfl) (by decide) (by decide) c_head_Head_longs_io L_head_Head_longs_io R_head_Head_longs_io
    (by intro x hx; cases hx) (by intro k x hx; cases hx) (by intro x hx; cases hx) (by intro k x hx; cases hx) (fun d out h => ⟨0, (q_head_Head_longs_io_m 0 d).trans h⟩)

/- horologe/head.Parse -/
@[reducible] def pi_head_Parse : PSh := ⟨[], [.mk false [.v (.sl (.int .u8))]]⟩
@[reducible] def po_head_Parse : PSh := ⟨[], [.mk true [.v (.int .i64), .v (.int .i64), .v (.int .i64), .v (.int .u8), .v (.int .i8), .v (.int .i8), .v (.int .u16), .v (.int .u16), .v (.int .u16), .v (.int .u16), .v (.int .u8), .v (.int .u8), .v (.int .u8), .v (.int .u8), .v (.int .u32), .v (.int .u32), .v (.int .u32), .v (.int .u32), .v (.int .u32), .v (.int .u32), .v (.int .u32), .v (.int .u32)], .mk false [.v .err]]⟩
@[reducible] def TT_head_Parse : Type := (((((Int × (Int × (Int × (Int × (Int × (Int × (Int × (Int × (Int × (Int × (Int × (Int × (Int × (Int × (Int × (Int × (Int × (Int × (Int × (Int × (Int × (Int × Unit)))))))))))))))))))))) × ((Int × (Int × (Int × (Int × (Int × (Int × (Int × (Int × (Int × (Int × (Int × (Int × (Int × (Int × (Int × (Int × (Int × (Int × (Int × (Int × (Int × (Int × Unit)))))))))))))))))))))) × Unit)) × (Unit × (((List Int) × Unit) × (Unit × (Unit × ((Int × Unit) × Unit)))))) → Option (Unit × ((Int × (Int × (Int × (Int × (Int × (Int × (Int × (Int × (Int × (Int × (Int × (Int × (Int × (Int × (Int × (Int × (Int × (Int × (Int × (Int × (Int × (Int × Unit)))))))))))))))))))))) × (((Option Int) × Unit) × Unit)))) × (((((Int × (Int × (Int × (Int × (Int × (Int × (Int × (Int × (Int × (Int × (Int × (Int × (Int × (Int × (Int × (Int × (Int × (Int × (Int × (Int × (Int × (Int × Unit)))))))))))))))))))))) × ((Int × (Int × (Int × (Int × (Int × (Int × (Int × (Int × (Int × (Int × (Int × (Int × (Int × (Int × (Int × (Int × (Int × (Int × (Int × (Int × (Int × (Int × Unit)))))))))))))))))))))) × Unit)) × (Unit × (((List Int) × Unit) × (((Option Int) × Unit) × (Unit × (Unit × ((Int × Unit) × Unit))))))) → Option (Unit × ((Int × (Int × (Int × (Int × (Int × (Int × (Int × (Int × (Int × (Int × (Int × (Int × (Int × (Int × (Int × (Int × (Int × (Int × (Int × (Int × (Int × (Int × Unit)))))))))))))))))))))) × (((Option Int) × Unit) × Unit)))) × Unit))
@[reducible] def sh_head_Parse_22 : PSh := ⟨[.var 31 [.v (.int .i64), .v (.int .i64), .v (.int .i64), .v (.int .u8), .v (.int .i8), .v (.int .i8), .v (.int .u16), .v (.int .u16), .v (.int .u16), .v (.int .u16), .v (.int .u8), .v (.int .u8), .v (.int .u8), .v (.int .u8), .v (.int .u32), .v (.int .u32), .v (.int .u32), .v (.int .u32), .v (.int .u32), .v (.int .u32), .v (.int .u32), .v (.int .u32)], .var 31 [.v (.int .i64), .v (.int .i64), .v (.int .i64), .v (.int .u8), .v (.int .i8), .v (.int .i8), .v (.int .u16), .v (.int .u16), .v (.int .u16), .v (.int .u16), .v (.int .u8), .v (.int .u8), .v (.int .u8), .v (.int .u8), .v (.int .u32), .v (.int .u32), .v (.int .u32), .v (.int .u32), .v (.int .u32), .v (.int .u32), .v (.int .u32), .v (.int .u32)]], [.any, .any, .mk false [.ref 0 0], .any, .mk false [.v (.sl (.int .u8))], .any, .mk false [.ref 1 0], .any, .any, .any, .any, .any, .any, .any, .any, .any, .any, .any, .any, .any, .any, .any, .any, .any, .any, .any, .any, .any, .any, .any, .any, .any, .any, .any, .any, .any, .any, .any, .any, .any, .any, .any, .any, .any, .any, .any, .any, .any, .any, .any, .any, .any, .any, .any, .any, .any, .any, .any, .any, .any, .any, .any, .any, .any, .any, .any, .any, .any, .any, .any, .any, .any, .any, .mk true [.ref 1 14, .ref 1 16, .ref 1 18, .ref 1 20], .mk false [.v (.int .i64)], .any, .any, .any, .any, .any, .any, .any, .any, .any, .any, .any, .any, .any, .any, .any, .any, .any, .any, .any, .any, .any, .any, .any, .any]⟩
@[reducible] def sh_head_Parse_27 : PSh := ⟨[.var 31 [.v (.int .i64), .v (.int .i64), .v (.int .i64), .v (.int .u8), .v (.int .i8), .v (.int .i8), .v (.int .u16), .v (.int .u16), .v (.int .u16), .v (.int .u16), .v (.int .u8), .v (.int .u8), .v (.int .u8), .v (.int .u8), .v (.int .u32), .v (.int .u32), .v (.int .u32), .v (.int .u32), .v (.int .u32), .v (.int .u32), .v (.int .u32), .v (.int .u32)], .var 31 [.v (.int .i64), .v (.int .i64), .v (.int .i64), .v (.int .u8), .v (.int .i8), .v (.int .i8), .v (.int .u16), .v (.int .u16), .v (.int .u16), .v (.int .u16), .v (.int .u8), .v (.int .u8), .v (.int .u8), .v (.int .u8), .v (.int .u32), .v (.int .u32), .v (.int .u32), .v (.int .u32), .v (.int .u32), .v (.int .u32), .v (.int .u32), .v (.int .u32)]], [.any, .any, .mk false [.ref 0 0], .any, .mk false [.v (.sl (.int .u8))], .mk false [.v .err], .mk false [.ref 1 0], .any, .any, .any, .any, .any, .any, .any, .any, .any, .any, .any, .any, .any, .any, .any, .any, .any, .any, .any, .any, .any, .any, .any, .any, .any, .any, .any, .any, .any, .any, .any, .any, .any, .any, .any, .any, .any, .any, .any, .any, .any, .any, .any, .any, .any, .any, .any, .any, .any, .any, .any, .any, .any, .any, .any, .any, .any, .any, .any, .any, .any, .any, .any, .any, .any, .any, .mk true [.ref 1 14, .ref 1 16, .ref 1 18, .ref 1 20], .mk false [.v (.int .i64)], .any, .any, .any, .any, .any, .any, .any, .any, .any, .any, .any, .any, .any, .any, .any, .any, .any, .any, .any, .any, .any, .any, .any, .any]⟩
def f_head_Parse_p22 (T : TT_head_Parse) (d : ((Int × (Int × (Int × (Int × (Int × (Int × (Int × (Int × (Int × (Int × (Int × (Int × (Int × (Int × (Int × (Int × (Int × (Int × (Int × (Int × (Int × (Int × Unit)))))))))))))))))))))) × ((Int × (Int × (Int × (Int × (Int × (Int × (Int × (Int × (Int × (Int × (Int × (Int × (Int × (Int × (Int × (Int × (Int × (Int × (Int × (Int × (Int × (Int × Unit)))))))))))))))))))))) × Unit)) × (Unit × (((List Int) × Unit) × (Unit × (Unit × ((Int × Unit) × Unit)))))) : Option (Unit × ((Int × (Int × (Int × (Int × (Int × (Int × (Int × (Int × (Int × (Int × (Int × (Int × (Int × (Int × (Int × (Int × (Int × (Int × (Int × (Int × (Int × (Int × Unit)))))))))))))))))))))) × (((Option Int) × Unit) × Unit))) :=
  let x16 : Bool := (decide (d.2.2.2.2.2.1.1 < (4 : Int)))
  bif x16 then (
  bif decide ((0 : Int) ≤ d.2.2.2.2.2.1.1) && decide (d.2.2.2.2.2.1.1 < (4 : Int)) then (
  bif decide (d.2.2.2.2.2.1.1 = (0 : Int)) then (
  let x38 : Int := (imul .i64 (8 : Int) d.2.2.2.2.2.1.1)
  let x39 : Int := (iadd .i64 (16 : Int) x38)
  let x40 : Int := (iadd .i64 d.2.2.2.2.2.1.1 (1 : Int))
  let x41 : Int := (imul .i64 (8 : Int) x40)
  let x42 : Int := (iadd .i64 (16 : Int) x41)
  bif decide ((0 : Int) ≤ x39) && decide (x39 ≤ x42) && decide (x42 ≤ (d.2.2.1.1.length : Int)) then (
  let x43 : (List Int) := (List.drop (Int.toNat x39) (List.take (Int.toNat x42) d.2.2.1.1))
  (g_stamp_Parse ((), ((x43, ()), ()))).bind fun x44 =>
  (T.2.1 (((d.1.1.1, (d.1.1.2.1, (d.1.1.2.2.1, (d.1.1.2.2.2.1, (d.1.1.2.2.2.2.1, (d.1.1.2.2.2.2.2.1, (d.1.1.2.2.2.2.2.2.1, (d.1.1.2.2.2.2.2.2.2.1, (d.1.1.2.2.2.2.2.2.2.2.1, (d.1.1.2.2.2.2.2.2.2.2.2.1, (d.1.1.2.2.2.2.2.2.2.2.2.2.1, (d.1.1.2.2.2.2.2.2.2.2.2.2.2.1, (d.1.1.2.2.2.2.2.2.2.2.2.2.2.2.1, (d.1.1.2.2.2.2.2.2.2.2.2.2.2.2.2.1, (d.1.1.2.2.2.2.2.2.2.2.2.2.2.2.2.2.1, (d.1.1.2.2.2.2.2.2.2.2.2.2.2.2.2.2.2.1, (d.1.1.2.2.2.2.2.2.2.2.2.2.2.2.2.2.2.2.1, (d.1.1.2.2.2.2.2.2.2.2.2.2.2.2.2.2.2.2.2.1, (d.1.1.2.2.2.2.2.2.2.2.2.2.2.2.2.2.2.2.2.2.1, (d.1.1.2.2.2.2.2.2.2.2.2.2.2.2.2.2.2.2.2.2.2.1, (d.1.1.2.2.2.2.2.2.2.2.2.2.2.2.2.2.2.2.2.2.2.2.1, (d.1.1.2.2.2.2.2.2.2.2.2.2.2.2.2.2.2.2.2.2.2.2.2.1, ())))))))))))))))))))))), ((d.1.2.1.1, (d.1.2.1.2.1, (d.1.2.1.2.2.1, (d.1.2.1.2.2.2.1, (d.1.2.1.2.2.2.2.1, (d.1.2.1.2.2.2.2.2.1, (d.1.2.1.2.2.2.2.2.2.1, (d.1.2.1.2.2.2.2.2.2.2.1, (d.1.2.1.2.2.2.2.2.2.2.2.1, (d.1.2.1.2.2.2.2.2.2.2.2.2.1, (d.1.2.1.2.2.2.2.2.2.2.2.2.2.1, (d.1.2.1.2.2.2.2.2.2.2.2.2.2.2.1, (d.1.2.1.2.2.2.2.2.2.2.2.2.2.2.2.1, (d.1.2.1.2.2.2.2.2.2.2.2.2.2.2.2.2.1, (x44.2.1.1, (x44.2.1.2.1, (d.1.2.1.2.2.2.2.2.2.2.2.2.2.2.2.2.2.2.2.1, (d.1.2.1.2.2.2.2.2.2.2.2.2.2.2.2.2.2.2.2.2.1, (d.1.2.1.2.2.2.2.2.2.2.2.2.2.2.2.2.2.2.2.2.2.1, (d.1.2.1.2.2.2.2.2.2.2.2.2.2.2.2.2.2.2.2.2.2.2.1, (d.1.2.1.2.2.2.2.2.2.2.2.2.2.2.2.2.2.2.2.2.2.2.2.1, (d.1.2.1.2.2.2.2.2.2.2.2.2.2.2.2.2.2.2.2.2.2.2.2.2.1, ())))))))))))))))))))))), ())), ((), ((d.2.2.1.1, ()), ((x44.2.2.1.1, ()), ((), ((), ((d.2.2.2.2.2.1.1, ()), ())))))))))
  else none)
  else (
  bif decide (d.2.2.2.2.2.1.1 = (1 : Int)) then (
  let x31 : Int := (imul .i64 (8 : Int) d.2.2.2.2.2.1.1)
  let x32 : Int := (iadd .i64 (16 : Int) x31)
  let x33 : Int := (iadd .i64 d.2.2.2.2.2.1.1 (1 : Int))
  let x34 : Int := (imul .i64 (8 : Int) x33)
  let x35 : Int := (iadd .i64 (16 : Int) x34)
  bif decide ((0 : Int) ≤ x32) && decide (x32 ≤ x35) && decide (x35 ≤ (d.2.2.1.1.length : Int)) then (
  let x36 : (List Int) := (List.drop (Int.toNat x32) (List.take (Int.toNat x35) d.2.2.1.1))
  (g_stamp_Parse ((), ((x36, ()), ()))).bind fun x37 =>
  (T.2.1 (((d.1.1.1, (d.1.1.2.1, (d.1.1.2.2.1, (d.1.1.2.2.2.1, (d.1.1.2.2.2.2.1, (d.1.1.2.2.2.2.2.1, (d.1.1.2.2.2.2.2.2.1, (d.1.1.2.2.2.2.2.2.2.1, (d.1.1.2.2.2.2.2.2.2.2.1, (d.1.1.2.2.2.2.2.2.2.2.2.1, (d.1.1.2.2.2.2.2.2.2.2.2.2.1, (d.1.1.2.2.2.2.2.2.2.2.2.2.2.1, (d.1.1.2.2.2.2.2.2.2.2.2.2.2.2.1, (d.1.1.2.2.2.2.2.2.2.2.2.2.2.2.2.1, (d.1.1.2.2.2.2.2.2.2.2.2.2.2.2.2.2.1, (d.1.1.2.2.2.2.2.2.2.2.2.2.2.2.2.2.2.1, (d.1.1.2.2.2.2.2.2.2.2.2.2.2.2.2.2.2.2.1, (d.1.1.2.2.2.2.2.2.2.2.2.2.2.2.2.2.2.2.2.1, (d.1.1.2.2.2.2.2.2.2.2.2.2.2.2.2.2.2.2.2.2.1, (d.1.1.2.2.2.2.2.2.2.2.2.2.2.2.2.2.2.2.2.2.2.1, (d.1.1.2.2.2.2.2.2.2.2.2.2.2.2.2.2.2.2.2.2.2.2.1, (d.1.1.2.2.2.2.2.2.2.2.2.2.2.2.2.2.2.2.2.2.2.2.2.1, ())))))))))))))))))))))), ((d.1.2.1.1, (d.1.2.1.2.1, (d.1.2.1.2.2.1, (d.1.2.1.2.2.2.1, (d.1.2.1.2.2.2.2.1, (d.1.2.1.2.2.2.2.2.1, (d.1.2.1.2.2.2.2.2.2.1, (d.1.2.1.2.2.2.2.2.2.2.1, (d.1.2.1.2.2.2.2.2.2.2.2.1, (d.1.2.1.2.2.2.2.2.2.2.2.2.1, (d.1.2.1.2.2.2.2.2.2.2.2.2.2.1, (d.1.2.1.2.2.2.2.2.2.2.2.2.2.2.1, (d.1.2.1.2.2.2.2.2.2.2.2.2.2.2.2.1, (d.1.2.1.2.2.2.2.2.2.2.2.2.2.2.2.2.1, (d.1.2.1.2.2.2.2.2.2.2.2.2.2.2.2.2.2.1, (d.1.2.1.2.2.2.2.2.2.2.2.2.2.2.2.2.2.2.1, (x37.2.1.1, (x37.2.1.2.1, (d.1.2.1.2.2.2.2.2.2.2.2.2.2.2.2.2.2.2.2.2.2.1, (d.1.2.1.2.2.2.2.2.2.2.2.2.2.2.2.2.2.2.2.2.2.2.1, (d.1.2.1.2.2.2.2.2.2.2.2.2.2.2.2.2.2.2.2.2.2.2.2.1, (d.1.2.1.2.2.2.2.2.2.2.2.2.2.2.2.2.2.2.2.2.2.2.2.2.1, ())))))))))))))))))))))), ())), ((), ((d.2.2.1.1, ()), ((x37.2.2.1.1, ()), ((), ((), ((d.2.2.2.2.2.1.1, ()), ())))))))))
  else none)
  else (
  bif decide (d.2.2.2.2.2.1.1 = (2 : Int)) then (
  let x24 : Int := (imul .i64 (8 : Int) d.2.2.2.2.2.1.1)
  let x25 : Int := (iadd .i64 (16 : Int) x24)
  let x26 : Int := (iadd .i64 d.2.2.2.2.2.1.1 (1 : Int))
  let x27 : Int := (imul .i64 (8 : Int) x26)
  let x28 : Int := (iadd .i64 (16 : Int) x27)
  bif decide ((0 : Int) ≤ x25) && decide (x25 ≤ x28) && decide (x28 ≤ (d.2.2.1.1.length : Int)) then (
  let x29 : (List Int) := (List.drop (Int.toNat x25) (List.take (Int.toNat x28) d.2.2.1.1))
  (g_stamp_Parse ((), ((x29, ()), ()))).bind fun x30 =>
  (T.2.1 (((d.1.1.1, (d.1.1.2.1, (d.1.1.2.2.1, (d.1.1.2.2.2.1, (d.1.1.2.2.2.2.1, (d.1.1.2.2.2.2.2.1, (d.1.1.2.2.2.2.2.2.1, (d.1.1.2.2.2.2.2.2.2.1, (d.1.1.2.2.2.2.2.2.2.2.1, (d.1.1.2.2.2.2.2.2.2.2.2.1, (d.1.1.2.2.2.2.2.2.2.2.2.2.1, (d.1.1.2.2.2.2.2.2.2.2.2.2.2.1, (d.1.1.2.2.2.2.2.2.2.2.2.2.2.2.1, (d.1.1.2.2.2.2.2.2.2.2.2.2.2.2.2.1, (d.1.1.2.2.2.2.2.2.2.2.2.2.2.2.2.2.1, (d.1.1.2.2.2.2.2.2.2.2.2.2.2.2.2.2.2.1, (d.1.1.2.2.2.2.2.2.2.2.2.2.2.2.2.2.2.2.1, (d.1.1.2.2.2.2.2.2.2.2.2.2.2.2.2.2.2.2.2.1, (d.1.1.2.2.2.2.2.2.2.2.2.2.2.2.2.2.2.2.2.2.1, (d.1.1.2.2.2.2.2.2.2.2.2.2.2.2.2.2.2.2.2.2.2.1, (d.1.1.2.2.2.2.2.2.2.2.2.2.2.2.2.2.2.2.2.2.2.2.1, (d.1.1.2.2.2.2.2.2.2.2.2.2.2.2.2.2.2.2.2.2.2.2.2.1, ())))))))))))))))))))))), ((d.1.2.1.1, (d.1.2.1.2.1, (d.1.2.1.2.2.1, (d.1.2.1.2.2.2.1, (d.1.2.1.2.2.2.2.1, (d.1.2.1.2.2.2.2.2.1, (d.1.2.1.2.2.2.2.2.2.1, (d.1.2.1.2.2.2.2.2.2.2.1, (d.1.2.1.2.2.2.2.2.2.2.2.1, (d.1.2.1.2.2.2.2.2.2.2.2.2.1, (d.1.2.1.2.2.2.2.2.2.2.2.2.2.1, (d.1.2.1.2.2.2.2.2.2.2.2.2.2.2.1, (d.1.2.1.2.2.2.2.2.2.2.2.2.2.2.2.1, (d.1.2.1.2.2.2.2.2.2.2.2.2.2.2.2.2.1, (d.1.2.1.2.2.2.2.2.2.2.2.2.2.2.2.2.2.1, (d.1.2.1.2.2.2.2.2.2.2.2.2.2.2.2.2.2.2.1, (d.1.2.1.2.2.2.2.2.2.2.2.2.2.2.2.2.2.2.2.1, (d.1.2.1.2.2.2.2.2.2.2.2.2.2.2.2.2.2.2.2.2.1, (x30.2.1.1, (x30.2.1.2.1, (d.1.2.1.2.2.2.2.2.2.2.2.2.2.2.2.2.2.2.2.2.2.2.2.1, (d.1.2.1.2.2.2.2.2.2.2.2.2.2.2.2.2.2.2.2.2.2.2.2.2.1, ())))))))))))))))))))))), ())), ((), ((d.2.2.1.1, ()), ((x30.2.2.1.1, ()), ((), ((), ((d.2.2.2.2.2.1.1, ()), ())))))))))
  else none)
  else (
  bif decide (d.2.2.2.2.2.1.1 = (3 : Int)) then (
  let x17 : Int := (imul .i64 (8 : Int) d.2.2.2.2.2.1.1)
  let x18 : Int := (iadd .i64 (16 : Int) x17)
  let x19 : Int := (iadd .i64 d.2.2.2.2.2.1.1 (1 : Int))
  let x20 : Int := (imul .i64 (8 : Int) x19)
  let x21 : Int := (iadd .i64 (16 : Int) x20)
  bif decide ((0 : Int) ≤ x18) && decide (x18 ≤ x21) && decide (x21 ≤ (d.2.2.1.1.length : Int)) then (
  let x22 : (List Int) := (List.drop (Int.toNat x18) (List.take (Int.toNat x21) d.2.2.1.1))
  (g_stamp_Parse ((), ((x22, ()), ()))).bind fun x23 =>
  (T.2.1 (((d.1.1.1, (d.1.1.2.1, (d.1.1.2.2.1, (d.1.1.2.2.2.1, (d.1.1.2.2.2.2.1, (d.1.1.2.2.2.2.2.1, (d.1.1.2.2.2.2.2.2.1, (d.1.1.2.2.2.2.2.2.2.1, (d.1.1.2.2.2.2.2.2.2.2.1, (d.1.1.2.2.2.2.2.2.2.2.2.1, (d.1.1.2.2.2.2.2.2.2.2.2.2.1, (d.1.1.2.2.2.2.2.2.2.2.2.2.2.1, (d.1.1.2.2.2.2.2.2.2.2.2.2.2.2.1, (d.1.1.2.2.2.2.2.2.2.2.2.2.2.2.2.1, (d.1.1.2.2.2.2.2.2.2.2.2.2.2.2.2.2.1, (d.1.1.2.2.2.2.2.2.2.2.2.2.2.2.2.2.2.1, (d.1.1.2.2.2.2.2.2.2.2.2.2.2.2.2.2.2.2.1, (d.1.1.2.2.2.2.2.2.2.2.2.2.2.2.2.2.2.2.2.1, (d.1.1.2.2.2.2.2.2.2.2.2.2.2.2.2.2.2.2.2.2.1, (d.1.1.2.2.2.2.2.2.2.2.2.2.2.2.2.2.2.2.2.2.2.1, (d.1.1.2.2.2.2.2.2.2.2.2.2.2.2.2.2.2.2.2.2.2.2.1, (d.1.1.2.2.2.2.2.2.2.2.2.2.2.2.2.2.2.2.2.2.2.2.2.1, ())))))))))))))))))))))), ((d.1.2.1.1, (d.1.2.1.2.1, (d.1.2.1.2.2.1, (d.1.2.1.2.2.2.1, (d.1.2.1.2.2.2.2.1, (d.1.2.1.2.2.2.2.2.1, (d.1.2.1.2.2.2.2.2.2.1, (d.1.2.1.2.2.2.2.2.2.2.1, (d.1.2.1.2.2.2.2.2.2.2.2.1, (d.1.2.1.2.2.2.2.2.2.2.2.2.1, (d.1.2.1.2.2.2.2.2.2.2.2.2.2.1, (d.1.2.1.2.2.2.2.2.2.2.2.2.2.2.1, (d.1.2.1.2.2.2.2.2.2.2.2.2.2.2.2.1, (d.1.2.1.2.2.2.2.2.2.2.2.2.2.2.2.2.1, (d.1.2.1.2.2.2.2.2.2.2.2.2.2.2.2.2.2.1, (d.1.2.1.2.2.2.2.2.2.2.2.2.2.2.2.2.2.2.1, (d.1.2.1.2.2.2.2.2.2.2.2.2.2.2.2.2.2.2.2.1, (d.1.2.1.2.2.2.2.2.2.2.2.2.2.2.2.2.2.2.2.2.1, (d.1.2.1.2.2.2.2.2.2.2.2.2.2.2.2.2.2.2.2.2.2.1, (d.1.2.1.2.2.2.2.2.2.2.2.2.2.2.2.2.2.2.2.2.2.2.1, (x23.2.1.1, (x23.2.1.2.1, ())))))))))))))))))))))), ())), ((), ((d.2.2.1.1, ()), ((x23.2.2.1.1, ()), ((), ((), ((d.2.2.2.2.2.1.1, ()), ())))))))))
  else none)
  else (
  none)))))
  else none)
  else (
  some ((), ((d.1.2.1.1, (d.1.2.1.2.1, (d.1.2.1.2.2.1, (d.1.2.1.2.2.2.1, (d.1.2.1.2.2.2.2.1, (d.1.2.1.2.2.2.2.2.1, (d.1.2.1.2.2.2.2.2.2.1, (d.1.2.1.2.2.2.2.2.2.2.1, (d.1.2.1.2.2.2.2.2.2.2.2.1, (d.1.2.1.2.2.2.2.2.2.2.2.2.1, (d.1.2.1.2.2.2.2.2.2.2.2.2.2.1, (d.1.2.1.2.2.2.2.2.2.2.2.2.2.2.1, (d.1.2.1.2.2.2.2.2.2.2.2.2.2.2.2.1, (d.1.2.1.2.2.2.2.2.2.2.2.2.2.2.2.2.1, (d.1.2.1.2.2.2.2.2.2.2.2.2.2.2.2.2.2.1, (d.1.2.1.2.2.2.2.2.2.2.2.2.2.2.2.2.2.2.1, (d.1.2.1.2.2.2.2.2.2.2.2.2.2.2.2.2.2.2.2.1, (d.1.2.1.2.2.2.2.2.2.2.2.2.2.2.2.2.2.2.2.2.1, (d.1.2.1.2.2.2.2.2.2.2.2.2.2.2.2.2.2.2.2.2.2.1, (d.1.2.1.2.2.2.2.2.2.2.2.2.2.2.2.2.2.2.2.2.2.2.1, (d.1.2.1.2.2.2.2.2.2.2.2.2.2.2.2.2.2.2.2.2.2.2.2.1, (d.1.2.1.2.2.2.2.2.2.2.2.2.2.2.2.2.2.2.2.2.2.2.2.2.1, ())))))))))))))))))))))), (((none : Option Int), ()), ()))))
def f_head_Parse_p27 (T : TT_head_Parse) (d : ((Int × (Int × (Int × (Int × (Int × (Int × (Int × (Int × (Int × (Int × (Int × (Int × (Int × (Int × (Int × (Int × (Int × (Int × (Int × (Int × (Int × (Int × Unit)))))))))))))))))))))) × ((Int × (Int × (Int × (Int × (Int × (Int × (Int × (Int × (Int × (Int × (Int × (Int × (Int × (Int × (Int × (Int × (Int × (Int × (Int × (Int × (Int × (Int × Unit)))))))))))))))))))))) × Unit)) × (Unit × (((List Int) × Unit) × (((Option Int) × Unit) × (Unit × (Unit × ((Int × Unit) × Unit))))))) : Option (Unit × ((Int × (Int × (Int × (Int × (Int × (Int × (Int × (Int × (Int × (Int × (Int × (Int × (Int × (Int × (Int × (Int × (Int × (Int × (Int × (Int × (Int × (Int × Unit)))))))))))))))))))))) × (((Option Int) × Unit) × Unit))) :=
  let x45 : Bool := (!d.2.2.2.1.1.isNone)
  bif x45 then (
  some ((), (((0 : Int), ((0 : Int), ((0 : Int), ((0 : Int), ((0 : Int), ((0 : Int), ((0 : Int), ((0 : Int), ((0 : Int), ((0 : Int), ((0 : Int), ((0 : Int), ((0 : Int), ((0 : Int), ((0 : Int), ((0 : Int), ((0 : Int), ((0 : Int), ((0 : Int), ((0 : Int), ((0 : Int), ((0 : Int), ())))))))))))))))))))))), ((d.2.2.2.1.1, ()), ()))))
  else (
  let x46 : Int := (iadd .i64 d.2.2.2.2.2.2.1.1 (1 : Int))
  (T.1 (((d.1.1.1, (d.1.1.2.1, (d.1.1.2.2.1, (d.1.1.2.2.2.1, (d.1.1.2.2.2.2.1, (d.1.1.2.2.2.2.2.1, (d.1.1.2.2.2.2.2.2.1, (d.1.1.2.2.2.2.2.2.2.1, (d.1.1.2.2.2.2.2.2.2.2.1, (d.1.1.2.2.2.2.2.2.2.2.2.1, (d.1.1.2.2.2.2.2.2.2.2.2.2.1, (d.1.1.2.2.2.2.2.2.2.2.2.2.2.1, (d.1.1.2.2.2.2.2.2.2.2.2.2.2.2.1, (d.1.1.2.2.2.2.2.2.2.2.2.2.2.2.2.1, (d.1.1.2.2.2.2.2.2.2.2.2.2.2.2.2.2.1, (d.1.1.2.2.2.2.2.2.2.2.2.2.2.2.2.2.2.1, (d.1.1.2.2.2.2.2.2.2.2.2.2.2.2.2.2.2.2.1, (d.1.1.2.2.2.2.2.2.2.2.2.2.2.2.2.2.2.2.2.1, (d.1.1.2.2.2.2.2.2.2.2.2.2.2.2.2.2.2.2.2.2.1, (d.1.1.2.2.2.2.2.2.2.2.2.2.2.2.2.2.2.2.2.2.2.1, (d.1.1.2.2.2.2.2.2.2.2.2.2.2.2.2.2.2.2.2.2.2.2.1, (d.1.1.2.2.2.2.2.2.2.2.2.2.2.2.2.2.2.2.2.2.2.2.2.1, ())))))))))))))))))))))), ((d.1.2.1.1, (d.1.2.1.2.1, (d.1.2.1.2.2.1, (d.1.2.1.2.2.2.1, (d.1.2.1.2.2.2.2.1, (d.1.2.1.2.2.2.2.2.1, (d.1.2.1.2.2.2.2.2.2.1, (d.1.2.1.2.2.2.2.2.2.2.1, (d.1.2.1.2.2.2.2.2.2.2.2.1, (d.1.2.1.2.2.2.2.2.2.2.2.2.1, (d.1.2.1.2.2.2.2.2.2.2.2.2.2.1, (d.1.2.1.2.2.2.2.2.2.2.2.2.2.2.1, (d.1.2.1.2.2.2.2.2.2.2.2.2.2.2.2.1, (d.1.2.1.2.2.2.2.2.2.2.2.2.2.2.2.2.1, (d.1.2.1.2.2.2.2.2.2.2.2.2.2.2.2.2.2.1, (d.1.2.1.2.2.2.2.2.2.2.2.2.2.2.2.2.2.2.1, (d.1.2.1.2.2.2.2.2.2.2.2.2.2.2.2.2.2.2.2.1, (d.1.2.1.2.2.2.2.2.2.2.2.2.2.2.2.2.2.2.2.2.1, (d.1.2.1.2.2.2.2.2.2.2.2.2.2.2.2.2.2.2.2.2.2.1, (d.1.2.1.2.2.2.2.2.2.2.2.2.2.2.2.2.2.2.2.2.2.2.1, (d.1.2.1.2.2.2.2.2.2.2.2.2.2.2.2.2.2.2.2.2.2.2.2.1, (d.1.2.1.2.2.2.2.2.2.2.2.2.2.2.2.2.2.2.2.2.2.2.2.2.1, ())))))))))))))))))))))), ())), ((), ((d.2.2.1.1, ()), ((), ((), ((x46, ()), ()))))))))
def f_head_Parse_t : Nat → TT_head_Parse
  | 0 => (fun _ => none, (fun _ => none, ()))
  | k + 1 => (f_head_Parse_p22 (f_head_Parse_t k), (f_head_Parse_p27 (f_head_Parse_t k), ()))
theorem t_head_Parse (k : Nat) : f_head_Parse_t (k + 1) = (f_head_Parse_p22 (f_head_Parse_t k), (f_head_Parse_p27 (f_head_Parse_t k), ())) := rfl
def f_head_Parse_m (T : TT_head_Parse) (d : Unit × (((List Int) × Unit) × Unit)) : Option (Unit × ((Int × (Int × (Int × (Int × (Int × (Int × (Int × (Int × (Int × (Int × (Int × (Int × (Int × (Int × (Int × (Int × (Int × (Int × (Int × (Int × (Int × (Int × Unit)))))))))))))))))))))) × (((Option Int) × Unit) × Unit))) :=
  (g_octets_Cut ((), ((d.2.1.1, ()), (((0 : Int), ()), (((48 : Int), ()), ()))))).bind fun x1 =>
  let x2 : Bool := (!x1.2.2.1.1.isNone)
  bif x2 then (
  some ((), (((0 : Int), ((0 : Int), ((0 : Int), ((0 : Int), ((0 : Int), ((0 : Int), ((0 : Int), ((0 : Int), ((0 : Int), ((0 : Int), ((0 : Int), ((0 : Int), ((0 : Int), ((0 : Int), ((0 : Int), ((0 : Int), ((0 : Int), ((0 : Int), ((0 : Int), ((0 : Int), ((0 : Int), ((0 : Int), ())))))))))))))))))))))), ((x1.2.2.1.1, ()), ()))))
  else (
  (g_head_First ((), ((x1.1.1, ()), ()))).bind fun x3 =>
  let x4 : Bool := (!x3.2.2.2.2.1.1.isNone)
  bif x4 then (
  some ((), (((0 : Int), ((0 : Int), ((0 : Int), ((0 : Int), ((0 : Int), ((0 : Int), ((0 : Int), ((0 : Int), ((0 : Int), ((0 : Int), ((0 : Int), ((0 : Int), ((0 : Int), ((0 : Int), ((0 : Int), ((0 : Int), ((0 : Int), ((0 : Int), ((0 : Int), ((0 : Int), ((0 : Int), ((0 : Int), ())))))))))))))))))))))), ((x3.2.2.2.2.1.1, ()), ()))))
  else (
  bif decide ((0 : Int) ≤ (1 : Int)) && decide ((1 : Int) < (x1.1.1.length : Int)) then (
  bif decide ((0 : Int) ≤ (2 : Int)) && decide ((2 : Int) < (x1.1.1.length : Int)) then (
  let x5 : Int := (iconv .i8 (gd (.int .u8) x1.1.1 (2 : Int)))
  bif decide ((0 : Int) ≤ (3 : Int)) && decide ((3 : Int) < (x1.1.1.length : Int)) then (
  let x6 : Int := (iconv .i8 (gd (.int .u8) x1.1.1 (3 : Int)))
  bif decide ((8 : Int) ≤ (x1.1.1.length : Int)) then (
  let x7 : (List Int) := (List.drop (Int.toNat (4 : Int)) (List.take (Int.toNat (8 : Int)) x1.1.1))
  (g_stamp_ParseShort ((), ((x7, ()), ()))).bind fun x8 =>
  let x9 : Bool := (!x8.2.2.1.1.isNone)
  bif x9 then (
  some ((), (((0 : Int), ((0 : Int), ((0 : Int), ((0 : Int), ((0 : Int), ((0 : Int), ((0 : Int), ((0 : Int), ((0 : Int), ((0 : Int), ((0 : Int), ((0 : Int), ((0 : Int), ((0 : Int), ((0 : Int), ((0 : Int), ((0 : Int), ((0 : Int), ((0 : Int), ((0 : Int), ((0 : Int), ((0 : Int), ())))))))))))))))))))))), ((x8.2.2.1.1, ()), ()))))
  else (
  bif decide ((12 : Int) ≤ (x1.1.1.length : Int)) then (
  let x10 : (List Int) := (List.drop (Int.toNat (8 : Int)) (List.take (Int.toNat (12 : Int)) x1.1.1))
  (g_stamp_ParseShort ((), ((x10, ()), ()))).bind fun x11 =>
  let x12 : Bool := (!x11.2.2.1.1.isNone)
  bif x12 then (
  some ((), (((0 : Int), ((0 : Int), ((0 : Int), ((0 : Int), ((0 : Int), ((0 : Int), ((0 : Int), ((0 : Int), ((0 : Int), ((0 : Int), ((0 : Int), ((0 : Int), ((0 : Int), ((0 : Int), ((0 : Int), ((0 : Int), ((0 : Int), ((0 : Int), ((0 : Int), ((0 : Int), ((0 : Int), ((0 : Int), ())))))))))))))))))))))), ((x11.2.2.1.1, ()), ()))))
  else (
  bif decide ((16 : Int) ≤ (x1.1.1.length : Int)) then (
  let x13 : (List Int) := (List.drop (Int.toNat (12 : Int)) (List.take (Int.toNat (16 : Int)) x1.1.1))
  bif decide ((4 : Int) ≤ x13.length) then (
  let x14 : (Int × (Int × (Int × Int))) := ((gd (.int .u8) x13 (0 : Int)), ((gd (.int .u8) x13 (1 : Int)), ((gd (.int .u8) x13 (2 : Int)), (gd (.int .u8) x13 (3 : Int)))))
  (g_head_Head_longs_io (((x3.2.1.1, (x3.2.2.1.1, (x3.2.2.2.1.1, ((gd (.int .u8) x1.1.1 (1 : Int)), (x5, (x6, (x8.2.1.1, (x8.2.1.2.1, (x11.2.1.1, (x11.2.1.2.1, (x14.1, (x14.2.1, (x14.2.2.1, (x14.2.2.2, ((0 : Int), ((0 : Int), ((0 : Int), ((0 : Int), ((0 : Int), ((0 : Int), ((0 : Int), ((0 : Int), ())))))))))))))))))))))), ()), ((), ()))).bind fun x15 =>
  (T.1 ((((0 : Int), ((0 : Int), ((0 : Int), ((0 : Int), ((0 : Int), ((0 : Int), ((0 : Int), ((0 : Int), ((0 : Int), ((0 : Int), ((0 : Int), ((0 : Int), ((0 : Int), ((0 : Int), ((0 : Int), ((0 : Int), ((0 : Int), ((0 : Int), ((0 : Int), ((0 : Int), ((0 : Int), ((0 : Int), ())))))))))))))))))))))), ((x15.1.1.1, (x15.1.1.2.1, (x15.1.1.2.2.1, (x15.1.1.2.2.2.1, (x15.1.1.2.2.2.2.1, (x15.1.1.2.2.2.2.2.1, (x15.1.1.2.2.2.2.2.2.1, (x15.1.1.2.2.2.2.2.2.2.1, (x15.1.1.2.2.2.2.2.2.2.2.1, (x15.1.1.2.2.2.2.2.2.2.2.2.1, (x15.1.1.2.2.2.2.2.2.2.2.2.2.1, (x15.1.1.2.2.2.2.2.2.2.2.2.2.2.1, (x15.1.1.2.2.2.2.2.2.2.2.2.2.2.2.1, (x15.1.1.2.2.2.2.2.2.2.2.2.2.2.2.2.1, (x15.1.1.2.2.2.2.2.2.2.2.2.2.2.2.2.2.1, (x15.1.1.2.2.2.2.2.2.2.2.2.2.2.2.2.2.2.1, (x15.1.1.2.2.2.2.2.2.2.2.2.2.2.2.2.2.2.2.1, (x15.1.1.2.2.2.2.2.2.2.2.2.2.2.2.2.2.2.2.2.1, (x15.1.1.2.2.2.2.2.2.2.2.2.2.2.2.2.2.2.2.2.2.1, (x15.1.1.2.2.2.2.2.2.2.2.2.2.2.2.2.2.2.2.2.2.2.1, (x15.1.1.2.2.2.2.2.2.2.2.2.2.2.2.2.2.2.2.2.2.2.2.1, (x15.1.1.2.2.2.2.2.2.2.2.2.2.2.2.2.2.2.2.2.2.2.2.2.1, ())))))))))))))))))))))), ())), ((), ((x1.1.1, ()), ((), ((), (((0 : Int), ()), ()))))))))
  else none)
  else none))
  else none))
  else none)
  else none)
  else none)
  else none))
def c_head_Parse : List Nat := [27]
def L_head_Parse (k : Nat) : Pts po_head_Parse.den := [(22, ⟨sh_head_Parse_22, (f_head_Parse_t k).1⟩), (27, ⟨sh_head_Parse_27, (f_head_Parse_t k).2.1⟩)]
def R_head_Parse (_ : Nat) : PtsR po_head_Parse.den := []
def E_head_Parse : Env := ((((((E0.add 26 (typedSem pi_octets_Cut po_octets_Cut g_octets_Cut)).add 39 (typedSem pi_stamp_Parse po_stamp_Parse g_stamp_Parse)).add 40 (typedSem pi_stamp_ParseShort po_stamp_ParseShort g_stamp_ParseShort)).add 52 (typedSem pi_head_First po_head_First g_head_First)).add 56 (ioSem pi_head_Head_longs_io po_head_Head_longs_io 1 [(0, 0, none)] g_head_Head_longs_io)).fr [(48, [47])])
theorem q_head_Parse_22 (k : Nat) (d : ((Int × (Int × (Int × (Int × (Int × (Int × (Int × (Int × (Int × (Int × (Int × (Int × (Int × (Int × (Int × (Int × (Int × (Int × (Int × (Int × (Int × (Int × Unit)))))))))))))))))))))) × ((Int × (Int × (Int × (Int × (Int × (Int × (Int × (Int × (Int × (Int × (Int × (Int × (Int × (Int × (Int × (Int × (Int × (Int × (Int × (Int × (Int × (Int × Unit)))))))))))))))))))))) × Unit)) × (Unit × (((List Int) × Unit) × (Unit × (Unit × ((Int × Unit) × Unit)))))) : evAt E_head_Parse (tb (L_head_Parse k) (R_head_Parse k)) c_head_Parse 22 (bodyOf Try.f49) 0 (finK E_head_Parse po_head_Parse [.cell 2 31, .tmp 3]) (ptSt sh_head_Parse_22 d) = f_head_Parse_p22 (f_head_Parse_t k) d := by kernel_rfl
theorem q_head_Parse_27 (k : Nat) (d : ((Int × (Int × (Int × (Int × (Int × (Int × (Int × (Int × (Int × (Int × (Int × (Int × (Int × (Int × (Int × (Int × (Int × (Int × (Int × (Int × (Int × (Int × Unit)))))))))))))))))))))) × ((Int × (Int × (Int × (Int × (Int × (Int × (Int × (Int × (Int × (Int × (Int × (Int × (Int × (Int × (Int × (Int × (Int × (Int × (Int × (Int × (Int × (Int × Unit)))))))))))))))))))))) × Unit)) × (Unit × (((List Int) × Unit) × (((Option Int) × Unit) × (Unit × (Unit × ((Int × Unit) × Unit))))))) : evAt E_head_Parse (tb (L_head_Parse k) (R_head_Parse k)) c_head_Parse 27 (bodyOf Try.f49) 0 (finK E_head_Parse po_head_Parse [.cell 2 31, .tmp 3]) (ptSt sh_head_Parse_27 d) = f_head_Parse_p27 (f_head_Parse_t k) d := by kernel_rfl
theorem q_head_Parse_m (k : Nat) (d : Unit × (((List Int) × Unit) × Unit)) : evCode E_head_Parse (tb (L_head_Parse k) (R_head_Parse k)) c_head_Parse (bodyOf Try.f49) 0 (finK E_head_Parse po_head_Parse [.cell 2 31, .tmp 3]) (startSt pi_head_Parse 99 d) = f_head_Parse_m (f_head_Parse_t k) d := by kernel_rfl
theorem go_head_Parse (F : Unit × (((List Int) × Unit) × Unit) → Option (Unit × ((Int × (Int × (Int × (Int × (Int × (Int × (Int × (Int × (Int × (Int × (Int × (Int × (Int × (Int × (Int × (Int × (Int × (Int × (Int × (Int × (Int × (Int × Unit)))))))))))))))))))))) × (((Option Int) × Unit) × Unit)))) (hF : ∀ d out, F d = some out → ∃ k, f_head_Parse_m (f_head_Parse_t k) d = some out) : FnOk Try.prog ET0 49 pi_head_Parse po_head_Parse F :=
  fn_of_body (E := E_head_Parse) (envOk_fr (envOk_add (envOk_add (envOk_add (envOk_add (envOk_add e0_ok (typed_ok ok_octets_Cut)) (typed_ok ok_stamp_Parse)) (typed_ok ok_stamp_ParseShort)) (typed_ok ok_head_First)) (io_ok ok_head_Head_longs_io))) (fn := Try.f49) Try.func49 (by kernel_rfl) (by kernel_rfl) [.cell 2 31, .tmp 3] (by kernel_rfl) (by kernel_rfl) (by decide) rfl c_head_Parse L_head_Parse R_head_Parse
    (by intro x hx d; simp only [L_head_Parse, List.mem_cons, List.not_mem_nil, or_false] at hx; rcases hx with rfl | rfl; rfl; rfl)
    (by intro k x hx d out h; simp only [L_head_Parse, List.mem_cons, List.not_mem_nil, or_false] at hx; rcases hx with rfl | rfl; exact (q_head_Parse_22 k d).trans h; exact (q_head_Parse_27 k d).trans h)
    (by intro x hx; cases hx)
    (by intro k x hx; cases hx)
    (by intro d out h; obtain ⟨k, hk⟩ := hF d out h; exact ⟨k, (q_head_Parse_m k d).trans hk⟩)
def g_head_Parse (d : Unit × (((List Int) × Unit) × Unit)) : Option (Unit × ((Int × (Int × (Int × (Int × (Int × (Int × (Int × (Int × (Int × (Int × (Int × (Int × (Int × (Int × (Int × (Int × (Int × (Int × (Int × (Int × (Int × (Int × Unit)))))))))))))))))))))) × (((Option Int) × Unit) × Unit))) := lim fun k => f_head_Parse_m (f_head_Parse_t k) d
theorem ok_head_Parse : FnOk Try.prog ET0 49 pi_head_Parse po_head_Parse g_head_Parse := go_head_Parse g_head_Parse fun d out h => lim_some h

/- horologe/horologelaw28.bits -/
@[reducible] def pi_law28_bits : PSh := ⟨[], [.mk true [.v (.int .u32), .v (.int .u32)]]⟩
@[reducible] def po_law28_bits : PSh := ⟨[], [.mk false [.v (.int .u64)]]⟩
def f_law28_bits_m (T : Unit) (d : Unit × ((Int × (Int × Unit)) × Unit)) : Option (Unit × ((Int × Unit) × Unit)) :=
  let x1 : Int := (iconv .u64 d.2.1.1)
  let x2 : Int := (ishl .u64 x1 (32 : Int))
  let x3 : Int := (iconv .u64 d.2.1.2.1)
  let x4 : Int := (ior .u64 x2 x3)
  some ((), ((x4, ()), ()))
def c_law28_bits : List Nat := []
def L_law28_bits (_ : Nat) : Pts po_law28_bits.den := []
def R_law28_bits (_ : Nat) : PtsR po_law28_bits.den := []
def E_law28_bits : Env := E0
theorem q_law28_bits_m (k : Nat) (d : Unit × ((Int × (Int × Unit)) × Unit)) : evCode E_law28_bits (tb (L_law28_bits k) (R_law28_bits k)) c_law28_bits (bodyOf Try.f50) 0 (finK E_law28_bits po_law28_bits [.tmp 2]) (startSt pi_law28_bits 11 d) = f_law28_bits_m () d := by kernel_rfl
def g_law28_bits (d : Unit × ((Int × (Int × Unit)) × Unit)) : Option (Unit × ((Int × Unit) × Unit)) := f_law28_bits_m () d
theorem ok_law28_bits : FnOk Try.prog ET0 50 pi_law28_bits po_law28_bits g_law28_bits :=
  fn_of_body (E := E_law28_bits) e0_ok (fn := Try.f50) Try.func50 (by kernel_rfl) (by kernel_rfl) [.tmp 2] (by kernel_rfl) (by kernel_rfl) (by decide) rfl c_law28_bits L_law28_bits R_law28_bits
    (by intro x hx; cases hx) (by intro k x hx; cases hx) (by intro x hx; cases hx) (by intro k x hx; cases hx) (fun d out h => ⟨0, (q_law28_bits_m 0 d).trans h⟩)

/- horologe/horologelaw28.HeadBack$1 -/
@[reducible] def pi_law28_HeadBack_1 : PSh := ⟨[], [.mk false [.v (.int .u64)]]⟩
@[reducible] def po_law28_HeadBack_1 : PSh := ⟨[], [.mk true [.v (.int .u32), .v (.int .u32)]]⟩
def f_law28_HeadBack_1_m (T : Unit) (d : Unit × ((Int × Unit) × Unit)) : Option (Unit × ((Int × (Int × Unit)) × Unit)) :=
  let x1 : Int := (ishr .u64 d.2.1.1 (32 : Int))
  let x2 : Int := (iconv .u32 x1)
  let x3 : Int := (iconv .u32 d.2.1.1)
  some ((), ((x2, (x3, ())), ()))
def c_law28_HeadBack_1 : List Nat := []
def L_law28_HeadBack_1 (_ : Nat) : Pts po_law28_HeadBack_1.den := []
def R_law28_HeadBack_1 (_ : Nat) : PtsR po_law28_HeadBack_1.den := []
def E_law28_HeadBack_1 : Env := E0
theorem q_law28_HeadBack_1_m (k : Nat) (d : Unit × ((Int × Unit) × Unit)) : evCode E_law28_HeadBack_1 (tb (L_law28_HeadBack_1 k) (R_law28_HeadBack_1 k)) c_law28_HeadBack_1 (bodyOf Try.f51) 0 (finK E_law28_HeadBack_1 po_law28_HeadBack_1 [.cell 2 29]) (startSt pi_law28_HeadBack_1 9 d) = f_law28_HeadBack_1_m () d := by kernel_rfl
def g_law28_HeadBack_1 (d : Unit × ((Int × Unit) × Unit)) : Option (Unit × ((Int × (Int × Unit)) × Unit)) := f_law28_HeadBack_1_m () d
theorem ok_law28_HeadBack_1 : FnOk Try.prog ET0 51 pi_law28_HeadBack_1 po_law28_HeadBack_1 g_law28_HeadBack_1 :=
  fn_of_body (E := E_law28_HeadBack_1) e0_ok (fn := Try.f51) Try.func51 (by kernel_rfl) (by kernel_rfl) [.cell 2 29] (by kernel_rfl) (by kernel_rfl) (by decide) rfl c_law28_HeadBack_1 L_law28_HeadBack_1 R_law28_HeadBack_1
    (by intro x hx; cases hx) (by intro k x hx; cases hx) (by intro x hx; cases hx) (by intro k x hx; cases hx) (fun d out h => ⟨0, (q_law28_HeadBack_1_m 0 d).trans h⟩)

/- horologe/horologelaw28.HeadBack -/
@[reducible] def pi_law28_HeadBack : PSh := ⟨[], [.mk true [.v (.int .i64), .v (.int .i64), .v (.int .i64), .v (.int .u8), .v (.int .i8), .v (.int .i8), .v (.int .u16), .v (.int .u16), .v (.int .u16), .v (.int .u16), .v (.int .u8), .v (.int .u8), .v (.int .u8), .v (.int .u8), .v (.int .u32), .v (.int .u32), .v (.int .u32), .v (.int .u32), .v (.int .u32), .v (.int .u32), .v (.int .u32), .v (.int .u32)], .mk false [.v (.sl (.int .u8))], .mk true [.v (.int .i32), .v (.int .i32), .v (.int .i32)]]⟩
@[reducible] def po_law28_HeadBack : PSh := ⟨[], [.mk false [.v .bool]]⟩
@[reducible] def TT_law28_HeadBack : Type := (((((Int × (Int × (Int × (Int × (Int × (Int × (Int × (Int × (Int × (Int × (Int × (Int × (Int × (Int × (Int × (Int × (Int × (Int × (Int × (Int × (Int × (Int × Unit)))))))))))))))))))))) × ((Int × (Int × (Int × Unit))) × Unit)) × (((List Int) × Unit) × (Unit × (Unit × Unit)))) → Option (Unit × ((Bool × Unit) × Unit))) × (((((Int × (Int × (Int × (Int × (Int × (Int × (Int × (Int × (Int × (Int × (Int × (Int × (Int × (Int × (Int × (Int × (Int × (Int × (Int × (Int × (Int × (Int × Unit)))))))))))))))))))))) × ((Int × (Int × (Int × Unit))) × Unit)) × (Unit × (Unit × Unit))) → Option (Unit × ((Bool × Unit) × Unit))) × Unit))
@[reducible] def sh_law28_HeadBack_7 : PSh := ⟨[.var 31 [.v (.int .i64), .v (.int .i64), .v (.int .i64), .v (.int .u8), .v (.int .i8), .v (.int .i8), .v (.int .u16), .v (.int .u16), .v (.int .u16), .v (.int .u16), .v (.int .u8), .v (.int .u8), .v (.int .u8), .v (.int .u8), .v (.int .u32), .v (.int .u32), .v (.int .u32), .v (.int .u32), .v (.int .u32), .v (.int .u32), .v (.int .u32), .v (.int .u32)], .var 94 [.v (.int .i32), .v (.int .i32), .v (.int .i32)]], [.any, .mk false [.v (.sl (.int .u8))], .any, .mk false [.ref 0 0], .any, .mk false [.ref 1 0], .any, .any, .any, .any, .any, .any, .any, .any, .any, .any, .any, .any, .any, .any, .any, .any, .any, .any, .any, .any, .any, .any, .any, .any, .any, .any, .any, .any, .any, .any, .any, .any, .any, .any, .any, .any, .any, .any, .any, .any, .any, .any, .any, .any, .any, .any, .any, .any, .any, .any, .any, .any, .any, .any, .any, .any, .any, .any, .any, .any, .any, .any, .any, .any, .any, .any, .any, .any, .any, .any, .any, .any, .any, .any, .any, .any, .any, .any, .any, .any, .any, .any, .any, .any, .any, .any, .any, .any, .any, .any, .any, .any, .any, .any, .any, .any, .any, .any, .any, .any, .any, .any, .any, .any, .any, .any, .any, .any, .any, .any, .any, .any, .any, .any, .any, .any, .any, .any, .any, .any, .any, .any, .any, .any, .any]⟩
@[reducible] def sh_law28_HeadBack_13 : PSh := ⟨[.var 31 [.v (.int .i64), .v (.int .i64), .v (.int .i64), .v (.int .u8), .v (.int .i8), .v (.int .i8), .v (.int .u16), .v (.int .u16), .v (.int .u16), .v (.int .u16), .v (.int .u8), .v (.int .u8), .v (.int .u8), .v (.int .u8), .v (.int .u32), .v (.int .u32), .v (.int .u32), .v (.int .u32), .v (.int .u32), .v (.int .u32), .v (.int .u32), .v (.int .u32)], .var 94 [.v (.int .i32), .v (.int .i32), .v (.int .i32)]], [.any, .any, .any, .mk false [.ref 0 0], .any, .mk false [.ref 1 0], .any, .any, .any, .any, .any, .any, .any, .any, .any, .any, .any, .any, .any, .any, .any, .any, .any, .any, .any, .any, .any, .any, .any, .any, .any, .any, .any, .any, .any, .any, .any, .any, .any, .any, .any, .any, .any, .any, .any, .any, .any, .any, .any, .any, .any, .any, .any, .any, .any, .any, .any, .any, .any, .any, .any, .any, .any, .any, .any, .any, .any, .any, .any, .any, .any, .any, .any, .any, .any, .any, .any, .any, .any, .any, .any, .any, .any, .any, .any, .any, .any, .any, .any, .any, .any, .any, .any, .any, .any, .any, .any, .any, .any, .any, .any, .any, .any, .any, .any, .any, .any, .any, .any, .any, .any, .any, .any, .any, .any, .any, .any, .any, .any, .any, .any, .any, .any, .any, .any, .any, .any, .any, .any, .any, .any]⟩
def f_law28_HeadBack_p7 (T : TT_law28_HeadBack) (d : ((Int × (Int × (Int × (Int × (Int × (Int × (Int × (Int × (Int × (Int × (Int × (Int × (Int × (Int × (Int × (Int × (Int × (Int × (Int × (Int × (Int × (Int × Unit)))))))))))))))))))))) × ((Int × (Int × (Int × Unit))) × Unit)) × (((List Int) × Unit) × (Unit × (Unit × Unit)))) : Option (Unit × ((Bool × Unit) × Unit)) :=
  (g_head_Parse ((), ((d.2.1.1, ()), ()))).bind fun x11 =>
  bif x11.2.2.1.1.isNone then (
  (g_head_Put ((), ((x11.2.1.1, (x11.2.1.2.1, (x11.2.1.2.2.1, (x11.2.1.2.2.2.1, (x11.2.1.2.2.2.2.1, (x11.2.1.2.2.2.2.2.1, (x11.2.1.2.2.2.2.2.2.1, (x11.2.1.2.2.2.2.2.2.2.1, (x11.2.1.2.2.2.2.2.2.2.2.1, (x11.2.1.2.2.2.2.2.2.2.2.2.1, (x11.2.1.2.2.2.2.2.2.2.2.2.2.1, (x11.2.1.2.2.2.2.2.2.2.2.2.2.2.1, (x11.2.1.2.2.2.2.2.2.2.2.2.2.2.2.1, (x11.2.1.2.2.2.2.2.2.2.2.2.2.2.2.2.1, (x11.2.1.2.2.2.2.2.2.2.2.2.2.2.2.2.2.1, (x11.2.1.2.2.2.2.2.2.2.2.2.2.2.2.2.2.2.1, (x11.2.1.2.2.2.2.2.2.2.2.2.2.2.2.2.2.2.2.1, (x11.2.1.2.2.2.2.2.2.2.2.2.2.2.2.2.2.2.2.2.1, (x11.2.1.2.2.2.2.2.2.2.2.2.2.2.2.2.2.2.2.2.2.1, (x11.2.1.2.2.2.2.2.2.2.2.2.2.2.2.2.2.2.2.2.2.2.1, (x11.2.1.2.2.2.2.2.2.2.2.2.2.2.2.2.2.2.2.2.2.2.2.1, (x11.2.1.2.2.2.2.2.2.2.2.2.2.2.2.2.2.2.2.2.2.2.2.2.1, ())))))))))))))))))))))), ()))).bind fun x12 =>
  let x13 : Bool := (!x12.2.2.1.1.isNone)
  bif x13 then (
  some ((), ((false, ()), ())))
  else (
  bif decide ((0 : Int) ≤ (0 : Int)) && decide ((48 : Int) ≤ (d.2.1.1.length : Int)) then (
  let x14 : (List Int) := (List.drop (Int.toNat (0 : Int)) (List.take (Int.toNat (48 : Int)) d.2.1.1))
  (g_hnum_Bytes ((), ((x12.1.1, ()), ((x14, ()), ())))).bind fun x15 =>
  let x16 : Bool := (!x15.2.1.1)
  bif x16 then (
  some ((), ((false, ()), ())))
  else (
  (T.2.1 (((d.1.1.1, (d.1.1.2.1, (d.1.1.2.2.1, (d.1.1.2.2.2.1, (d.1.1.2.2.2.2.1, (d.1.1.2.2.2.2.2.1, (d.1.1.2.2.2.2.2.2.1, (d.1.1.2.2.2.2.2.2.2.1, (d.1.1.2.2.2.2.2.2.2.2.1, (d.1.1.2.2.2.2.2.2.2.2.2.1, (d.1.1.2.2.2.2.2.2.2.2.2.2.1, (d.1.1.2.2.2.2.2.2.2.2.2.2.2.1, (d.1.1.2.2.2.2.2.2.2.2.2.2.2.2.1, (d.1.1.2.2.2.2.2.2.2.2.2.2.2.2.2.1, (d.1.1.2.2.2.2.2.2.2.2.2.2.2.2.2.2.1, (d.1.1.2.2.2.2.2.2.2.2.2.2.2.2.2.2.2.1, (d.1.1.2.2.2.2.2.2.2.2.2.2.2.2.2.2.2.2.1, (d.1.1.2.2.2.2.2.2.2.2.2.2.2.2.2.2.2.2.2.1, (d.1.1.2.2.2.2.2.2.2.2.2.2.2.2.2.2.2.2.2.2.1, (d.1.1.2.2.2.2.2.2.2.2.2.2.2.2.2.2.2.2.2.2.2.1, (d.1.1.2.2.2.2.2.2.2.2.2.2.2.2.2.2.2.2.2.2.2.2.1, (d.1.1.2.2.2.2.2.2.2.2.2.2.2.2.2.2.2.2.2.2.2.2.2.1, ())))))))))))))))))))))), ((d.1.2.1.1, (d.1.2.1.2.1, (d.1.2.1.2.2.1, ()))), ())), ((), ((), ()))))))
  else none))
  else (
  (T.2.1 (((d.1.1.1, (d.1.1.2.1, (d.1.1.2.2.1, (d.1.1.2.2.2.1, (d.1.1.2.2.2.2.1, (d.1.1.2.2.2.2.2.1, (d.1.1.2.2.2.2.2.2.1, (d.1.1.2.2.2.2.2.2.2.1, (d.1.1.2.2.2.2.2.2.2.2.1, (d.1.1.2.2.2.2.2.2.2.2.2.1, (d.1.1.2.2.2.2.2.2.2.2.2.2.1, (d.1.1.2.2.2.2.2.2.2.2.2.2.2.1, (d.1.1.2.2.2.2.2.2.2.2.2.2.2.2.1, (d.1.1.2.2.2.2.2.2.2.2.2.2.2.2.2.1, (d.1.1.2.2.2.2.2.2.2.2.2.2.2.2.2.2.1, (d.1.1.2.2.2.2.2.2.2.2.2.2.2.2.2.2.2.1, (d.1.1.2.2.2.2.2.2.2.2.2.2.2.2.2.2.2.2.1, (d.1.1.2.2.2.2.2.2.2.2.2.2.2.2.2.2.2.2.2.1, (d.1.1.2.2.2.2.2.2.2.2.2.2.2.2.2.2.2.2.2.2.1, (d.1.1.2.2.2.2.2.2.2.2.2.2.2.2.2.2.2.2.2.2.2.1, (d.1.1.2.2.2.2.2.2.2.2.2.2.2.2.2.2.2.2.2.2.2.2.1, (d.1.1.2.2.2.2.2.2.2.2.2.2.2.2.2.2.2.2.2.2.2.2.2.1, ())))))))))))))))))))))), ((d.1.2.1.1, (d.1.2.1.2.1, (d.1.2.1.2.2.1, ()))), ())), ((), ((), ())))))
def f_law28_HeadBack_p13 (T : TT_law28_HeadBack) (d : ((Int × (Int × (Int × (Int × (Int × (Int × (Int × (Int × (Int × (Int × (Int × (Int × (Int × (Int × (Int × (Int × (Int × (Int × (Int × (Int × (Int × (Int × Unit)))))))))))))))))))))) × ((Int × (Int × (Int × Unit))) × Unit)) × (Unit × (Unit × Unit))) : Option (Unit × ((Bool × Unit) × Unit)) :=
  let x17 : Int := (iconv .i64 d.1.2.1.1)
  let x18 : Int := (iconv .u64 x17)
  let x19 : Int := (iconv .u32 d.1.2.1.2.1)
  let x20 : Int := (iconv .u64 x19)
  let x21 : Int := (iconv .u32 d.1.2.1.2.2.1)
  let x22 : Int := (iconv .u64 x21)
  (g_law28_bits ((), ((d.1.1.2.2.2.2.2.2.2.2.2.2.2.2.2.2.2.2.1, (d.1.1.2.2.2.2.2.2.2.2.2.2.2.2.2.2.2.2.2.1, ())), ()))).bind fun x23 =>
  let x24 : Int := (iadd .u64 x23.2.1.1 x20)
  let x25 : Int := (iadd .u64 x24 x18)
  (g_law28_HeadBack_1 ((), ((x25, ()), ()))).bind fun x26 =>
  let x27 : Int := (iadd .u64 x23.2.1.1 x20)
  let x28 : Int := (iadd .u64 x27 x22)
  let x29 : Int := (iadd .u64 x28 x18)
  (g_law28_HeadBack_1 ((), ((x29, ()), ()))).bind fun x30 =>
  let x31 : Int := (iadd .u64 x23.2.1.1 x20)
  let x32 : Int := (iadd .u64 x31 x22)
  let x33 : Int := (iadd .u64 x32 x20)
  (g_law28_HeadBack_1 ((), ((x33, ()), ()))).bind fun x34 =>
  (g_head_Round ((), ((d.1.1.1, (d.1.1.2.1, (d.1.1.2.2.1, (d.1.1.2.2.2.1, (d.1.1.2.2.2.2.1, (d.1.1.2.2.2.2.2.1, (d.1.1.2.2.2.2.2.2.1, (d.1.1.2.2.2.2.2.2.2.1, (d.1.1.2.2.2.2.2.2.2.2.1, (d.1.1.2.2.2.2.2.2.2.2.2.1, (d.1.1.2.2.2.2.2.2.2.2.2.2.1, (d.1.1.2.2.2.2.2.2.2.2.2.2.2.1, (d.1.1.2.2.2.2.2.2.2.2.2.2.2.2.1, (d.1.1.2.2.2.2.2.2.2.2.2.2.2.2.2.1, (d.1.1.2.2.2.2.2.2.2.2.2.2.2.2.2.2.1, (d.1.1.2.2.2.2.2.2.2.2.2.2.2.2.2.2.2.1, (d.1.1.2.2.2.2.2.2.2.2.2.2.2.2.2.2.2.2.1, (d.1.1.2.2.2.2.2.2.2.2.2.2.2.2.2.2.2.2.2.1, (x26.2.1.1, (x26.2.1.2.1, (x30.2.1.1, (x30.2.1.2.1, ())))))))))))))))))))))), ((x34.2.1.1, (x34.2.1.2.1, ())), ())))).bind fun x35 =>
  let x36 : Int := (iconv .i64 d.1.2.1.1)
  let x37 : Bool := (x35.2.1.1 == x36)
  bif x37 then (
  let x38 : Int := (iconv .i64 x20)
  let x39 : Int := (imul .i64 (2 : Int) x38)
  let x40 : Bool := (x35.2.2.1.1 == x39)
  some ((), ((x40, ()), ())))
  else (
  some ((), ((false, ()), ())))
def f_law28_HeadBack_t : Nat → TT_law28_HeadBack
  | 0 => (fun _ => none, (fun _ => none, ()))
  | k + 1 => (f_law28_HeadBack_p7 (f_law28_HeadBack_t k), (f_law28_HeadBack_p13 (f_law28_HeadBack_t k), ()))
theorem t_law28_HeadBack (k : Nat) : f_law28_HeadBack_t (k + 1) = (f_law28_HeadBack_p7 (f_law28_HeadBack_t k), (f_law28_HeadBack_p13 (f_law28_HeadBack_t k), ())) := rfl
def f_law28_HeadBack_m (T : TT_law28_HeadBack) (d : Unit × ((Int × (Int × (Int × (Int × (Int × (Int × (Int × (Int × (Int × (Int × (Int × (Int × (Int × (Int × (Int × (Int × (Int × (Int × (Int × (Int × (Int × (Int × Unit)))))))))))))))))))))) × (((List Int) × Unit) × ((Int × (Int × (Int × Unit))) × Unit)))) : Option (Unit × ((Bool × Unit) × Unit)) :=
  (g_law28_alive ((), ())).bind fun x1 =>
  let x2 : Bool := (!x1.2.1.1)
  bif x2 then (
  some ((), ((false, ()), ())))
  else (
  let x3 : Int := (d.2.2.1.1.length : Int)
  let x4 : Bool := (decide (x3 > (300 : Int)))
  bif x4 then (
  some ((), ((true, ()), ())))
  else (
  (g_head_Put ((), ((d.2.1.1, (d.2.1.2.1, (d.2.1.2.2.1, (d.2.1.2.2.2.1, (d.2.1.2.2.2.2.1, (d.2.1.2.2.2.2.2.1, (d.2.1.2.2.2.2.2.2.1, (d.2.1.2.2.2.2.2.2.2.1, (d.2.1.2.2.2.2.2.2.2.2.1, (d.2.1.2.2.2.2.2.2.2.2.2.1, (d.2.1.2.2.2.2.2.2.2.2.2.2.1, (d.2.1.2.2.2.2.2.2.2.2.2.2.2.1, (d.2.1.2.2.2.2.2.2.2.2.2.2.2.2.1, (d.2.1.2.2.2.2.2.2.2.2.2.2.2.2.2.1, (d.2.1.2.2.2.2.2.2.2.2.2.2.2.2.2.2.1, (d.2.1.2.2.2.2.2.2.2.2.2.2.2.2.2.2.2.1, (d.2.1.2.2.2.2.2.2.2.2.2.2.2.2.2.2.2.2.1, (d.2.1.2.2.2.2.2.2.2.2.2.2.2.2.2.2.2.2.2.1, (d.2.1.2.2.2.2.2.2.2.2.2.2.2.2.2.2.2.2.2.2.1, (d.2.1.2.2.2.2.2.2.2.2.2.2.2.2.2.2.2.2.2.2.2.1, (d.2.1.2.2.2.2.2.2.2.2.2.2.2.2.2.2.2.2.2.2.2.2.1, (d.2.1.2.2.2.2.2.2.2.2.2.2.2.2.2.2.2.2.2.2.2.2.2.1, ())))))))))))))))))))))), ()))).bind fun x5 =>
  bif x5.2.2.1.1.isNone then (
  (g_head_Parse ((), ((x5.1.1, ()), ()))).bind fun x6 =>
  let x7 : Bool := (!x6.2.2.1.1.isNone)
  bif x7 then (
  some ((), ((false, ()), ())))
  else (
  let x8 : Bool := (!((x6.2.1.1 == d.2.1.1) && ((x6.2.1.2.1 == d.2.1.2.1) && ((x6.2.1.2.2.1 == d.2.1.2.2.1) && ((x6.2.1.2.2.2.1 == d.2.1.2.2.2.1) && ((x6.2.1.2.2.2.2.1 == d.2.1.2.2.2.2.1) && ((x6.2.1.2.2.2.2.2.1 == d.2.1.2.2.2.2.2.1) && ((x6.2.1.2.2.2.2.2.2.1 == d.2.1.2.2.2.2.2.2.1) && ((x6.2.1.2.2.2.2.2.2.2.1 == d.2.1.2.2.2.2.2.2.2.1) && ((x6.2.1.2.2.2.2.2.2.2.2.1 == d.2.1.2.2.2.2.2.2.2.2.1) && ((x6.2.1.2.2.2.2.2.2.2.2.2.1 == d.2.1.2.2.2.2.2.2.2.2.2.1) && ((x6.2.1.2.2.2.2.2.2.2.2.2.2.1 == d.2.1.2.2.2.2.2.2.2.2.2.2.1) && ((x6.2.1.2.2.2.2.2.2.2.2.2.2.2.1 == d.2.1.2.2.2.2.2.2.2.2.2.2.2.1) && ((x6.2.1.2.2.2.2.2.2.2.2.2.2.2.2.1 == d.2.1.2.2.2.2.2.2.2.2.2.2.2.2.1) && ((x6.2.1.2.2.2.2.2.2.2.2.2.2.2.2.2.1 == d.2.1.2.2.2.2.2.2.2.2.2.2.2.2.2.1) && ((x6.2.1.2.2.2.2.2.2.2.2.2.2.2.2.2.2.1 == d.2.1.2.2.2.2.2.2.2.2.2.2.2.2.2.2.1) && ((x6.2.1.2.2.2.2.2.2.2.2.2.2.2.2.2.2.2.1 == d.2.1.2.2.2.2.2.2.2.2.2.2.2.2.2.2.2.1) && ((x6.2.1.2.2.2.2.2.2.2.2.2.2.2.2.2.2.2.2.1 == d.2.1.2.2.2.2.2.2.2.2.2.2.2.2.2.2.2.2.1) && ((x6.2.1.2.2.2.2.2.2.2.2.2.2.2.2.2.2.2.2.2.1 == d.2.1.2.2.2.2.2.2.2.2.2.2.2.2.2.2.2.2.2.1) && ((x6.2.1.2.2.2.2.2.2.2.2.2.2.2.2.2.2.2.2.2.2.1 == d.2.1.2.2.2.2.2.2.2.2.2.2.2.2.2.2.2.2.2.2.1) && ((x6.2.1.2.2.2.2.2.2.2.2.2.2.2.2.2.2.2.2.2.2.2.1 == d.2.1.2.2.2.2.2.2.2.2.2.2.2.2.2.2.2.2.2.2.2.1) && ((x6.2.1.2.2.2.2.2.2.2.2.2.2.2.2.2.2.2.2.2.2.2.2.1 == d.2.1.2.2.2.2.2.2.2.2.2.2.2.2.2.2.2.2.2.2.2.2.1) && ((x6.2.1.2.2.2.2.2.2.2.2.2.2.2.2.2.2.2.2.2.2.2.2.2.1 == d.2.1.2.2.2.2.2.2.2.2.2.2.2.2.2.2.2.2.2.2.2.2.2.1) && true)))))))))))))))))))))))
  bif x8 then (
  some ((), ((false, ()), ())))
  else (
  let x9 : Int := (x5.1.1.length : Int)
  let x10 : Bool := (x9 != (48 : Int))
  bif x10 then (
  some ((), ((false, ()), ())))
  else (
  (T.1 (((d.2.1.1, (d.2.1.2.1, (d.2.1.2.2.1, (d.2.1.2.2.2.1, (d.2.1.2.2.2.2.1, (d.2.1.2.2.2.2.2.1, (d.2.1.2.2.2.2.2.2.1, (d.2.1.2.2.2.2.2.2.2.1, (d.2.1.2.2.2.2.2.2.2.2.1, (d.2.1.2.2.2.2.2.2.2.2.2.1, (d.2.1.2.2.2.2.2.2.2.2.2.2.1, (d.2.1.2.2.2.2.2.2.2.2.2.2.2.1, (d.2.1.2.2.2.2.2.2.2.2.2.2.2.2.1, (d.2.1.2.2.2.2.2.2.2.2.2.2.2.2.2.1, (d.2.1.2.2.2.2.2.2.2.2.2.2.2.2.2.2.1, (d.2.1.2.2.2.2.2.2.2.2.2.2.2.2.2.2.2.1, (d.2.1.2.2.2.2.2.2.2.2.2.2.2.2.2.2.2.2.1, (d.2.1.2.2.2.2.2.2.2.2.2.2.2.2.2.2.2.2.2.1, (d.2.1.2.2.2.2.2.2.2.2.2.2.2.2.2.2.2.2.2.2.1, (d.2.1.2.2.2.2.2.2.2.2.2.2.2.2.2.2.2.2.2.2.2.1, (d.2.1.2.2.2.2.2.2.2.2.2.2.2.2.2.2.2.2.2.2.2.2.1, (d.2.1.2.2.2.2.2.2.2.2.2.2.2.2.2.2.2.2.2.2.2.2.2.1, ())))))))))))))))))))))), ((d.2.2.2.1.1, (d.2.2.2.1.2.1, (d.2.2.2.1.2.2.1, ()))), ())), ((d.2.2.1.1, ()), ((), ((), ())))))))))
  else (
  (T.1 (((d.2.1.1, (d.2.1.2.1, (d.2.1.2.2.1, (d.2.1.2.2.2.1, (d.2.1.2.2.2.2.1, (d.2.1.2.2.2.2.2.1, (d.2.1.2.2.2.2.2.2.1, (d.2.1.2.2.2.2.2.2.2.1, (d.2.1.2.2.2.2.2.2.2.2.1, (d.2.1.2.2.2.2.2.2.2.2.2.1, (d.2.1.2.2.2.2.2.2.2.2.2.2.1, (d.2.1.2.2.2.2.2.2.2.2.2.2.2.1, (d.2.1.2.2.2.2.2.2.2.2.2.2.2.2.1, (d.2.1.2.2.2.2.2.2.2.2.2.2.2.2.2.1, (d.2.1.2.2.2.2.2.2.2.2.2.2.2.2.2.2.1, (d.2.1.2.2.2.2.2.2.2.2.2.2.2.2.2.2.2.1, (d.2.1.2.2.2.2.2.2.2.2.2.2.2.2.2.2.2.2.1, (d.2.1.2.2.2.2.2.2.2.2.2.2.2.2.2.2.2.2.2.1, (d.2.1.2.2.2.2.2.2.2.2.2.2.2.2.2.2.2.2.2.2.1, (d.2.1.2.2.2.2.2.2.2.2.2.2.2.2.2.2.2.2.2.2.2.1, (d.2.1.2.2.2.2.2.2.2.2.2.2.2.2.2.2.2.2.2.2.2.2.1, (d.2.1.2.2.2.2.2.2.2.2.2.2.2.2.2.2.2.2.2.2.2.2.2.1, ())))))))))))))))))))))), ((d.2.2.2.1.1, (d.2.2.2.1.2.1, (d.2.2.2.1.2.2.1, ()))), ())), ((d.2.2.1.1, ()), ((), ((), ()))))))))
def c_law28_HeadBack : List Nat := [7, 13]
def L_law28_HeadBack (k : Nat) : Pts po_law28_HeadBack.den := [(7, ⟨sh_law28_HeadBack_7, (f_law28_HeadBack_t k).1⟩), (13, ⟨sh_law28_HeadBack_13, (f_law28_HeadBack_t k).2.1⟩)]
def R_law28_HeadBack (_ : Nat) : PtsR po_law28_HeadBack.den := []
def E_law28_HeadBack : Env := (((((((E0.add 11 (typedSem pi_law28_alive po_law28_alive g_law28_alive)).add 12 (typedSem pi_head_Put po_head_Put g_head_Put)).add 17 (typedSem pi_hnum_Bytes po_hnum_Bytes g_hnum_Bytes)).add 27 (typedSem pi_head_Round po_head_Round g_head_Round)).add 49 (typedSem pi_head_Parse po_head_Parse g_head_Parse)).add 50 (typedSem pi_law28_bits po_law28_bits g_law28_bits)).add 51 (typedSem pi_law28_HeadBack_1 po_law28_HeadBack_1 g_law28_HeadBack_1))
theorem q_law28_HeadBack_7 (k : Nat) (d : ((Int × (Int × (Int × (Int × (Int × (Int × (Int × (Int × (Int × (Int × (Int × (Int × (Int × (Int × (Int × (Int × (Int × (Int × (Int × (Int × (Int × (Int × Unit)))))))))))))))))))))) × ((Int × (Int × (Int × Unit))) × Unit)) × (((List Int) × Unit) × (Unit × (Unit × Unit)))) : evAt E_law28_HeadBack (tb (L_law28_HeadBack k) (R_law28_HeadBack k)) c_law28_HeadBack 7 (bodyOf Try.f9) 0 (finK E_law28_HeadBack po_law28_HeadBack [.tmp 6]) (ptSt sh_law28_HeadBack_7 d) = f_law28_HeadBack_p7 (f_law28_HeadBack_t k) d := by kernel_rfl
theorem q_law28_HeadBack_13 (k : Nat) (d : ((Int × (Int × (Int × (Int × (Int × (Int × (Int × (Int × (Int × (Int × (Int × (Int × (Int × (Int × (Int × (Int × (Int × (Int × (Int × (Int × (Int × (Int × Unit)))))))))))))))))))))) × ((Int × (Int × (Int × Unit))) × Unit)) × (Unit × (Unit × Unit))) : evAt E_law28_HeadBack (tb (L_law28_HeadBack k) (R_law28_HeadBack k)) c_law28_HeadBack 13 (bodyOf Try.f9) 0 (finK E_law28_HeadBack po_law28_HeadBack [.tmp 6]) (ptSt sh_law28_HeadBack_13 d) = f_law28_HeadBack_p13 (f_law28_HeadBack_t k) d := by kernel_rfl
theorem q_law28_HeadBack_m (k : Nat) (d : Unit × ((Int × (Int × (Int × (Int × (Int × (Int × (Int × (Int × (Int × (Int × (Int × (Int × (Int × (Int × (Int × (Int × (Int × (Int × (Int × (Int × (Int × (Int × Unit)))))))))))))))))))))) × (((List Int) × Unit) × ((Int × (Int × (Int × Unit))) × Unit)))) : evCode E_law28_HeadBack (tb (L_law28_HeadBack k) (R_law28_HeadBack k)) c_law28_HeadBack (bodyOf Try.f9) 0 (finK E_law28_HeadBack po_law28_HeadBack [.tmp 6]) (startSt pi_law28_HeadBack 131 d) = f_law28_HeadBack_m (f_law28_HeadBack_t k) d := by kernel_rfl
theorem go_law28_HeadBack (F : Unit × ((Int × (Int × (Int × (Int × (Int × (Int × (Int × (Int × (Int × (Int × (Int × (Int × (Int × (Int × (Int × (Int × (Int × (Int × (Int × (Int × (Int × (Int × Unit)))))))))))))))))))))) × (((List Int) × Unit) × ((Int × (Int × (Int × Unit))) × Unit))) → Option (Unit × ((Bool × Unit) × Unit))) (hF : ∀ d out, F d = some out → ∃ k, f_law28_HeadBack_m (f_law28_HeadBack_t k) d = some out) : FnOk Try.prog ET0 9 pi_law28_HeadBack po_law28_HeadBack F :=
  fn_of_body (E := E_law28_HeadBack) (envOk_add (envOk_add (envOk_add (envOk_add (envOk_add (envOk_add (envOk_add e0_ok (typed_ok ok_law28_alive)) (typed_ok ok_head_Put)) (typed_ok ok_hnum_Bytes)) (typed_ok ok_head_Round)) (typed_ok ok_head_Parse)) (typed_ok ok_law28_bits)) (typed_ok ok_law28_HeadBack_1)) (fn := Try.f9) Try.func9 (by kernel_rfl) (by kernel_rfl) [.tmp 6] (by kernel_rfl) (by kernel_rfl) (by decide) rfl c_law28_HeadBack L_law28_HeadBack R_law28_HeadBack
    (by intro x hx d; simp only [L_law28_HeadBack, List.mem_cons, List.not_mem_nil, or_false] at hx; rcases hx with rfl | rfl; rfl; rfl)
    (by intro k x hx d out h; simp only [L_law28_HeadBack, List.mem_cons, List.not_mem_nil, or_false] at hx; rcases hx with rfl | rfl; exact (q_law28_HeadBack_7 k d).trans h; exact (q_law28_HeadBack_13 k d).trans h)
    (by intro x hx; cases hx)
    (by intro k x hx; cases hx)
    (by intro d out h; obtain ⟨k, hk⟩ := hF d out h; exact ⟨k, (q_law28_HeadBack_m k d).trans hk⟩)
def g_law28_HeadBack (d : Unit × ((Int × (Int × (Int × (Int × (Int × (Int × (Int × (Int × (Int × (Int × (Int × (Int × (Int × (Int × (Int × (Int × (Int × (Int × (Int × (Int × (Int × (Int × Unit)))))))))))))))))))))) × (((List Int) × Unit) × ((Int × (Int × (Int × Unit))) × Unit)))) : Option (Unit × ((Bool × Unit) × Unit)) := lim fun k => f_law28_HeadBack_m (f_law28_HeadBack_t k) d
theorem ok_law28_HeadBack : FnOk Try.prog ET0 9 pi_law28_HeadBack po_law28_HeadBack g_law28_HeadBack := go_law28_HeadBack g_law28_HeadBack fun d out h => lim_some h

/- horologe/horologelaw28.short -/
@[reducible] def pi_law28_short : PSh := ⟨[], [.mk true [.v (.int .u16), .v (.int .u16)]]⟩
@[reducible] def po_law28_short : PSh := ⟨[], [.mk false [.v (.int .u64)]]⟩
def f_law28_short_m (T : Unit) (d : Unit × ((Int × (Int × Unit)) × Unit)) : Option (Unit × ((Int × Unit) × Unit)) :=
  let x1 : Int := (iconv .u64 d.2.1.1)
  let x2 : Int := (ishl .u64 x1 (16 : Int))
  let x3 : Int := (iconv .u64 d.2.1.2.1)
  let x4 : Int := (ior .u64 x2 x3)
  some ((), ((x4, ()), ()))
def c_law28_short : List Nat := []
def L_law28_short (_ : Nat) : Pts po_law28_short.den := []
def R_law28_short (_ : Nat) : PtsR po_law28_short.den := []
def E_law28_short : Env := E0
theorem q_law28_short_m (k : Nat) (d : Unit × ((Int × (Int × Unit)) × Unit)) : evCode E_law28_short (tb (L_law28_short k) (R_law28_short k)) c_law28_short (bodyOf Try.f57) 0 (finK E_law28_short po_law28_short [.tmp 2]) (startSt pi_law28_short 11 d) = f_law28_short_m () d := by kernel_rfl
def g_law28_short (d : Unit × ((Int × (Int × Unit)) × Unit)) : Option (Unit × ((Int × Unit) × Unit)) := f_law28_short_m () d
theorem ok_law28_short : FnOk Try.prog ET0 57 pi_law28_short po_law28_short g_law28_short :=
  fn_of_body (E := E_law28_short) e0_ok (fn := Try.f57) Try.func57 (by kernel_rfl) (by kernel_rfl) [.tmp 2] (by kernel_rfl) (by kernel_rfl) (by decide) rfl c_law28_short L_law28_short R_law28_short
    (by intro x hx; cases hx) (by intro k x hx; cases hx) (by intro x hx; cases hx) (by intro k x hx; cases hx) (fun d out h => ⟨0, (q_law28_short_m 0 d).trans h⟩)

/- horologe/horologelaw28.Document -/
@[reducible] def pi_law28_Document : PSh := ⟨[], [.mk true [.v (.int .i64), .v (.int .i64), .v (.int .i64), .v (.int .u8), .v (.int .i8), .v (.int .i8), .v (.int .u16), .v (.int .u16), .v (.int .u16), .v (.int .u16), .v (.int .u8), .v (.int .u8), .v (.int .u8), .v (.int .u8), .v (.int .u32), .v (.int .u32), .v (.int .u32), .v (.int .u32), .v (.int .u32), .v (.int .u32), .v (.int .u32), .v (.int .u32)]]⟩
@[reducible] def po_law28_Document : PSh := ⟨[], [.mk true [.v (.int .i64), .v (.int .i64), .v (.int .i64), .v (.int .i64), .v (.int .i64), .v (.int .i64), .v (.int .u64), .v (.int .u64), .v (.int .u8), .v (.int .u8), .v (.int .u8), .v (.int .u8), .v (.int .u64), .v (.int .u64), .v (.int .u64), .v (.int .u64)]]⟩
def f_law28_Document_m (T : Unit) (d : Unit × ((Int × (Int × (Int × (Int × (Int × (Int × (Int × (Int × (Int × (Int × (Int × (Int × (Int × (Int × (Int × (Int × (Int × (Int × (Int × (Int × (Int × (Int × Unit)))))))))))))))))))))) × Unit)) : Option (Unit × ((Int × (Int × (Int × (Int × (Int × (Int × (Int × (Int × (Int × (Int × (Int × (Int × (Int × (Int × (Int × (Int × Unit)))))))))))))))) × Unit)) :=
  let x1 : Int := (iconv .i64 d.2.1.2.2.2.1)
  let x2 : Int := (iconv .i64 d.2.1.2.2.2.2.1)
  let x3 : Int := (iconv .i64 d.2.1.2.2.2.2.2.1)
  (g_law28_short ((), ((d.2.1.2.2.2.2.2.2.1, (d.2.1.2.2.2.2.2.2.2.1, ())), ()))).bind fun x4 =>
  (g_law28_short ((), ((d.2.1.2.2.2.2.2.2.2.2.1, (d.2.1.2.2.2.2.2.2.2.2.2.1, ())), ()))).bind fun x5 =>
  (g_law28_bits ((), ((d.2.1.2.2.2.2.2.2.2.2.2.2.2.2.2.2.1, (d.2.1.2.2.2.2.2.2.2.2.2.2.2.2.2.2.2.1, ())), ()))).bind fun x6 =>
  (g_law28_bits ((), ((d.2.1.2.2.2.2.2.2.2.2.2.2.2.2.2.2.2.2.1, (d.2.1.2.2.2.2.2.2.2.2.2.2.2.2.2.2.2.2.2.1, ())), ()))).bind fun x7 =>
  (g_law28_bits ((), ((d.2.1.2.2.2.2.2.2.2.2.2.2.2.2.2.2.2.2.2.2.1, (d.2.1.2.2.2.2.2.2.2.2.2.2.2.2.2.2.2.2.2.2.2.1, ())), ()))).bind fun x8 =>
  (g_law28_bits ((), ((d.2.1.2.2.2.2.2.2.2.2.2.2.2.2.2.2.2.2.2.2.2.2.1, (d.2.1.2.2.2.2.2.2.2.2.2.2.2.2.2.2.2.2.2.2.2.2.2.1, ())), ()))).bind fun x9 =>
  some ((), ((d.2.1.1, (d.2.1.2.1, (d.2.1.2.2.1, (x1, (x2, (x3, (x4.2.1.1, (x5.2.1.1, (d.2.1.2.2.2.2.2.2.2.2.2.2.1, (d.2.1.2.2.2.2.2.2.2.2.2.2.2.1, (d.2.1.2.2.2.2.2.2.2.2.2.2.2.2.1, (d.2.1.2.2.2.2.2.2.2.2.2.2.2.2.2.1, (x6.2.1.1, (x7.2.1.1, (x8.2.1.1, (x9.2.1.1, ())))))))))))))))), ()))
def c_law28_Document : List Nat := []
def L_law28_Document (_ : Nat) : Pts po_law28_Document.den := []
def R_law28_Document (_ : Nat) : PtsR po_law28_Document.den := []
def E_law28_Document : Env := ((E0.add 50 (typedSem pi_law28_bits po_law28_bits g_law28_bits)).add 57 (typedSem pi_law28_short po_law28_short g_law28_short))
theorem q_law28_Document_m (k : Nat) (d : Unit × ((Int × (Int × (Int × (Int × (Int × (Int × (Int × (Int × (Int × (Int × (Int × (Int × (Int × (Int × (Int × (Int × (Int × (Int × (Int × (Int × (Int × (Int × Unit)))))))))))))))))))))) × Unit)) : evCode E_law28_Document (tb (L_law28_Document k) (R_law28_Document k)) c_law28_Document (bodyOf Try.f14) 0 (finK E_law28_Document po_law28_Document [.cell 2 41]) (startSt pi_law28_Document 39 d) = f_law28_Document_m () d := by kernel_rfl
def g_law28_Document (d : Unit × ((Int × (Int × (Int × (Int × (Int × (Int × (Int × (Int × (Int × (Int × (Int × (Int × (Int × (Int × (Int × (Int × (Int × (Int × (Int × (Int × (Int × (Int × Unit)))))))))))))))))))))) × Unit)) : Option (Unit × ((Int × (Int × (Int × (Int × (Int × (Int × (Int × (Int × (Int × (Int × (Int × (Int × (Int × (Int × (Int × (Int × Unit)))))))))))))))) × Unit)) := f_law28_Document_m () d
theorem ok_law28_Document : FnOk Try.prog ET0 14 pi_law28_Document po_law28_Document g_law28_Document :=
  fn_of_body (E := E_law28_Document) (envOk_add (envOk_add e0_ok (typed_ok ok_law28_bits)) (typed_ok ok_law28_short)) (fn := Try.f14) Try.func14 (by kernel_rfl) (by kernel_rfl) [.cell 2 41] (by kernel_rfl) (by kernel_rfl) (by decide) rfl c_law28_Document L_law28_Document R_law28_Document
    (by intro x hx; cases hx) (by intro k x hx; cases hx) (by intro x hx; cases hx) (by intro k x hx; cases hx) (fun d out h => ⟨0, (q_law28_Document_m 0 d).trans h⟩)

/- horologe/horologenum.Num -/
@[reducible] def pi_hnum_Num : PSh := ⟨[], [.mk false [.v .err]]⟩
@[reducible] def po_hnum_Num : PSh := ⟨[], [.mk false [.v (.int .i64)]]⟩
def f_hnum_Num_m (T : Unit) (d : Unit × (((Option Int) × Unit) × Unit)) : Option (Unit × ((Int × Unit) × Unit)) :=
  bif d.2.1.1.isNone then (
  some ((), (((0 : Int), ()), ())))
  else (
  bif d.2.1.1.isSome then (
  let x1 : Bool := ((d.2.1.1.getD 0) != (0 : Int))
  bif x1 then (
  some ((), (((d.2.1.1.getD 0), ()), ())))
  else (
  some ((), (((-1 : Int), ()), ()))))
  else (
  some ((), (((-1 : Int), ()), ()))))
def c_hnum_Num : List Nat := []
def L_hnum_Num (_ : Nat) : Pts po_hnum_Num.den := []
def R_hnum_Num (_ : Nat) : PtsR po_hnum_Num.den := []
def E_hnum_Num : Env := E0
theorem q_hnum_Num_m (k : Nat) (d : Unit × (((Option Int) × Unit) × Unit)) : evCode E_hnum_Num (tb (L_hnum_Num k) (R_hnum_Num k)) c_hnum_Num (bodyOf Try.f15) 0 (finK E_hnum_Num po_hnum_Num [.tmp 2]) (startSt pi_hnum_Num 18 d) = f_hnum_Num_m () d := by kernel_rfl
def g_hnum_Num (d : Unit × (((Option Int) × Unit) × Unit)) : Option (Unit × ((Int × Unit) × Unit)) := f_hnum_Num_m () d
theorem ok_hnum_Num : FnOk Try.prog ET0 15 pi_hnum_Num po_hnum_Num g_hnum_Num :=
  fn_of_body (E := E_hnum_Num) e0_ok (fn := Try.f15) Try.func15 (by kernel_rfl) (by kernel_rfl) [.tmp 2] (by kernel_rfl) (by kernel_rfl) (by decide) rfl c_hnum_Num L_hnum_Num R_hnum_Num
    (by intro x hx; cases hx) (by intro k x hx; cases hx) (by intro x hx; cases hx) (by intro k x hx; cases hx) (fun d out h => ⟨0, (q_hnum_Num_m 0 d).trans h⟩)

/- horologe/horologenum.Is -/
@[reducible] def pi_hnum_Is : PSh := ⟨[], [.mk false [.v .err], .mk false [.v (.int .i64)]]⟩
@[reducible] def po_hnum_Is : PSh := ⟨[], [.mk false [.v .bool]]⟩
def f_hnum_Is_m (T : Unit) (d : Unit × (((Option Int) × Unit) × ((Int × Unit) × Unit))) : Option (Unit × ((Bool × Unit) × Unit)) :=
  (g_hnum_Num ((), ((d.2.1.1, ()), ()))).bind fun x1 =>
  let x2 : Bool := (x1.2.1.1 == d.2.2.1.1)
  some ((), ((x2, ()), ()))
def c_hnum_Is : List Nat := []
def L_hnum_Is (_ : Nat) : Pts po_hnum_Is.den := []
def R_hnum_Is (_ : Nat) : PtsR po_hnum_Is.den := []
def E_hnum_Is : Env := (E0.add 15 (typedSem pi_hnum_Num po_hnum_Num g_hnum_Num))
theorem q_hnum_Is_m (k : Nat) (d : Unit × (((Option Int) × Unit) × ((Int × Unit) × Unit))) : evCode E_hnum_Is (tb (L_hnum_Is k) (R_hnum_Is k)) c_hnum_Is (bodyOf Try.f42) 0 (finK E_hnum_Is po_hnum_Is [.tmp 4]) (startSt pi_hnum_Is 9 d) = f_hnum_Is_m () d := by kernel_rfl
def g_hnum_Is (d : Unit × (((Option Int) × Unit) × ((Int × Unit) × Unit))) : Option (Unit × ((Bool × Unit) × Unit)) := f_hnum_Is_m () d
theorem ok_hnum_Is : FnOk Try.prog ET0 42 pi_hnum_Is po_hnum_Is g_hnum_Is :=
  fn_of_body (E := E_hnum_Is) (envOk_add e0_ok (typed_ok ok_hnum_Num)) (fn := Try.f42) Try.func42 (by kernel_rfl) (by kernel_rfl) [.tmp 4] (by kernel_rfl) (by kernel_rfl) (by decide) rfl c_hnum_Is L_hnum_Is R_hnum_Is
    (by intro x hx; cases hx) (by intro k x hx; cases hx) (by intro x hx; cases hx) (by intro k x hx; cases hx) (fun d out h => ⟨0, (q_hnum_Is_m 0 d).trans h⟩)

/- horologe/head.Mode -/
@[reducible] def pi_head_Mode : PSh := ⟨[], [.mk false [.v (.int .i64)]]⟩
@[reducible] def po_head_Mode : PSh := ⟨[], [.mk false [.v .str]]⟩
def f_head_Mode_m (T : Unit) (d : Unit × ((Int × Unit) × Unit)) : Option (Unit × ((ByteArray × Unit) × Unit)) :=
  let x1 : Bool := (d.2.1.1 == (0 : Int))
  bif x1 then (
  some ((), (((⟨#[114, 101, 115, 101, 114, 118, 101, 100]⟩ : ByteArray), ()), ())))
  else (
  let x2 : Bool := (d.2.1.1 == (1 : Int))
  bif x2 then (
  some ((), (((⟨#[97, 99, 116, 105, 118, 101]⟩ : ByteArray), ()), ())))
  else (
  let x3 : Bool := (d.2.1.1 == (2 : Int))
  bif x3 then (
  some ((), (((⟨#[112, 97, 115, 115, 105, 118, 101]⟩ : ByteArray), ()), ())))
  else (
  let x4 : Bool := (d.2.1.1 == (3 : Int))
  bif x4 then (
  some ((), (((⟨#[99, 108, 105, 101, 110, 116]⟩ : ByteArray), ()), ())))
  else (
  let x5 : Bool := (d.2.1.1 == (4 : Int))
  bif x5 then (
  some ((), (((⟨#[115, 101, 114, 118, 101, 114]⟩ : ByteArray), ()), ())))
  else (
  let x6 : Bool := (d.2.1.1 == (5 : Int))
  bif x6 then (
  some ((), (((⟨#[98, 114, 111, 97, 100, 99, 97, 115, 116]⟩ : ByteArray), ()), ())))
  else (
  let x7 : Bool := (d.2.1.1 == (6 : Int))
  bif x7 then (
  some ((), (((⟨#[99, 111, 110, 116, 114, 111, 108]⟩ : ByteArray), ()), ())))
  else (
  let x8 : Bool := (d.2.1.1 == (7 : Int))
  bif x8 then (
  some ((), (((⟨#[112, 114, 105, 118, 97, 116, 101]⟩ : ByteArray), ()), ())))
  else (
  some ((), (((⟨#[]⟩ : ByteArray), ()), ()))))))))))
def c_head_Mode : List Nat := []
def L_head_Mode (_ : Nat) : Pts po_head_Mode.den := []
def R_head_Mode (_ : Nat) : PtsR po_head_Mode.den := []
def E_head_Mode : Env := E0
theorem q_head_Mode_m (k : Nat) (d : Unit × ((Int × Unit) × Unit)) : evCode E_head_Mode (tb (L_head_Mode k) (R_head_Mode k)) c_head_Mode (bodyOf Try.f53) 0 (finK E_head_Mode po_head_Mode [.tmp 2]) (startSt pi_head_Mode 20 d) = f_head_Mode_m () d := by kernel_rfl
def g_head_Mode (d : Unit × ((Int × Unit) × Unit)) : Option (Unit × ((ByteArray × Unit) × Unit)) := f_head_Mode_m () d
theorem ok_head_Mode : FnOk Try.prog ET0 53 pi_head_Mode po_head_Mode g_head_Mode :=
  fn_of_body (E := E_head_Mode) e0_ok (fn := Try.f53) Try.func53 (by kernel_rfl) (by kernel_rfl) [.tmp 2] (by kernel_rfl) (by kernel_rfl) (by decide) rfl c_head_Mode L_head_Mode R_head_Mode
    (by intro x hx; cases hx) (by intro k x hx; cases hx) (by intro x hx; cases hx) (by intro k x hx; cases hx) (fun d out h => ⟨0, (q_head_Mode_m 0 d).trans h⟩)

/- horologe/horologeref28.Mode -/
@[reducible] def pi_ref28_Mode : PSh := ⟨[], [.mk false [.v (.int .i64)]]⟩
@[reducible] def po_ref28_Mode : PSh := ⟨[], [.mk false [.v .str]]⟩
def f_ref28_Mode_m (T : Unit) (d : Unit × ((Int × Unit) × Unit)) : Option (Unit × ((ByteArray × Unit) × Unit)) :=
  let x1 : (List ByteArray) := ([(⟨#[114, 101, 115, 101, 114, 118, 101, 100]⟩ : ByteArray), (⟨#[97, 99, 116, 105, 118, 101]⟩ : ByteArray), (⟨#[112, 97, 115, 115, 105, 118, 101]⟩ : ByteArray), (⟨#[99, 108, 105, 101, 110, 116]⟩ : ByteArray), (⟨#[115, 101, 114, 118, 101, 114]⟩ : ByteArray), (⟨#[98, 114, 111, 97, 100, 99, 97, 115, 116]⟩ : ByteArray), (⟨#[99, 111, 110, 116, 114, 111, 108]⟩ : ByteArray), (⟨#[112, 114, 105, 118, 97, 116, 101]⟩ : ByteArray)] : List ByteArray)
  let x2 : Bool := (decide (d.2.1.1 < (0 : Int)))
  bif x2 then (
  some ((), (((⟨#[]⟩ : ByteArray), ()), ())))
  else (
  let x3 : Int := (x1.length : Int)
  let x4 : Bool := (decide (d.2.1.1 ≥ x3))
  bif x4 then (
  some ((), (((⟨#[]⟩ : ByteArray), ()), ())))
  else (
  bif decide ((0 : Int) ≤ d.2.1.1) && decide (d.2.1.1 < (x1.length : Int)) then (
  some ((), (((gd .str x1 d.2.1.1), ()), ())))
  else none))
def c_ref28_Mode : List Nat := []
def L_ref28_Mode (_ : Nat) : Pts po_ref28_Mode.den := []
def R_ref28_Mode (_ : Nat) : PtsR po_ref28_Mode.den := []
def E_ref28_Mode : Env := E0
theorem q_ref28_Mode_m (k : Nat) (d : Unit × ((Int × Unit) × Unit)) : evCode E_ref28_Mode (tb (L_ref28_Mode k) (R_ref28_Mode k)) c_ref28_Mode (bodyOf Try.f54) 0 (finK E_ref28_Mode po_ref28_Mode [.tmp 2]) (startSt pi_ref28_Mode 17 d) = f_ref28_Mode_m () d := by kernel_rfl
def g_ref28_Mode (d : Unit × ((Int × Unit) × Unit)) : Option (Unit × ((ByteArray × Unit) × Unit)) := f_ref28_Mode_m () d
theorem ok_ref28_Mode : FnOk Try.prog ET0 54 pi_ref28_Mode po_ref28_Mode g_ref28_Mode :=
  fn_of_body (E := E_ref28_Mode) e0_ok (fn := Try.f54) Try.func54 (by kernel_rfl) (by kernel_rfl) [.tmp 2] (by kernel_rfl) (by kernel_rfl) (by decide) rfl c_ref28_Mode L_ref28_Mode R_ref28_Mode
    (by intro x hx; cases hx) (by intro k x hx; cases hx) (by intro x hx; cases hx) (by intro k x hx; cases hx) (fun d out h => ⟨0, (q_ref28_Mode_m 0 d).trans h⟩)

/- horologe/horologeref03.Value -/
@[reducible] def pi_ref03_Value : PSh := ⟨[], [.mk false [.v (.sl (.int .u8))]]⟩
@[reducible] def po_ref03_Value : PSh := ⟨[], [.mk false [.v (.int .u64)]]⟩
@[reducible] def TT_ref03_Value : Type := (((Unit × (((List Int) × Unit) × ((Int × Unit) × ((Int × Unit) × Unit)))) → Option (Unit × ((Int × Unit) × Unit))) × Unit)
@[reducible] def sh_ref03_Value_4 : PSh := ⟨[], [.mk false [.v (.sl (.int .u8))], .any, .any, .mk false [.v (.int .u64)], .mk false [.v (.int .i64)], .any, .any, .any, .any, .any, .any, .any, .any, .any, .any, .any, .any, .any, .any, .any]⟩
def f_ref03_Value_p4 (T : TT_ref03_Value) (d : Unit × (((List Int) × Unit) × ((Int × Unit) × ((Int × Unit) × Unit)))) : Option (Unit × ((Int × Unit) × Unit)) :=
  let x1 : Int := (d.2.1.1.length : Int)
  let x2 : Bool := (decide (d.2.2.2.1.1 < x1))
  bif x2 then (
  let x3 : Int := (imul .u64 d.2.2.1.1 (256 : Int))
  bif decide ((0 : Int) ≤ d.2.2.2.1.1) && decide (d.2.2.2.1.1 < (d.2.1.1.length : Int)) then (
  let x4 : Int := (iconv .u64 (gd (.int .u8) d.2.1.1 d.2.2.2.1.1))
  let x5 : Int := (iadd .u64 x3 x4)
  let x6 : Int := (iadd .i64 d.2.2.2.1.1 (1 : Int))
  (T.1 ((), ((d.2.1.1, ()), ((x5, ()), ((x6, ()), ()))))))
  else none)
  else (
  some ((), ((d.2.2.1.1, ()), ())))
def f_ref03_Value_t : Nat → TT_ref03_Value
  | 0 => (fun _ => none, ())
  | k + 1 => (f_ref03_Value_p4 (f_ref03_Value_t k), ())
theorem t_ref03_Value (k : Nat) : f_ref03_Value_t (k + 1) = (f_ref03_Value_p4 (f_ref03_Value_t k), ()) := rfl
def f_ref03_Value_m (T : TT_ref03_Value) (d : Unit × (((List Int) × Unit) × Unit)) : Option (Unit × ((Int × Unit) × Unit)) :=
  (T.1 ((), ((d.2.1.1, ()), (((0 : Int), ()), (((0 : Int), ()), ())))))
def c_ref03_Value : List Nat := []
def L_ref03_Value (k : Nat) : Pts po_ref03_Value.den := [(4, ⟨sh_ref03_Value_4, (f_ref03_Value_t k).1⟩)]
def R_ref03_Value (_ : Nat) : PtsR po_ref03_Value.den := []
def E_ref03_Value : Env := E0
theorem q_ref03_Value_4 (k : Nat) (d : Unit × (((List Int) × Unit) × ((Int × Unit) × ((Int × Unit) × Unit)))) : evAt E_ref03_Value (tb (L_ref03_Value k) (R_ref03_Value k)) c_ref03_Value 4 (bodyOf Try.f41) 0 (finK E_ref03_Value po_ref03_Value [.tmp 2]) (ptSt sh_ref03_Value_4 d) = f_ref03_Value_p4 (f_ref03_Value_t k) d := by kernel_rfl
theorem q_ref03_Value_m (k : Nat) (d : Unit × (((List Int) × Unit) × Unit)) : evCode E_ref03_Value (tb (L_ref03_Value k) (R_ref03_Value k)) c_ref03_Value (bodyOf Try.f41) 0 (finK E_ref03_Value po_ref03_Value [.tmp 2]) (startSt pi_ref03_Value 20 d) = f_ref03_Value_m (f_ref03_Value_t k) d := by kernel_rfl
theorem go_ref03_Value (F : Unit × (((List Int) × Unit) × Unit) → Option (Unit × ((Int × Unit) × Unit))) (hF : ∀ d out, F d = some out → ∃ k, f_ref03_Value_m (f_ref03_Value_t k) d = some out) : FnOk Try.prog ET0 41 pi_ref03_Value po_ref03_Value F :=
  fn_of_body (E := E_ref03_Value) e0_ok (fn := Try.f41) Try.func41 (by kernel_rfl) (by kernel_rfl) [.tmp 2] (by kernel_rfl) (by kernel_rfl) (by decide) rfl c_ref03_Value L_ref03_Value R_ref03_Value
    (by intro x hx d; simp only [L_ref03_Value, List.mem_cons, List.not_mem_nil, or_false] at hx; subst hx; rfl)
    (by intro k x hx d out h; simp only [L_ref03_Value, List.mem_cons, List.not_mem_nil, or_false] at hx; subst hx; exact (q_ref03_Value_4 k d).trans h)
    (by intro x hx; cases hx)
    (by intro k x hx; cases hx)
    (by intro d out h; obtain ⟨k, hk⟩ := hF d out h; exact ⟨k, (q_ref03_Value_m k d).trans hk⟩)
def g_ref03_Value (d : Unit × (((List Int) × Unit) × Unit)) : Option (Unit × ((Int × Unit) × Unit)) := lim fun k => f_ref03_Value_m (f_ref03_Value_t k) d
theorem ok_ref03_Value : FnOk Try.prog ET0 41 pi_ref03_Value po_ref03_Value g_ref03_Value := go_ref03_Value g_ref03_Value fun d out h => lim_some h

/- horologe/horologeref28.signed -/
@[reducible] def pi_ref28_signed : PSh := ⟨[], [.mk false [.v (.int .u8)]]⟩
@[reducible] def po_ref28_signed : PSh := ⟨[], [.mk false [.v (.int .i64)]]⟩
def f_ref28_signed_m (T : Unit) (d : Unit × ((Int × Unit) × Unit)) : Option (Unit × ((Int × Unit) × Unit)) :=
  let x1 : Bool := (decide (d.2.1.1 ≥ (128 : Int)))
  bif x1 then (
  let x2 : Int := (iconv .i64 d.2.1.1)
  let x3 : Int := (isub .i64 x2 (256 : Int))
  some ((), ((x3, ()), ())))
  else (
  let x4 : Int := (iconv .i64 d.2.1.1)
  some ((), ((x4, ()), ())))
def c_ref28_signed : List Nat := []
def L_ref28_signed (_ : Nat) : Pts po_ref28_signed.den := []
def R_ref28_signed (_ : Nat) : PtsR po_ref28_signed.den := []
def E_ref28_signed : Env := E0
theorem q_ref28_signed_m (k : Nat) (d : Unit × ((Int × Unit) × Unit)) : evCode E_ref28_signed (tb (L_ref28_signed k) (R_ref28_signed k)) c_ref28_signed (bodyOf Try.f90) 0 (finK E_ref28_signed po_ref28_signed [.tmp 2]) (startSt pi_ref28_signed 10 d) = f_ref28_signed_m () d := by kernel_rfl
def g_ref28_signed (d : Unit × ((Int × Unit) × Unit)) : Option (Unit × ((Int × Unit) × Unit)) := f_ref28_signed_m () d
theorem ok_ref28_signed : FnOk Try.prog ET0 90 pi_ref28_signed po_ref28_signed g_ref28_signed :=
  fn_of_body (E := E_ref28_signed) e0_ok (fn := Try.f90) Try.func90 (by kernel_rfl) (by kernel_rfl) [.tmp 2] (by kernel_rfl) (by kernel_rfl) (by decide) rfl c_ref28_signed L_ref28_signed R_ref28_signed
    (by intro x hx; cases hx) (by intro k x hx; cases hx) (by intro x hx; cases hx) (by intro k x hx; cases hx) (fun d out h => ⟨0, (q_ref28_signed_m 0 d).trans h⟩)

/- horologe/horologeref28.Parse -/
@[reducible] def pi_ref28_Parse : PSh := ⟨[], [.mk false [.v (.sl (.int .u8))]]⟩
@[reducible] def po_ref28_Parse : PSh := ⟨[], [.mk true [.v (.int .i64), .v (.int .i64), .v (.int .i64), .v (.int .i64), .v (.int .i64), .v (.int .i64), .v (.int .u64), .v (.int .u64), .v (.int .u8), .v (.int .u8), .v (.int .u8), .v (.int .u8), .v (.int .u64), .v (.int .u64), .v (.int .u64), .v (.int .u64)]]⟩
@[reducible] def TT_ref28_Parse : Type := (((((Int × (Int × (Int × (Int × (Int × (Int × (Int × (Int × (Int × (Int × (Int × (Int × (Int × (Int × (Int × (Int × Unit)))))))))))))))) × ((Int × (Int × (Int × (Int × (Int × (Int × (Int × (Int × (Int × (Int × (Int × (Int × (Int × (Int × (Int × (Int × Unit)))))))))))))))) × Unit)) × (((List Int) × Unit) × (Unit × (Unit × ((Int × Unit) × Unit))))) → Option (Unit × ((Int × (Int × (Int × (Int × (Int × (Int × (Int × (Int × (Int × (Int × (Int × (Int × (Int × (Int × (Int × (Int × Unit)))))))))))))))) × Unit))) × (((((Int × (Int × (Int × (Int × (Int × (Int × (Int × (Int × (Int × (Int × (Int × (Int × (Int × (Int × (Int × (Int × Unit)))))))))))))))) × ((Int × (Int × (Int × (Int × (Int × (Int × (Int × (Int × (Int × (Int × (Int × (Int × (Int × (Int × (Int × (Int × Unit)))))))))))))))) × Unit)) × (((List Int) × Unit) × (Unit × (Unit × ((Int × Unit) × Unit))))) → Option (Unit × ((Int × (Int × (Int × (Int × (Int × (Int × (Int × (Int × (Int × (Int × (Int × (Int × (Int × (Int × (Int × (Int × Unit)))))))))))))))) × Unit))) × Unit))
@[reducible] def sh_ref28_Parse_6 : PSh := ⟨[.var 41 [.v (.int .i64), .v (.int .i64), .v (.int .i64), .v (.int .i64), .v (.int .i64), .v (.int .i64), .v (.int .u64), .v (.int .u64), .v (.int .u8), .v (.int .u8), .v (.int .u8), .v (.int .u8), .v (.int .u64), .v (.int .u64), .v (.int .u64), .v (.int .u64)], .var 41 [.v (.int .i64), .v (.int .i64), .v (.int .i64), .v (.int .i64), .v (.int .i64), .v (.int .i64), .v (.int .u64), .v (.int .u64), .v (.int .u8), .v (.int .u8), .v (.int .u8), .v (.int .u8), .v (.int .u64), .v (.int .u64), .v (.int .u64), .v (.int .u64)]], [.mk false [.v (.sl (.int .u8))], .any, .mk false [.ref 0 0], .mk false [.ref 1 0], .mk false [.v (.int .i64)], .any, .any, .any, .any, .any, .any, .any, .any, .any, .any, .any, .any, .any, .any, .any, .any, .any, .any, .any, .any, .any, .any, .any, .any, .any, .any, .any, .any, .any, .any, .any, .any, .any, .any, .any, .any, .any, .any, .any, .any, .any, .any, .any, .any, .any, .any, .any, .any, .any, .any, .any, .any, .any, .any, .any, .any, .any, .any, .any, .any, .any, .any, .any, .any, .any, .any]⟩
@[reducible] def sh_ref28_Parse_9 : PSh := ⟨[.var 41 [.v (.int .i64), .v (.int .i64), .v (.int .i64), .v (.int .i64), .v (.int .i64), .v (.int .i64), .v (.int .u64), .v (.int .u64), .v (.int .u8), .v (.int .u8), .v (.int .u8), .v (.int .u8), .v (.int .u64), .v (.int .u64), .v (.int .u64), .v (.int .u64)], .var 41 [.v (.int .i64), .v (.int .i64), .v (.int .i64), .v (.int .i64), .v (.int .i64), .v (.int .i64), .v (.int .u64), .v (.int .u64), .v (.int .u8), .v (.int .u8), .v (.int .u8), .v (.int .u8), .v (.int .u64), .v (.int .u64), .v (.int .u64), .v (.int .u64)]], [.mk false [.v (.sl (.int .u8))], .any, .mk false [.ref 0 0], .mk false [.ref 1 0], .mk false [.v (.int .i64)], .any, .any, .any, .any, .any, .any, .any, .any, .any, .any, .any, .any, .any, .any, .any, .any, .any, .any, .any, .any, .any, .any, .any, .any, .any, .any, .any, .any, .any, .any, .any, .any, .any, .any, .any, .any, .any, .any, .any, .any, .any, .any, .any, .any, .any, .any, .any, .any, .any, .any, .any, .any, .any, .any, .any, .any, .any, .any, .any, .any, .any, .any, .any, .any, .any, .any]⟩
def f_ref28_Parse_p6 (T : TT_ref28_Parse) (d : ((Int × (Int × (Int × (Int × (Int × (Int × (Int × (Int × (Int × (Int × (Int × (Int × (Int × (Int × (Int × (Int × Unit)))))))))))))))) × ((Int × (Int × (Int × (Int × (Int × (Int × (Int × (Int × (Int × (Int × (Int × (Int × (Int × (Int × (Int × (Int × Unit)))))))))))))))) × Unit)) × (((List Int) × Unit) × (Unit × (Unit × ((Int × Unit) × Unit))))) : Option (Unit × ((Int × (Int × (Int × (Int × (Int × (Int × (Int × (Int × (Int × (Int × (Int × (Int × (Int × (Int × (Int × (Int × Unit)))))))))))))))) × Unit)) :=
  let x15 : Bool := (decide (d.2.2.2.2.1.1 < (4 : Int)))
  bif x15 then (
  let x16 : Int := (iadd .i64 (12 : Int) d.2.2.2.2.1.1)
  bif decide ((0 : Int) ≤ x16) && decide (x16 < (d.2.1.1.length : Int)) then (
  bif decide ((0 : Int) ≤ d.2.2.2.2.1.1) && decide (d.2.2.2.2.1.1 < (4 : Int)) then (
  bif decide (d.2.2.2.2.1.1 = (0 : Int)) then (
  (T.2.1 (((d.1.1.1, (d.1.1.2.1, (d.1.1.2.2.1, (d.1.1.2.2.2.1, (d.1.1.2.2.2.2.1, (d.1.1.2.2.2.2.2.1, (d.1.1.2.2.2.2.2.2.1, (d.1.1.2.2.2.2.2.2.2.1, (d.1.1.2.2.2.2.2.2.2.2.1, (d.1.1.2.2.2.2.2.2.2.2.2.1, (d.1.1.2.2.2.2.2.2.2.2.2.2.1, (d.1.1.2.2.2.2.2.2.2.2.2.2.2.1, (d.1.1.2.2.2.2.2.2.2.2.2.2.2.2.1, (d.1.1.2.2.2.2.2.2.2.2.2.2.2.2.2.1, (d.1.1.2.2.2.2.2.2.2.2.2.2.2.2.2.2.1, (d.1.1.2.2.2.2.2.2.2.2.2.2.2.2.2.2.2.1, ())))))))))))))))), ((d.1.2.1.1, (d.1.2.1.2.1, (d.1.2.1.2.2.1, (d.1.2.1.2.2.2.1, (d.1.2.1.2.2.2.2.1, (d.1.2.1.2.2.2.2.2.1, (d.1.2.1.2.2.2.2.2.2.1, (d.1.2.1.2.2.2.2.2.2.2.1, ((gd (.int .u8) d.2.1.1 x16), (d.1.2.1.2.2.2.2.2.2.2.2.2.1, (d.1.2.1.2.2.2.2.2.2.2.2.2.2.1, (d.1.2.1.2.2.2.2.2.2.2.2.2.2.2.1, (d.1.2.1.2.2.2.2.2.2.2.2.2.2.2.2.1, (d.1.2.1.2.2.2.2.2.2.2.2.2.2.2.2.2.1, (d.1.2.1.2.2.2.2.2.2.2.2.2.2.2.2.2.2.1, (d.1.2.1.2.2.2.2.2.2.2.2.2.2.2.2.2.2.2.1, ())))))))))))))))), ())), ((d.2.1.1, ()), ((), ((), ((d.2.2.2.2.1.1, ()), ())))))))
  else (
  bif decide (d.2.2.2.2.1.1 = (1 : Int)) then (
  (T.2.1 (((d.1.1.1, (d.1.1.2.1, (d.1.1.2.2.1, (d.1.1.2.2.2.1, (d.1.1.2.2.2.2.1, (d.1.1.2.2.2.2.2.1, (d.1.1.2.2.2.2.2.2.1, (d.1.1.2.2.2.2.2.2.2.1, (d.1.1.2.2.2.2.2.2.2.2.1, (d.1.1.2.2.2.2.2.2.2.2.2.1, (d.1.1.2.2.2.2.2.2.2.2.2.2.1, (d.1.1.2.2.2.2.2.2.2.2.2.2.2.1, (d.1.1.2.2.2.2.2.2.2.2.2.2.2.2.1, (d.1.1.2.2.2.2.2.2.2.2.2.2.2.2.2.1, (d.1.1.2.2.2.2.2.2.2.2.2.2.2.2.2.2.1, (d.1.1.2.2.2.2.2.2.2.2.2.2.2.2.2.2.2.1, ())))))))))))))))), ((d.1.2.1.1, (d.1.2.1.2.1, (d.1.2.1.2.2.1, (d.1.2.1.2.2.2.1, (d.1.2.1.2.2.2.2.1, (d.1.2.1.2.2.2.2.2.1, (d.1.2.1.2.2.2.2.2.2.1, (d.1.2.1.2.2.2.2.2.2.2.1, (d.1.2.1.2.2.2.2.2.2.2.2.1, ((gd (.int .u8) d.2.1.1 x16), (d.1.2.1.2.2.2.2.2.2.2.2.2.2.1, (d.1.2.1.2.2.2.2.2.2.2.2.2.2.2.1, (d.1.2.1.2.2.2.2.2.2.2.2.2.2.2.2.1, (d.1.2.1.2.2.2.2.2.2.2.2.2.2.2.2.2.1, (d.1.2.1.2.2.2.2.2.2.2.2.2.2.2.2.2.2.1, (d.1.2.1.2.2.2.2.2.2.2.2.2.2.2.2.2.2.2.1, ())))))))))))))))), ())), ((d.2.1.1, ()), ((), ((), ((d.2.2.2.2.1.1, ()), ())))))))
  else (
  bif decide (d.2.2.2.2.1.1 = (2 : Int)) then (
  (T.2.1 (((d.1.1.1, (d.1.1.2.1, (d.1.1.2.2.1, (d.1.1.2.2.2.1, (d.1.1.2.2.2.2.1, (d.1.1.2.2.2.2.2.1, (d.1.1.2.2.2.2.2.2.1, (d.1.1.2.2.2.2.2.2.2.1, (d.1.1.2.2.2.2.2.2.2.2.1, (d.1.1.2.2.2.2.2.2.2.2.2.1, (d.1.1.2.2.2.2.2.2.2.2.2.2.1, (d.1.1.2.2.2.2.2.2.2.2.2.2.2.1, (d.1.1.2.2.2.2.2.2.2.2.2.2.2.2.1, (d.1.1.2.2.2.2.2.2.2.2.2.2.2.2.2.1, (d.1.1.2.2.2.2.2.2.2.2.2.2.2.2.2.2.1, (d.1.1.2.2.2.2.2.2.2.2.2.2.2.2.2.2.2.1, ())))))))))))))))), ((d.1.2.1.1, (d.1.2.1.2.1, (d.1.2.1.2.2.1, (d.1.2.1.2.2.2.1, (d.1.2.1.2.2.2.2.1, (d.1.2.1.2.2.2.2.2.1, (d.1.2.1.2.2.2.2.2.2.1, (d.1.2.1.2.2.2.2.2.2.2.1, (d.1.2.1.2.2.2.2.2.2.2.2.1, (d.1.2.1.2.2.2.2.2.2.2.2.2.1, ((gd (.int .u8) d.2.1.1 x16), (d.1.2.1.2.2.2.2.2.2.2.2.2.2.2.1, (d.1.2.1.2.2.2.2.2.2.2.2.2.2.2.2.1, (d.1.2.1.2.2.2.2.2.2.2.2.2.2.2.2.2.1, (d.1.2.1.2.2.2.2.2.2.2.2.2.2.2.2.2.2.1, (d.1.2.1.2.2.2.2.2.2.2.2.2.2.2.2.2.2.2.1, ())))))))))))))))), ())), ((d.2.1.1, ()), ((), ((), ((d.2.2.2.2.1.1, ()), ())))))))
  else (
  bif decide (d.2.2.2.2.1.1 = (3 : Int)) then (
  (T.2.1 (((d.1.1.1, (d.1.1.2.1, (d.1.1.2.2.1, (d.1.1.2.2.2.1, (d.1.1.2.2.2.2.1, (d.1.1.2.2.2.2.2.1, (d.1.1.2.2.2.2.2.2.1, (d.1.1.2.2.2.2.2.2.2.1, (d.1.1.2.2.2.2.2.2.2.2.1, (d.1.1.2.2.2.2.2.2.2.2.2.1, (d.1.1.2.2.2.2.2.2.2.2.2.2.1, (d.1.1.2.2.2.2.2.2.2.2.2.2.2.1, (d.1.1.2.2.2.2.2.2.2.2.2.2.2.2.1, (d.1.1.2.2.2.2.2.2.2.2.2.2.2.2.2.1, (d.1.1.2.2.2.2.2.2.2.2.2.2.2.2.2.2.1, (d.1.1.2.2.2.2.2.2.2.2.2.2.2.2.2.2.2.1, ())))))))))))))))), ((d.1.2.1.1, (d.1.2.1.2.1, (d.1.2.1.2.2.1, (d.1.2.1.2.2.2.1, (d.1.2.1.2.2.2.2.1, (d.1.2.1.2.2.2.2.2.1, (d.1.2.1.2.2.2.2.2.2.1, (d.1.2.1.2.2.2.2.2.2.2.1, (d.1.2.1.2.2.2.2.2.2.2.2.1, (d.1.2.1.2.2.2.2.2.2.2.2.2.1, (d.1.2.1.2.2.2.2.2.2.2.2.2.2.1, ((gd (.int .u8) d.2.1.1 x16), (d.1.2.1.2.2.2.2.2.2.2.2.2.2.2.2.1, (d.1.2.1.2.2.2.2.2.2.2.2.2.2.2.2.2.1, (d.1.2.1.2.2.2.2.2.2.2.2.2.2.2.2.2.2.1, (d.1.2.1.2.2.2.2.2.2.2.2.2.2.2.2.2.2.2.1, ())))))))))))))))), ())), ((d.2.1.1, ()), ((), ((), ((d.2.2.2.2.1.1, ()), ())))))))
  else (
  none)))))
  else none)
  else none)
  else (
  bif decide ((24 : Int) ≤ (d.2.1.1.length : Int)) then (
  let x17 : (List Int) := (List.drop (Int.toNat (16 : Int)) (List.take (Int.toNat (24 : Int)) d.2.1.1))
  (g_ref03_Value ((), ((x17, ()), ()))).bind fun x18 =>
  bif decide ((32 : Int) ≤ (d.2.1.1.length : Int)) then (
  let x19 : (List Int) := (List.drop (Int.toNat (24 : Int)) (List.take (Int.toNat (32 : Int)) d.2.1.1))
  (g_ref03_Value ((), ((x19, ()), ()))).bind fun x20 =>
  bif decide ((40 : Int) ≤ (d.2.1.1.length : Int)) then (
  let x21 : (List Int) := (List.drop (Int.toNat (32 : Int)) (List.take (Int.toNat (40 : Int)) d.2.1.1))
  (g_ref03_Value ((), ((x21, ()), ()))).bind fun x22 =>
  bif decide ((48 : Int) ≤ (d.2.1.1.length : Int)) then (
  let x23 : (List Int) := (List.drop (Int.toNat (40 : Int)) (List.take (Int.toNat (48 : Int)) d.2.1.1))
  (g_ref03_Value ((), ((x23, ()), ()))).bind fun x24 =>
  some ((), ((d.1.2.1.1, (d.1.2.1.2.1, (d.1.2.1.2.2.1, (d.1.2.1.2.2.2.1, (d.1.2.1.2.2.2.2.1, (d.1.2.1.2.2.2.2.2.1, (d.1.2.1.2.2.2.2.2.2.1, (d.1.2.1.2.2.2.2.2.2.2.1, (d.1.2.1.2.2.2.2.2.2.2.2.1, (d.1.2.1.2.2.2.2.2.2.2.2.2.1, (d.1.2.1.2.2.2.2.2.2.2.2.2.2.1, (d.1.2.1.2.2.2.2.2.2.2.2.2.2.2.1, (x18.2.1.1, (x20.2.1.1, (x22.2.1.1, (x24.2.1.1, ())))))))))))))))), ())))
  else none)
  else none)
  else none)
  else none)
def f_ref28_Parse_p9 (T : TT_ref28_Parse) (d : ((Int × (Int × (Int × (Int × (Int × (Int × (Int × (Int × (Int × (Int × (Int × (Int × (Int × (Int × (Int × (Int × Unit)))))))))))))))) × ((Int × (Int × (Int × (Int × (Int × (Int × (Int × (Int × (Int × (Int × (Int × (Int × (Int × (Int × (Int × (Int × Unit)))))))))))))))) × Unit)) × (((List Int) × Unit) × (Unit × (Unit × ((Int × Unit) × Unit))))) : Option (Unit × ((Int × (Int × (Int × (Int × (Int × (Int × (Int × (Int × (Int × (Int × (Int × (Int × (Int × (Int × (Int × (Int × Unit)))))))))))))))) × Unit)) :=
  let x25 : Int := (iadd .i64 d.2.2.2.2.1.1 (1 : Int))
  (T.1 (((d.1.1.1, (d.1.1.2.1, (d.1.1.2.2.1, (d.1.1.2.2.2.1, (d.1.1.2.2.2.2.1, (d.1.1.2.2.2.2.2.1, (d.1.1.2.2.2.2.2.2.1, (d.1.1.2.2.2.2.2.2.2.1, (d.1.1.2.2.2.2.2.2.2.2.1, (d.1.1.2.2.2.2.2.2.2.2.2.1, (d.1.1.2.2.2.2.2.2.2.2.2.2.1, (d.1.1.2.2.2.2.2.2.2.2.2.2.2.1, (d.1.1.2.2.2.2.2.2.2.2.2.2.2.2.1, (d.1.1.2.2.2.2.2.2.2.2.2.2.2.2.2.1, (d.1.1.2.2.2.2.2.2.2.2.2.2.2.2.2.2.1, (d.1.1.2.2.2.2.2.2.2.2.2.2.2.2.2.2.2.1, ())))))))))))))))), ((d.1.2.1.1, (d.1.2.1.2.1, (d.1.2.1.2.2.1, (d.1.2.1.2.2.2.1, (d.1.2.1.2.2.2.2.1, (d.1.2.1.2.2.2.2.2.1, (d.1.2.1.2.2.2.2.2.2.1, (d.1.2.1.2.2.2.2.2.2.2.1, (d.1.2.1.2.2.2.2.2.2.2.2.1, (d.1.2.1.2.2.2.2.2.2.2.2.2.1, (d.1.2.1.2.2.2.2.2.2.2.2.2.2.1, (d.1.2.1.2.2.2.2.2.2.2.2.2.2.2.1, (d.1.2.1.2.2.2.2.2.2.2.2.2.2.2.2.1, (d.1.2.1.2.2.2.2.2.2.2.2.2.2.2.2.2.1, (d.1.2.1.2.2.2.2.2.2.2.2.2.2.2.2.2.2.1, (d.1.2.1.2.2.2.2.2.2.2.2.2.2.2.2.2.2.2.1, ())))))))))))))))), ())), ((d.2.1.1, ()), ((), ((), ((x25, ()), ()))))))
def f_ref28_Parse_t : Nat → TT_ref28_Parse
  | 0 => (fun _ => none, (fun _ => none, ()))
  | k + 1 => (f_ref28_Parse_p6 (f_ref28_Parse_t k), (f_ref28_Parse_p9 (f_ref28_Parse_t k), ()))
theorem t_ref28_Parse (k : Nat) : f_ref28_Parse_t (k + 1) = (f_ref28_Parse_p6 (f_ref28_Parse_t k), (f_ref28_Parse_p9 (f_ref28_Parse_t k), ())) := rfl
def f_ref28_Parse_m (T : TT_ref28_Parse) (d : Unit × (((List Int) × Unit) × Unit)) : Option (Unit × ((Int × (Int × (Int × (Int × (Int × (Int × (Int × (Int × (Int × (Int × (Int × (Int × (Int × (Int × (Int × (Int × Unit)))))))))))))))) × Unit)) :=
  bif decide ((0 : Int) ≤ (0 : Int)) && decide ((0 : Int) < (d.2.1.1.length : Int)) then (
  let x1 : Int := (iconv .i64 (gd (.int .u8) d.2.1.1 (0 : Int)))
  let x2 : Int := (iquo .i64 x1 (64 : Int))
  bif decide ((0 : Int) ≤ (0 : Int)) && decide ((0 : Int) < (d.2.1.1.length : Int)) then (
  let x3 : Int := (iconv .i64 (gd (.int .u8) d.2.1.1 (0 : Int)))
  let x4 : Int := (iquo .i64 x3 (8 : Int))
  let x5 : Int := (Int.tmod x4 (8 : Int))
  bif decide ((0 : Int) ≤ (0 : Int)) && decide ((0 : Int) < (d.2.1.1.length : Int)) then (
  let x6 : Int := (iconv .i64 (gd (.int .u8) d.2.1.1 (0 : Int)))
  let x7 : Int := (Int.tmod x6 (8 : Int))
  bif decide ((0 : Int) ≤ (1 : Int)) && decide ((1 : Int) < (d.2.1.1.length : Int)) then (
  let x8 : Int := (iconv .i64 (gd (.int .u8) d.2.1.1 (1 : Int)))
  bif decide ((0 : Int) ≤ (2 : Int)) && decide ((2 : Int) < (d.2.1.1.length : Int)) then (
  (g_ref28_signed ((), (((gd (.int .u8) d.2.1.1 (2 : Int)), ()), ()))).bind fun x9 =>
  bif decide ((0 : Int) ≤ (3 : Int)) && decide ((3 : Int) < (d.2.1.1.length : Int)) then (
  (g_ref28_signed ((), (((gd (.int .u8) d.2.1.1 (3 : Int)), ()), ()))).bind fun x10 =>
  bif decide ((8 : Int) ≤ (d.2.1.1.length : Int)) then (
  let x11 : (List Int) := (List.drop (Int.toNat (4 : Int)) (List.take (Int.toNat (8 : Int)) d.2.1.1))
  (g_ref03_Value ((), ((x11, ()), ()))).bind fun x12 =>
  bif decide ((12 : Int) ≤ (d.2.1.1.length : Int)) then (
  let x13 : (List Int) := (List.drop (Int.toNat (8 : Int)) (List.take (Int.toNat (12 : Int)) d.2.1.1))
  (g_ref03_Value ((), ((x13, ()), ()))).bind fun x14 =>
  (T.1 ((((0 : Int), ((0 : Int), ((0 : Int), ((0 : Int), ((0 : Int), ((0 : Int), ((0 : Int), ((0 : Int), ((0 : Int), ((0 : Int), ((0 : Int), ((0 : Int), ((0 : Int), ((0 : Int), ((0 : Int), ((0 : Int), ())))))))))))))))), ((x2, (x5, (x7, (x8, (x9.2.1.1, (x10.2.1.1, (x12.2.1.1, (x14.2.1.1, ((0 : Int), ((0 : Int), ((0 : Int), ((0 : Int), ((0 : Int), ((0 : Int), ((0 : Int), ((0 : Int), ())))))))))))))))), ())), ((d.2.1.1, ()), ((), ((), (((0 : Int), ()), ())))))))
  else none)
  else none)
  else none)
  else none)
  else none)
  else none)
  else none)
  else none
def c_ref28_Parse : List Nat := [9]
def L_ref28_Parse (k : Nat) : Pts po_ref28_Parse.den := [(6, ⟨sh_ref28_Parse_6, (f_ref28_Parse_t k).1⟩), (9, ⟨sh_ref28_Parse_9, (f_ref28_Parse_t k).2.1⟩)]
def R_ref28_Parse (_ : Nat) : PtsR po_ref28_Parse.den := []
def E_ref28_Parse : Env := ((E0.add 41 (typedSem pi_ref03_Value po_ref03_Value g_ref03_Value)).add 90 (typedSem pi_ref28_signed po_ref28_signed g_ref28_signed))
theorem q_ref28_Parse_6 (k : Nat) (d : ((Int × (Int × (Int × (Int × (Int × (Int × (Int × (Int × (Int × (Int × (Int × (Int × (Int × (Int × (Int × (Int × Unit)))))))))))))))) × ((Int × (Int × (Int × (Int × (Int × (Int × (Int × (Int × (Int × (Int × (Int × (Int × (Int × (Int × (Int × (Int × Unit)))))))))))))))) × Unit)) × (((List Int) × Unit) × (Unit × (Unit × ((Int × Unit) × Unit))))) : evAt E_ref28_Parse (tb (L_ref28_Parse k) (R_ref28_Parse k)) c_ref28_Parse 6 (bodyOf Try.f55) 0 (finK E_ref28_Parse po_ref28_Parse [.cell 2 41]) (ptSt sh_ref28_Parse_6 d) = f_ref28_Parse_p6 (f_ref28_Parse_t k) d := by kernel_rfl
theorem q_ref28_Parse_9 (k : Nat) (d : ((Int × (Int × (Int × (Int × (Int × (Int × (Int × (Int × (Int × (Int × (Int × (Int × (Int × (Int × (Int × (Int × Unit)))))))))))))))) × ((Int × (Int × (Int × (Int × (Int × (Int × (Int × (Int × (Int × (Int × (Int × (Int × (Int × (Int × (Int × (Int × Unit)))))))))))))))) × Unit)) × (((List Int) × Unit) × (Unit × (Unit × ((Int × Unit) × Unit))))) : evAt E_ref28_Parse (tb (L_ref28_Parse k) (R_ref28_Parse k)) c_ref28_Parse 9 (bodyOf Try.f55) 0 (finK E_ref28_Parse po_ref28_Parse [.cell 2 41]) (ptSt sh_ref28_Parse_9 d) = f_ref28_Parse_p9 (f_ref28_Parse_t k) d := by kernel_rfl
theorem q_ref28_Parse_m (k : Nat) (d : Unit × (((List Int) × Unit) × Unit)) : evCode E_ref28_Parse (tb (L_ref28_Parse k) (R_ref28_Parse k)) c_ref28_Parse (bodyOf Try.f55) 0 (finK E_ref28_Parse po_ref28_Parse [.cell 2 41]) (startSt pi_ref28_Parse 71 d) = f_ref28_Parse_m (f_ref28_Parse_t k) d := by kernel_rfl
theorem go_ref28_Parse (F : Unit × (((List Int) × Unit) × Unit) → Option (Unit × ((Int × (Int × (Int × (Int × (Int × (Int × (Int × (Int × (Int × (Int × (Int × (Int × (Int × (Int × (Int × (Int × Unit)))))))))))))))) × Unit))) (hF : ∀ d out, F d = some out → ∃ k, f_ref28_Parse_m (f_ref28_Parse_t k) d = some out) : FnOk Try.prog ET0 55 pi_ref28_Parse po_ref28_Parse F :=
  fn_of_body (E := E_ref28_Parse) (envOk_add (envOk_add e0_ok (typed_ok ok_ref03_Value)) (typed_ok ok_ref28_signed)) (fn := Try.f55) Try.func55 (by kernel_rfl) (by kernel_rfl) [.cell 2 41] (by kernel_rfl) (by kernel_rfl) (by decide) rfl c_ref28_Parse L_ref28_Parse R_ref28_Parse
    (by intro x hx d; simp only [L_ref28_Parse, List.mem_cons, List.not_mem_nil, or_false] at hx; rcases hx with rfl | rfl; rfl; rfl)
    (by intro k x hx d out h; simp only [L_ref28_Parse, List.mem_cons, List.not_mem_nil, or_false] at hx; rcases hx with rfl | rfl; exact (q_ref28_Parse_6 k d).trans h; exact (q_ref28_Parse_9 k d).trans h)
    (by intro x hx; cases hx)
    (by intro k x hx; cases hx)
    (by intro d out h; obtain ⟨k, hk⟩ := hF d out h; exact ⟨k, (q_ref28_Parse_m k d).trans hk⟩)
def g_ref28_Parse (d : Unit × (((List Int) × Unit) × Unit)) : Option (Unit × ((Int × (Int × (Int × (Int × (Int × (Int × (Int × (Int × (Int × (Int × (Int × (Int × (Int × (Int × (Int × (Int × Unit)))))))))))))))) × Unit)) := lim fun k => f_ref28_Parse_m (f_ref28_Parse_t k) d
theorem ok_ref28_Parse : FnOk Try.prog ET0 55 pi_ref28_Parse po_ref28_Parse g_ref28_Parse := go_ref28_Parse g_ref28_Parse fun d out h => lim_some h

/- horologe/horologelaw28.HeadParses -/
@[reducible] def pi_law28_HeadParses : PSh := ⟨[], [.mk false [.v (.sl (.int .u8))], .mk false [.v (.int .i64)]]⟩
@[reducible] def po_law28_HeadParses : PSh := ⟨[], [.mk false [.v .bool]]⟩
def f_law28_HeadParses_m (T : Unit) (d : Unit × (((List Int) × Unit) × ((Int × Unit) × Unit))) : Option (Unit × ((Bool × Unit) × Unit)) :=
  (g_law28_alive ((), ())).bind fun x1 =>
  let x2 : Bool := (!x1.2.1.1)
  bif x2 then (
  some ((), ((false, ()), ())))
  else (
  let x3 : Int := (d.2.1.1.length : Int)
  let x4 : Bool := (decide (x3 > (300 : Int)))
  bif x4 then (
  some ((), ((true, ()), ())))
  else (
  let x5 : (List Int) := ([] : List Int)
  bif decide (((x5.length + d.2.1.1.length) * 1 : Nat) ≤ 140737488355328) && decide (x5.length + d.2.1.1.length ≤ 9223372036854775807) then (
  let x6 : (List Int) := (x5 ++ d.2.1.1)
  (g_head_Parse ((), ((x6, ()), ()))).bind fun x7 =>
  (g_head_First ((), ((x6, ()), ()))).bind fun x8 =>
  (g_hnum_Bytes ((), ((x6, ()), ((d.2.1.1, ()), ())))).bind fun x9 =>
  let x10 : Bool := (!x9.2.1.1)
  bif x10 then (
  some ((), ((false, ()), ())))
  else (
  (g_head_Mode ((), ((d.2.2.1.1, ()), ()))).bind fun x11 =>
  (g_ref28_Mode ((), ((d.2.2.1.1, ()), ()))).bind fun x12 =>
  let x13 : Bool := (!(x11.2.1.1.toList == x12.2.1.1.toList))
  bif x13 then (
  some ((), ((false, ()), ())))
  else (
  let x14 : Int := (d.2.1.1.length : Int)
  let x15 : Bool := (x14 == (0 : Int))
  bif x15 then (
  let x16 : Bool := ((x7.2.1.1 == (0 : Int)) && ((x7.2.1.2.1 == (0 : Int)) && ((x7.2.1.2.2.1 == (0 : Int)) && ((x7.2.1.2.2.2.1 == (0 : Int)) && ((x7.2.1.2.2.2.2.1 == (0 : Int)) && ((x7.2.1.2.2.2.2.2.1 == (0 : Int)) && ((x7.2.1.2.2.2.2.2.2.1 == (0 : Int)) && ((x7.2.1.2.2.2.2.2.2.2.1 == (0 : Int)) && ((x7.2.1.2.2.2.2.2.2.2.2.1 == (0 : Int)) && ((x7.2.1.2.2.2.2.2.2.2.2.2.1 == (0 : Int)) && ((x7.2.1.2.2.2.2.2.2.2.2.2.2.1 == (0 : Int)) && ((x7.2.1.2.2.2.2.2.2.2.2.2.2.2.1 == (0 : Int)) && ((x7.2.1.2.2.2.2.2.2.2.2.2.2.2.2.1 == (0 : Int)) && ((x7.2.1.2.2.2.2.2.2.2.2.2.2.2.2.2.1 == (0 : Int)) && ((x7.2.1.2.2.2.2.2.2.2.2.2.2.2.2.2.2.1 == (0 : Int)) && ((x7.2.1.2.2.2.2.2.2.2.2.2.2.2.2.2.2.2.1 == (0 : Int)) && ((x7.2.1.2.2.2.2.2.2.2.2.2.2.2.2.2.2.2.2.1 == (0 : Int)) && ((x7.2.1.2.2.2.2.2.2.2.2.2.2.2.2.2.2.2.2.2.1 == (0 : Int)) && ((x7.2.1.2.2.2.2.2.2.2.2.2.2.2.2.2.2.2.2.2.2.1 == (0 : Int)) && ((x7.2.1.2.2.2.2.2.2.2.2.2.2.2.2.2.2.2.2.2.2.2.1 == (0 : Int)) && ((x7.2.1.2.2.2.2.2.2.2.2.2.2.2.2.2.2.2.2.2.2.2.2.1 == (0 : Int)) && ((x7.2.1.2.2.2.2.2.2.2.2.2.2.2.2.2.2.2.2.2.2.2.2.2.1 == (0 : Int)) && true))))))))))))))))))))))
  bif x16 then (
  let x17 : Bool := (x8.2.1.1 == (0 : Int))
  bif x17 then (
  let x18 : Bool := (x8.2.2.1.1 == (0 : Int))
  bif x18 then (
  let x19 : Bool := (x8.2.2.2.1.1 == (0 : Int))
  bif x19 then (
  (g_hnum_Is ((), ((x7.2.2.1.1, ()), (((4 : Int), ()), ())))).bind fun x20 =>
  bif x20.2.1.1 then (
  (g_hnum_Is ((), ((x8.2.2.2.2.1.1, ()), (((4 : Int), ()), ())))).bind fun x21 =>
  some ((), ((x21.2.1.1, ()), ())))
  else (
  some ((), ((false, ()), ()))))
  else (
  some ((), ((false, ()), ()))))
  else (
  some ((), ((false, ()), ()))))
  else (
  some ((), ((false, ()), ()))))
  else (
  some ((), ((false, ()), ()))))
  else (
  let x22 : Bool := (!x8.2.2.2.2.1.1.isNone)
  bif x22 then (
  some ((), ((false, ()), ())))
  else (
  bif decide ((0 : Int) ≤ (0 : Int)) && decide ((0 : Int) < (d.2.1.1.length : Int)) then (
  let x23 : Int := (iconv .i64 (gd (.int .u8) d.2.1.1 (0 : Int)))
  let x24 : Int := (iquo .i64 x23 (64 : Int))
  let x25 : Bool := (x8.2.1.1 != x24)
  bif x25 then (
  some ((), ((false, ()), ())))
  else (
  bif decide ((0 : Int) ≤ (0 : Int)) && decide ((0 : Int) < (d.2.1.1.length : Int)) then (
  let x26 : Int := (iconv .i64 (gd (.int .u8) d.2.1.1 (0 : Int)))
  let x27 : Int := (iquo .i64 x26 (8 : Int))
  let x28 : Int := (Int.tmod x27 (8 : Int))
  let x29 : Bool := (x8.2.2.1.1 != x28)
  bif x29 then (
  some ((), ((false, ()), ())))
  else (
  bif decide ((0 : Int) ≤ (0 : Int)) && decide ((0 : Int) < (d.2.1.1.length : Int)) then (
  let x30 : Int := (iconv .i64 (gd (.int .u8) d.2.1.1 (0 : Int)))
  let x31 : Int := (Int.tmod x30 (8 : Int))
  let x32 : Bool := (x8.2.2.2.1.1 != x31)
  bif x32 then (
  some ((), ((false, ()), ())))
  else (
  let x33 : Int := (d.2.1.1.length : Int)
  let x34 : Bool := (decide (x33 < (48 : Int)))
  bif x34 then (
  let x35 : Bool := ((x7.2.1.1 == (0 : Int)) && ((x7.2.1.2.1 == (0 : Int)) && ((x7.2.1.2.2.1 == (0 : Int)) && ((x7.2.1.2.2.2.1 == (0 : Int)) && ((x7.2.1.2.2.2.2.1 == (0 : Int)) && ((x7.2.1.2.2.2.2.2.1 == (0 : Int)) && ((x7.2.1.2.2.2.2.2.2.1 == (0 : Int)) && ((x7.2.1.2.2.2.2.2.2.2.1 == (0 : Int)) && ((x7.2.1.2.2.2.2.2.2.2.2.1 == (0 : Int)) && ((x7.2.1.2.2.2.2.2.2.2.2.2.1 == (0 : Int)) && ((x7.2.1.2.2.2.2.2.2.2.2.2.2.1 == (0 : Int)) && ((x7.2.1.2.2.2.2.2.2.2.2.2.2.2.1 == (0 : Int)) && ((x7.2.1.2.2.2.2.2.2.2.2.2.2.2.2.1 == (0 : Int)) && ((x7.2.1.2.2.2.2.2.2.2.2.2.2.2.2.2.1 == (0 : Int)) && ((x7.2.1.2.2.2.2.2.2.2.2.2.2.2.2.2.2.1 == (0 : Int)) && ((x7.2.1.2.2.2.2.2.2.2.2.2.2.2.2.2.2.2.1 == (0 : Int)) && ((x7.2.1.2.2.2.2.2.2.2.2.2.2.2.2.2.2.2.2.1 == (0 : Int)) && ((x7.2.1.2.2.2.2.2.2.2.2.2.2.2.2.2.2.2.2.2.1 == (0 : Int)) && ((x7.2.1.2.2.2.2.2.2.2.2.2.2.2.2.2.2.2.2.2.2.1 == (0 : Int)) && ((x7.2.1.2.2.2.2.2.2.2.2.2.2.2.2.2.2.2.2.2.2.2.1 == (0 : Int)) && ((x7.2.1.2.2.2.2.2.2.2.2.2.2.2.2.2.2.2.2.2.2.2.2.1 == (0 : Int)) && ((x7.2.1.2.2.2.2.2.2.2.2.2.2.2.2.2.2.2.2.2.2.2.2.2.1 == (0 : Int)) && true))))))))))))))))))))))
  bif x35 then (
  (g_hnum_Is ((), ((x7.2.2.1.1, ()), (((4 : Int), ()), ())))).bind fun x36 =>
  some ((), ((x36.2.1.1, ()), ())))
  else (
  some ((), ((false, ()), ()))))
  else (
  bif x7.2.2.1.1.isNone then (
  (g_law28_Document ((), ((x7.2.1.1, (x7.2.1.2.1, (x7.2.1.2.2.1, (x7.2.1.2.2.2.1, (x7.2.1.2.2.2.2.1, (x7.2.1.2.2.2.2.2.1, (x7.2.1.2.2.2.2.2.2.1, (x7.2.1.2.2.2.2.2.2.2.1, (x7.2.1.2.2.2.2.2.2.2.2.1, (x7.2.1.2.2.2.2.2.2.2.2.2.1, (x7.2.1.2.2.2.2.2.2.2.2.2.2.1, (x7.2.1.2.2.2.2.2.2.2.2.2.2.2.1, (x7.2.1.2.2.2.2.2.2.2.2.2.2.2.2.1, (x7.2.1.2.2.2.2.2.2.2.2.2.2.2.2.2.1, (x7.2.1.2.2.2.2.2.2.2.2.2.2.2.2.2.2.1, (x7.2.1.2.2.2.2.2.2.2.2.2.2.2.2.2.2.2.1, (x7.2.1.2.2.2.2.2.2.2.2.2.2.2.2.2.2.2.2.1, (x7.2.1.2.2.2.2.2.2.2.2.2.2.2.2.2.2.2.2.2.1, (x7.2.1.2.2.2.2.2.2.2.2.2.2.2.2.2.2.2.2.2.2.1, (x7.2.1.2.2.2.2.2.2.2.2.2.2.2.2.2.2.2.2.2.2.2.1, (x7.2.1.2.2.2.2.2.2.2.2.2.2.2.2.2.2.2.2.2.2.2.2.1, (x7.2.1.2.2.2.2.2.2.2.2.2.2.2.2.2.2.2.2.2.2.2.2.2.1, ())))))))))))))))))))))), ()))).bind fun x37 =>
  (g_ref28_Parse ((), ((d.2.1.1, ()), ()))).bind fun x38 =>
  let x39 : Bool := ((x37.2.1.1 == x38.2.1.1) && ((x37.2.1.2.1 == x38.2.1.2.1) && ((x37.2.1.2.2.1 == x38.2.1.2.2.1) && ((x37.2.1.2.2.2.1 == x38.2.1.2.2.2.1) && ((x37.2.1.2.2.2.2.1 == x38.2.1.2.2.2.2.1) && ((x37.2.1.2.2.2.2.2.1 == x38.2.1.2.2.2.2.2.1) && ((x37.2.1.2.2.2.2.2.2.1 == x38.2.1.2.2.2.2.2.2.1) && ((x37.2.1.2.2.2.2.2.2.2.1 == x38.2.1.2.2.2.2.2.2.2.1) && ((x37.2.1.2.2.2.2.2.2.2.2.1 == x38.2.1.2.2.2.2.2.2.2.2.1) && ((x37.2.1.2.2.2.2.2.2.2.2.2.1 == x38.2.1.2.2.2.2.2.2.2.2.2.1) && ((x37.2.1.2.2.2.2.2.2.2.2.2.2.1 == x38.2.1.2.2.2.2.2.2.2.2.2.2.1) && ((x37.2.1.2.2.2.2.2.2.2.2.2.2.2.1 == x38.2.1.2.2.2.2.2.2.2.2.2.2.2.1) && ((x37.2.1.2.2.2.2.2.2.2.2.2.2.2.2.1 == x38.2.1.2.2.2.2.2.2.2.2.2.2.2.2.1) && ((x37.2.1.2.2.2.2.2.2.2.2.2.2.2.2.2.1 == x38.2.1.2.2.2.2.2.2.2.2.2.2.2.2.2.1) && ((x37.2.1.2.2.2.2.2.2.2.2.2.2.2.2.2.2.1 == x38.2.1.2.2.2.2.2.2.2.2.2.2.2.2.2.2.1) && ((x37.2.1.2.2.2.2.2.2.2.2.2.2.2.2.2.2.2.1 == x38.2.1.2.2.2.2.2.2.2.2.2.2.2.2.2.2.2.1) && true))))))))))))))))
  some ((), ((x39, ()), ())))
  else (
  some ((), ((false, ()), ()))))))
  else none))
  else none))
  else none)))))
  else none))
def c_law28_HeadParses : List Nat := []
def L_law28_HeadParses (_ : Nat) : Pts po_law28_HeadParses.den := []
def R_law28_HeadParses (_ : Nat) : PtsR po_law28_HeadParses.den := []
def E_law28_HeadParses : Env := (((((((((E0.add 11 (typedSem pi_law28_alive po_law28_alive g_law28_alive)).add 14 (typedSem pi_law28_Document po_law28_Document g_law28_Document)).add 17 (typedSem pi_hnum_Bytes po_hnum_Bytes g_hnum_Bytes)).add 42 (typedSem pi_hnum_Is po_hnum_Is g_hnum_Is)).add 49 (typedSem pi_head_Parse po_head_Parse g_head_Parse)).add 52 (typedSem pi_head_First po_head_First g_head_First)).add 53 (typedSem pi_head_Mode po_head_Mode g_head_Mode)).add 54 (typedSem pi_ref28_Mode po_ref28_Mode g_ref28_Mode)).add 55 (typedSem pi_ref28_Parse po_ref28_Parse g_ref28_Parse))
theorem q_law28_HeadParses_m (k : Nat) (d : Unit × (((List Int) × Unit) × ((Int × Unit) × Unit))) : evCode E_law28_HeadParses (tb (L_law28_HeadParses k) (R_law28_HeadParses k)) c_law28_HeadParses (bodyOf Try.f10) 0 (finK E_law28_HeadParses po_law28_HeadParses [.tmp 4]) (startSt pi_law28_HeadParses 118 d) = f_law28_HeadParses_m () d := by kernel_rfl
def g_law28_HeadParses (d : Unit × (((List Int) × Unit) × ((Int × Unit) × Unit))) : Option (Unit × ((Bool × Unit) × Unit)) := f_law28_HeadParses_m () d
theorem ok_law28_HeadParses : FnOk Try.prog ET0 10 pi_law28_HeadParses po_law28_HeadParses g_law28_HeadParses :=
  fn_of_body (E := E_law28_HeadParses) (envOk_add (envOk_add (envOk_add (envOk_add (envOk_add (envOk_add (envOk_add (envOk_add (envOk_add e0_ok (typed_ok ok_law28_alive)) (typed_ok ok_law28_Document)) (typed_ok ok_hnum_Bytes)) (typed_ok ok_hnum_Is)) (typed_ok ok_head_Parse)) (typed_ok ok_head_First)) (typed_ok ok_head_Mode)) (typed_ok ok_ref28_Mode)) (typed_ok ok_ref28_Parse)) (fn := Try.f10) Try.func10 (by kernel_rfl) (by kernel_rfl) [.tmp 4] (by kernel_rfl) (by kernel_rfl) (by decide) rfl c_law28_HeadParses L_law28_HeadParses R_law28_HeadParses
    (by intro x hx; cases hx) (by intro k x hx; cases hx) (by intro x hx; cases hx) (by intro k x hx; cases hx) (fun d out h => ⟨0, (q_law28_HeadParses_m 0 d).trans h⟩)
end
end Go.Proofs.Ythcegipmninkdaa.Ev
