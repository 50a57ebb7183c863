/- Printed by wip/tools/evgen.py. -/
import Derived.Test.YtodnllhjikeafaaEvE
import Derived.Test.YtodnllhjikeafaaProg
import Derived.KernelRfl
set_option maxRecDepth 100000
set_option maxHeartbeats 2000000
set_option linter.unusedVariables false
namespace Go.Proofs.Ytodnllhjikeafaa.Ev
open Go
noncomputable section
@[reducible] def vI : LSh := .v (.int .i64)
@[reducible] def vB : LSh := .v .bool
@[reducible] def vS : LSh := .v .str
@[reducible] def vE : LSh := .v .err
@[reducible] def v8 : LSh := .v (.int .u8)
def rows0 : List (TypeId × Row) := [
  (3, ⟨.int .i64, 1, 8, (.int .i64), [AV.val (.int .i64) (0 : Int)], none⟩),
  (5, ⟨.int .u8, 1, 1, (.int .u8), [AV.val (.int .u8) (0 : Int)], none⟩),
  (9, ⟨.str, 1, 16, .str, [AV.val .str ByteArray.empty], none⟩),
  (22, ⟨.slice 5, 1, 24, (.sl (.int .u8)), [AV.nilS], none⟩),
  (23, ⟨.arr 2 3, 2, 16, (.pair (.int .i64) (.int .i64)), [AV.val (.int .i64) (0 : Int), AV.val (.int .i64) (0 : Int)], some [.int .i64, .int .i64]⟩),
  (24, ⟨.int .u64, 1, 8, (.int .u64), [AV.val (.int .u64) (0 : Int)], none⟩),
  (28, ⟨.int .u16, 1, 2, (.int .u16), [AV.val (.int .u16) (0 : Int)], none⟩),
  (30, ⟨.int .u32, 1, 4, (.int .u32), [AV.val (.int .u32) (0 : Int)], none⟩),
  (43, ⟨.iface, 1, 16, .err, [AV.val .err (none : Option Int)], none⟩),
  (81, ⟨.int .i64, 1, 8, (.int .i64), [AV.val (.int .i64) (0 : Int)], none⟩),
  (97, ⟨.slice 28, 1, 24, (.sl (.int .u16)), [AV.nilS], none⟩),
  (109, ⟨.slice 30, 1, 24, (.sl (.int .u32)), [AV.nilS], none⟩),
  (112, ⟨.slice 24, 1, 24, (.sl (.int .u64)), [AV.nilS], none⟩)]
def ET0 : TypeId := 81
def E0 : Env := ⟨rows0, [], ET0, 0, [], [], []⟩
theorem e0_ok : EnvOk Try.prog E0 := envOk_rows (by kernel_rfl) (by kernel_rfl) 0

@[reducible] def pi_octets_Size_u16 : PSh := ⟨[], []⟩
@[reducible] def po_octets_Size_u16 : PSh := ⟨[], [.mk false [vI]]⟩
@[reducible] def TT_octets_Size_u16 : Type := (((Unit × ((Int × Unit) × ((Int × Unit) × Unit))) → Option (Unit × ((Int × Unit) × Unit))) × Unit)
@[reducible] def sh_octets_Size_u16_4 : PSh := ⟨[], [.any, .mk false [vI], .mk false [.v (.int .u16)], .any, .any, .any, .any, .any, .any, .any, .any, .any, .any, .any]⟩
def f_octets_Size_u16_p4 (T : TT_octets_Size_u16) (d : Unit × ((Int × Unit) × ((Int × Unit) × Unit))) : Option (Unit × ((Int × Unit) × Unit)) :=
  let x3 : Bool := (decide (d.2.2.1.1 > (0 : Int)))
  bif x3 then (
  let x4 : Int := (iadd .i64 d.2.1.1 (1 : Int))
  let x5 : Int := (iconv .u64 d.2.2.1.1)
  let x6 : Int := (ishr .u64 x5 (8 : Int))
  let x7 : Int := (iconv .u16 x6)
  (T.1 ((), ((x4, ()), ((x7, ()), ())))))
  else (
  some ((), (d.2.1, ())))
def f_octets_Size_u16_t : Nat → TT_octets_Size_u16
  | 0 => (fun _ => none, ())
  | k + 1 => (f_octets_Size_u16_p4 (f_octets_Size_u16_t k), ())
theorem t_octets_Size_u16 (k : Nat) : f_octets_Size_u16_t (k + 1) = (f_octets_Size_u16_p4 (f_octets_Size_u16_t k), ()) := rfl
def f_octets_Size_u16_m (T : TT_octets_Size_u16) (d : Unit × Unit) : Option (Unit × ((Int × Unit) × Unit)) :=
  let x1 : Int := (iconv .u16 (0 : Int))
  let x2 : Int := (inot .u16 x1)
  (T.1 ((), (((0 : Int), ()), ((x2, ()), ()))))
def c_octets_Size_u16 : List Nat := []
def L_octets_Size_u16 (k : Nat) : Pts po_octets_Size_u16.den := [(4, ⟨sh_octets_Size_u16_4, (f_octets_Size_u16_t k).1⟩)]
def R_octets_Size_u16 (_ : Nat) : PtsR po_octets_Size_u16.den := []
def E_octets_Size_u16 : Env := E0
theorem q_octets_Size_u16_4 (k : Nat) (d : sh_octets_Size_u16_4.den) : evAt E_octets_Size_u16 (tb (L_octets_Size_u16 k) (R_octets_Size_u16 k)) c_octets_Size_u16 4 (bodyOf Try.f29) 0 (finK E_octets_Size_u16 po_octets_Size_u16 [.tmp 0]) (ptSt sh_octets_Size_u16_4 d) = f_octets_Size_u16_p4 (f_octets_Size_u16_t k) d := by kernel_rfl
theorem q_octets_Size_u16_m (k : Nat) (d : pi_octets_Size_u16.den) : evCode E_octets_Size_u16 (tb (L_octets_Size_u16 k) (R_octets_Size_u16 k)) c_octets_Size_u16 (bodyOf Try.f29) 0 (finK E_octets_Size_u16 po_octets_Size_u16 [.tmp 0]) (startSt pi_octets_Size_u16 14 d) = f_octets_Size_u16_m (f_octets_Size_u16_t k) d := by kernel_rfl
def g_octets_Size_u16 (d : Unit × Unit) : Option (Unit × ((Int × Unit) × Unit)) := lim fun k => f_octets_Size_u16_m (f_octets_Size_u16_t k) d
theorem ok_octets_Size_u16 : FnOk Try.prog ET0 29 pi_octets_Size_u16 po_octets_Size_u16 g_octets_Size_u16 :=
  fn_of_body (E := E_octets_Size_u16) e0_ok (fn := Try.f29) Try.func29 (by kernel_rfl) (by kernel_rfl) [.tmp 0] (by kernel_rfl) (by kernel_rfl) (by decide) rfl c_octets_Size_u16 L_octets_Size_u16 R_octets_Size_u16
    (by intro x hx d; simp only [L_octets_Size_u16, List.mem_cons, List.not_mem_nil, or_false] at hx; subst hx; rfl)
    (by intro k x hx d out h; simp only [L_octets_Size_u16, List.mem_cons, List.not_mem_nil, or_false] at hx; subst hx; exact (q_octets_Size_u16_4 k d).trans h)
    (by intro x hx; cases hx)
    (by intro k x hx; cases hx)
    (by intro d out h; obtain ⟨k, hk⟩ := lim_some h; exact ⟨k, (q_octets_Size_u16_m k d).trans hk⟩)

@[reducible] def pi_slices_Clone_byte_byte : PSh := ⟨[], [.mk false [.v (.sl (.int .u8))]]⟩
@[reducible] def po_slices_Clone_byte_byte : PSh := ⟨[.row 5 (.int .u8)], [.mk false [.osl 0]]⟩
def f_slices_Clone_byte_byte_m (T : Unit) (d : Unit × (((List Int) × Unit) × Unit)) : Option (((List Int) × Unit) × (Unit × Unit)) :=
  bif d.2.1.1.isEmpty then (
  agree (
  some ((([] : List Int), ()), ((), ()))) (
  let x1 : (List Int) := ([] : List Int)
  bif decide (((x1.length + d.2.1.1.length) * 1 : Nat) ≤ 140737488355328) && decide (x1.length + d.2.1.1.length ≤ 9223372036854775807) then (
  let x2 : (List Int) := (x1 ++ d.2.1.1)
  some ((x2, ()), ((), ())))
  else none))
  else (
  let x3 : (List Int) := ([] : List Int)
  bif decide (((x3.length + d.2.1.1.length) * 1 : Nat) ≤ 140737488355328) && decide (x3.length + d.2.1.1.length ≤ 9223372036854775807) then (
  let x4 : (List Int) := (x3 ++ d.2.1.1)
  some ((x4, ()), ((), ())))
  else none)
def g_slices_Clone_byte_byte (d : Unit × (((List Int) × Unit) × Unit)) : Option (((List Int) × Unit) × (Unit × Unit)) := f_slices_Clone_byte_byte_m () d
theorem ok_slices_Clone_byte_byte : FnOk Try.prog ET0 51 pi_slices_Clone_byte_byte po_slices_Clone_byte_byte g_slices_Clone_byte_byte :=
  fn0 (E := E0) e0_ok (fn := Try.f51) Try.func51 (by kernel_rfl) (by kernel_rfl) [.tmp 2] (by kernel_rfl) rfl rfl rfl [] fun d => by kernel_rfl

@[reducible] def pi_octets_Put_u16 : PSh := ⟨[], [.mk false [.v (.sl (.int .u8))], .mk false [.v (.sl (.int .u16))]]⟩
@[reducible] def po_octets_Put_u16 : PSh := ⟨[.row 5 (.int .u8)], [.mk false [.osl 0]]⟩
@[reducible] def TT_octets_Put_u16 : Type := (((((List Int) × Unit) × ((Int × Unit) × (Unit × (((List Int) × Unit) × ((Int × Unit) × ((Int × Unit) × Unit)))))) → Option (((List Int) × Unit) × (Unit × Unit))) × (((((List Int) × Unit) × ((Int × Unit) × (Unit × ((Int × Unit) × ((Int × Unit) × (((List Int) × Unit) × ((Int × Unit) × ((Int × Unit) × Unit)))))))) → Option (((List Int) × Unit) × (Unit × Unit))) × Unit))
@[reducible] def sh_octets_Put_u16_5 : PSh := ⟨[.row 5 (.int .u8)], [.any, .any, .any, .any, .any, .mk false [vI], .mk false [.osl 0], .any, .any, .any, .any, .any, .any, .mk false [.v (.sl (.int .u16))], .mk false [vI], .mk false [vI], .any, .any, .any, .any, .any, .any, .any, .any, .any, .any, .any, .any, .any, .any, .any, .any, .any, .any, .any, .any]⟩
@[reducible] def sh_octets_Put_u16_11 : PSh := ⟨[.row 5 (.int .u8)], [.any, .any, .any, .any, .any, .mk false [vI], .mk false [.osl 0], .any, .mk false [.v (.int .u16)], .mk false [vI], .any, .any, .any, .mk false [.v (.sl (.int .u16))], .mk false [vI], .mk false [vI], .any, .any, .any, .any, .any, .any, .any, .any, .any, .any, .any, .any, .any, .any, .any, .any, .any, .any, .any, .any]⟩
def f_octets_Put_u16_p5 (T : TT_octets_Put_u16) (d : ((List Int) × Unit) × ((Int × Unit) × (Unit × (((List Int) × Unit) × ((Int × Unit) × ((Int × Unit) × Unit)))))) : Option (((List Int) × Unit) × (Unit × Unit)) :=
  let x4 : Bool := (decide (d.2.2.2.2.2.1.1 < d.2.2.2.2.1.1))
  bif x4 then (
  bif decide ((0 : Int) ≤ d.2.2.2.2.2.1.1) && decide (d.2.2.2.2.2.1.1 < (d.2.2.2.1.1.length : Int)) then (
  let x5 : Int := (isub .i64 d.2.1.1 (1 : Int))
  (T.2.1 (d.1, (d.2.1, ((), (((gd (.int .u16) d.2.2.2.1.1 d.2.2.2.2.2.1.1), ()), ((x5, ()), d.2.2.2)))))))
  else none)
  else (
  some (d.1, ((), ())))
def f_octets_Put_u16_p11 (T : TT_octets_Put_u16) (d : ((List Int) × Unit) × ((Int × Unit) × (Unit × ((Int × Unit) × ((Int × Unit) × (((List Int) × Unit) × ((Int × Unit) × ((Int × Unit) × Unit)))))))) : Option (((List Int) × Unit) × (Unit × Unit)) :=
  let x6 : Bool := (decide (d.2.2.2.2.1.1 ≥ (0 : Int)))
  bif x6 then (
  let x7 : Int := (iconv .u64 d.2.2.2.1.1)
  let x8 : Int := (imul .i64 (8 : Int) d.2.2.2.2.1.1)
  bif decide (x8 < 0) then (
  none)
  else (
  let x9 : Int := (ishr .u64 x7 x8)
  let x10 : Int := (iconv .u8 x9)
  let x11 : (List Int) := ([x10] : List Int)
  bif decide (((d.1.1.length + x11.length) * 1 : Nat) ≤ 140737488355328) && decide (d.1.1.length + x11.length ≤ 9223372036854775807) then (
  let x12 : (List Int) := (d.1.1 ++ x11)
  let x13 : Int := (isub .i64 d.2.2.2.2.1.1 (1 : Int))
  (T.2.1 ((x12, ()), (d.2.1, ((), (d.2.2.2.1, ((x13, ()), d.2.2.2.2.2)))))))
  else none))
  else (
  let x14 : Int := (iadd .i64 d.2.2.2.2.2.2.2.1.1 (1 : Int))
  (T.1 (d.1, (d.2.1, ((), (d.2.2.2.2.2.1, (d.2.2.2.2.2.2.1, ((x14, ()), ()))))))))
def f_octets_Put_u16_t : Nat → TT_octets_Put_u16
  | 0 => (fun _ => none, (fun _ => none, ()))
  | k + 1 => (f_octets_Put_u16_p5 (f_octets_Put_u16_t k), (f_octets_Put_u16_p11 (f_octets_Put_u16_t k), ()))
theorem t_octets_Put_u16 (k : Nat) : f_octets_Put_u16_t (k + 1) = (f_octets_Put_u16_p5 (f_octets_Put_u16_t k), (f_octets_Put_u16_p11 (f_octets_Put_u16_t k), ())) := rfl
def f_octets_Put_u16_m (T : TT_octets_Put_u16) (d : Unit × (((List Int) × Unit) × (((List Int) × Unit) × Unit))) : Option (((List Int) × Unit) × (Unit × Unit)) :=
  (g_octets_Size_u16 ((), ())).bind fun x1 =>
  (g_slices_Clone_byte_byte ((), (d.2.1, ()))).bind fun x2 =>
  let x3 : Int := (d.2.2.1.1.length : Int)
  (T.1 (x2.1, (x1.2.1, ((), (d.2.2.1, ((x3, ()), (((0 : Int), ()), ())))))))
def c_octets_Put_u16 : List Nat := []
def L_octets_Put_u16 (k : Nat) : Pts po_octets_Put_u16.den := [(5, ⟨sh_octets_Put_u16_5, (f_octets_Put_u16_t k).1⟩), (11, ⟨sh_octets_Put_u16_11, (f_octets_Put_u16_t k).2.1⟩)]
def R_octets_Put_u16 (_ : Nat) : PtsR po_octets_Put_u16.den := []
def E_octets_Put_u16 : Env := ((E0.add 29 (typedSem pi_octets_Size_u16 po_octets_Size_u16 g_octets_Size_u16)).add 51 (typedSem pi_slices_Clone_byte_byte po_slices_Clone_byte_byte g_slices_Clone_byte_byte))
theorem q_octets_Put_u16_5 (k : Nat) (d : sh_octets_Put_u16_5.den) : evAt E_octets_Put_u16 (tb (L_octets_Put_u16 k) (R_octets_Put_u16 k)) c_octets_Put_u16 5 (bodyOf Try.f20) 0 (finK E_octets_Put_u16 po_octets_Put_u16 [.tmp 4]) (ptSt sh_octets_Put_u16_5 d) = f_octets_Put_u16_p5 (f_octets_Put_u16_t k) d := by kernel_rfl
theorem q_octets_Put_u16_11 (k : Nat) (d : sh_octets_Put_u16_11.den) : evAt E_octets_Put_u16 (tb (L_octets_Put_u16 k) (R_octets_Put_u16 k)) c_octets_Put_u16 11 (bodyOf Try.f20) 0 (finK E_octets_Put_u16 po_octets_Put_u16 [.tmp 4]) (ptSt sh_octets_Put_u16_11 d) = f_octets_Put_u16_p11 (f_octets_Put_u16_t k) d := by kernel_rfl
theorem q_octets_Put_u16_m (k : Nat) (d : pi_octets_Put_u16.den) : evCode E_octets_Put_u16 (tb (L_octets_Put_u16 k) (R_octets_Put_u16 k)) c_octets_Put_u16 (bodyOf Try.f20) 0 (finK E_octets_Put_u16 po_octets_Put_u16 [.tmp 4]) (startSt pi_octets_Put_u16 36 d) = f_octets_Put_u16_m (f_octets_Put_u16_t k) d := by kernel_rfl
def g_octets_Put_u16 (d : Unit × (((List Int) × Unit) × (((List Int) × Unit) × Unit))) : Option (((List Int) × Unit) × (Unit × Unit)) := lim fun k => f_octets_Put_u16_m (f_octets_Put_u16_t k) d
theorem ok_octets_Put_u16 : FnOk Try.prog ET0 20 pi_octets_Put_u16 po_octets_Put_u16 g_octets_Put_u16 :=
  fn_of_body (E := E_octets_Put_u16) (envOk_add (envOk_add e0_ok (typed_ok ok_octets_Size_u16)) (typed_ok ok_slices_Clone_byte_byte)) (fn := Try.f20) Try.func20 (by kernel_rfl) (by kernel_rfl) [.tmp 4] (by kernel_rfl) (by kernel_rfl) (by decide) rfl c_octets_Put_u16 L_octets_Put_u16 R_octets_Put_u16
    (by intro x hx d; simp only [L_octets_Put_u16, List.mem_cons, List.not_mem_nil, or_false] at hx; rcases hx with rfl | rfl; rfl; rfl)
    (by intro k x hx d out h; simp only [L_octets_Put_u16, List.mem_cons, List.not_mem_nil, or_false] at hx; rcases hx with rfl | rfl; exact (q_octets_Put_u16_5 k d).trans h; exact (q_octets_Put_u16_11 k d).trans h)
    (by intro x hx; cases hx)
    (by intro k x hx; cases hx)
    (by intro d out h; obtain ⟨k, hk⟩ := lim_some h; exact ⟨k, (q_octets_Put_u16_m k d).trans hk⟩)

@[reducible] def pi_octets_Size_u64 : PSh := ⟨[], []⟩
@[reducible] def po_octets_Size_u64 : PSh := ⟨[], [.mk false [vI]]⟩
@[reducible] def TT_octets_Size_u64 : Type := (((Unit × ((Int × Unit) × ((Int × Unit) × Unit))) → Option (Unit × ((Int × Unit) × Unit))) × Unit)
@[reducible] def sh_octets_Size_u64_4 : PSh := ⟨[], [.any, .mk false [vI], .mk false [.v (.int .u64)], .any, .any, .any, .any, .any, .any, .any, .any, .any]⟩
def f_octets_Size_u64_p4 (T : TT_octets_Size_u64) (d : Unit × ((Int × Unit) × ((Int × Unit) × Unit))) : Option (Unit × ((Int × Unit) × Unit)) :=
  let x3 : Bool := (decide (d.2.2.1.1 > (0 : Int)))
  bif x3 then (
  let x4 : Int := (iadd .i64 d.2.1.1 (1 : Int))
  let x5 : Int := (ishr .u64 d.2.2.1.1 (8 : Int))
  (T.1 ((), ((x4, ()), ((x5, ()), ())))))
  else (
  some ((), (d.2.1, ())))
def f_octets_Size_u64_t : Nat → TT_octets_Size_u64
  | 0 => (fun _ => none, ())
  | k + 1 => (f_octets_Size_u64_p4 (f_octets_Size_u64_t k), ())
theorem t_octets_Size_u64 (k : Nat) : f_octets_Size_u64_t (k + 1) = (f_octets_Size_u64_p4 (f_octets_Size_u64_t k), ()) := rfl
def f_octets_Size_u64_m (T : TT_octets_Size_u64) (d : Unit × Unit) : Option (Unit × ((Int × Unit) × Unit)) :=
  let x1 : Int := (iconv .u64 (0 : Int))
  let x2 : Int := (inot .u64 x1)
  (T.1 ((), (((0 : Int), ()), ((x2, ()), ()))))
def c_octets_Size_u64 : List Nat := []
def L_octets_Size_u64 (k : Nat) : Pts po_octets_Size_u64.den := [(4, ⟨sh_octets_Size_u64_4, (f_octets_Size_u64_t k).1⟩)]
def R_octets_Size_u64 (_ : Nat) : PtsR po_octets_Size_u64.den := []
def E_octets_Size_u64 : Env := E0
theorem q_octets_Size_u64_4 (k : Nat) (d : sh_octets_Size_u64_4.den) : evAt E_octets_Size_u64 (tb (L_octets_Size_u64 k) (R_octets_Size_u64 k)) c_octets_Size_u64 4 (bodyOf Try.f21) 0 (finK E_octets_Size_u64 po_octets_Size_u64 [.tmp 0]) (ptSt sh_octets_Size_u64_4 d) = f_octets_Size_u64_p4 (f_octets_Size_u64_t k) d := by kernel_rfl
theorem q_octets_Size_u64_m (k : Nat) (d : pi_octets_Size_u64.den) : evCode E_octets_Size_u64 (tb (L_octets_Size_u64 k) (R_octets_Size_u64 k)) c_octets_Size_u64 (bodyOf Try.f21) 0 (finK E_octets_Size_u64 po_octets_Size_u64 [.tmp 0]) (startSt pi_octets_Size_u64 12 d) = f_octets_Size_u64_m (f_octets_Size_u64_t k) d := by kernel_rfl
def g_octets_Size_u64 (d : Unit × Unit) : Option (Unit × ((Int × Unit) × Unit)) := lim fun k => f_octets_Size_u64_m (f_octets_Size_u64_t k) d
theorem ok_octets_Size_u64 : FnOk Try.prog ET0 21 pi_octets_Size_u64 po_octets_Size_u64 g_octets_Size_u64 :=
  fn_of_body (E := E_octets_Size_u64) e0_ok (fn := Try.f21) Try.func21 (by kernel_rfl) (by kernel_rfl) [.tmp 0] (by kernel_rfl) (by kernel_rfl) (by decide) rfl c_octets_Size_u64 L_octets_Size_u64 R_octets_Size_u64
    (by intro x hx d; simp only [L_octets_Size_u64, List.mem_cons, List.not_mem_nil, or_false] at hx; subst hx; rfl)
    (by intro k x hx d out h; simp only [L_octets_Size_u64, List.mem_cons, List.not_mem_nil, or_false] at hx; subst hx; exact (q_octets_Size_u64_4 k d).trans h)
    (by intro x hx; cases hx)
    (by intro k x hx; cases hx)
    (by intro d out h; obtain ⟨k, hk⟩ := lim_some h; exact ⟨k, (q_octets_Size_u64_m k d).trans hk⟩)

@[reducible] def pi_law03_alive : PSh := ⟨[], []⟩
@[reducible] def po_law03_alive : PSh := ⟨[], [.mk false [vB]]⟩
def f_law03_alive_m (T : Unit) (d : Unit × Unit) : Option (Unit × ((Bool × Unit) × Unit)) :=
  let x1 : (List Int) := ([(258 : Int)] : List Int)
  (g_octets_Put_u16 ((), ((([] : List Int), ()), ((x1, ()), ())))).bind fun x2 =>
  let x3 : Int := (x2.1.1.length : Int)
  let x4 : Bool := (x3 == (2 : Int))
  bif x4 then (
  bif decide ((0 : Int) ≤ (0 : Int)) && decide ((0 : Int) < (x2.1.1.length : Int)) then (
  let x5 : Bool := ((gd (.int .u8) x2.1.1 (0 : Int)) == (1 : Int))
  bif x5 then (
  bif decide ((0 : Int) ≤ (1 : Int)) && decide ((1 : Int) < (x2.1.1.length : Int)) then (
  let x6 : Bool := ((gd (.int .u8) x2.1.1 (1 : Int)) == (2 : Int))
  bif x6 then (
  (g_octets_Size_u64 ((), ())).bind fun x7 =>
  let x8 : Bool := (x7.2.1.1 == (8 : Int))
  some ((), ((x8, ()), ())))
  else (
  some ((), ((false, ()), ()))))
  else none)
  else (
  some ((), ((false, ()), ()))))
  else none)
  else (
  some ((), ((false, ()), ())))
def g_law03_alive (d : Unit × Unit) : Option (Unit × ((Bool × Unit) × Unit)) := f_law03_alive_m () d
theorem ok_law03_alive : FnOk Try.prog ET0 5 pi_law03_alive po_law03_alive g_law03_alive :=
  fn0 (E := ((E0.add 20 (typedSem pi_octets_Put_u16 po_octets_Put_u16 g_octets_Put_u16)).add 21 (typedSem pi_octets_Size_u64 po_octets_Size_u64 g_octets_Size_u64))) (envOk_add (envOk_add e0_ok (typed_ok ok_octets_Put_u16)) (typed_ok ok_octets_Size_u64)) (fn := Try.f5) Try.func5 (by kernel_rfl) (by kernel_rfl) [.tmp 0] (by kernel_rfl) rfl rfl rfl [] fun d => by kernel_rfl

@[reducible] def pi_hnum_Num : PSh := ⟨[], [.mk false [vE]]⟩
@[reducible] def po_hnum_Num : PSh := ⟨[], [.mk false [vI]]⟩
def f_hnum_Num_m (T : Unit) (d : Unit × (((Option Int) × Unit) × Unit)) : Option (Unit × ((Int × Unit) × Unit)) :=
  bif d.2.1.1.isNone then (
  some ((), (((0 : Int), ()), ())))
  else (
  bif d.2.1.1.isSome then (
  let x1 : Bool := ((d.2.1.1.getD 0) != (0 : Int))
  bif x1 then (
  some ((), (((d.2.1.1.getD 0), ()), ())))
  else (
  some ((), (((-1 : Int), ()), ()))))
  else (
  some ((), (((-1 : Int), ()), ()))))
def g_hnum_Num (d : Unit × (((Option Int) × Unit) × Unit)) : Option (Unit × ((Int × Unit) × Unit)) := f_hnum_Num_m () d
theorem ok_hnum_Num : FnOk Try.prog ET0 18 pi_hnum_Num po_hnum_Num g_hnum_Num :=
  fn0 (E := E0) e0_ok (fn := Try.f18) Try.func18 (by kernel_rfl) (by kernel_rfl) [.tmp 2] (by kernel_rfl) rfl rfl rfl [] fun d => by kernel_rfl

@[reducible] def pi_hnum_Bytes : PSh := ⟨[], [.mk false [.v (.sl (.int .u8))], .mk false [.v (.sl (.int .u8))]]⟩
@[reducible] def po_hnum_Bytes : PSh := ⟨[], [.mk false [vB]]⟩
def f_hnum_Bytes_m (T : Unit) (d : Unit × (((List Int) × Unit) × (((List Int) × Unit) × Unit))) : Option (Unit × ((Bool × Unit) × Unit)) :=
  let x1 : ByteArray := (strOf d.2.1.1)
  let x2 : ByteArray := (strOf d.2.2.1.1)
  let x3 : Bool := (x1.toList == x2.toList)
  some ((), ((x3, ()), ()))
def g_hnum_Bytes (d : Unit × (((List Int) × Unit) × (((List Int) × Unit) × Unit))) : Option (Unit × ((Bool × Unit) × Unit)) := f_hnum_Bytes_m () d
theorem ok_hnum_Bytes : FnOk Try.prog ET0 19 pi_hnum_Bytes po_hnum_Bytes g_hnum_Bytes :=
  fn0 (E := E0) e0_ok (fn := Try.f19) Try.func19 (by kernel_rfl) (by kernel_rfl) [.tmp 4] (by kernel_rfl) rfl rfl rfl [] fun d => by kernel_rfl

@[reducible] def pi_octets_Size_u8 : PSh := ⟨[], []⟩
@[reducible] def po_octets_Size_u8 : PSh := ⟨[], [.mk false [vI]]⟩
@[reducible] def TT_octets_Size_u8 : Type := (((Unit × ((Int × Unit) × ((Int × Unit) × Unit))) → Option (Unit × ((Int × Unit) × Unit))) × Unit)
@[reducible] def sh_octets_Size_u8_4 : PSh := ⟨[], [.any, .mk false [vI], .mk false [v8], .any, .any, .any, .any, .any, .any, .any, .any, .any, .any, .any]⟩
def f_octets_Size_u8_p4 (T : TT_octets_Size_u8) (d : Unit × ((Int × Unit) × ((Int × Unit) × Unit))) : Option (Unit × ((Int × Unit) × Unit)) :=
  let x3 : Bool := (decide (d.2.2.1.1 > (0 : Int)))
  bif x3 then (
  let x4 : Int := (iadd .i64 d.2.1.1 (1 : Int))
  let x5 : Int := (iconv .u64 d.2.2.1.1)
  let x6 : Int := (ishr .u64 x5 (8 : Int))
  let x7 : Int := (iconv .u8 x6)
  (T.1 ((), ((x4, ()), ((x7, ()), ())))))
  else (
  some ((), (d.2.1, ())))
def f_octets_Size_u8_t : Nat → TT_octets_Size_u8
  | 0 => (fun _ => none, ())
  | k + 1 => (f_octets_Size_u8_p4 (f_octets_Size_u8_t k), ())
theorem t_octets_Size_u8 (k : Nat) : f_octets_Size_u8_t (k + 1) = (f_octets_Size_u8_p4 (f_octets_Size_u8_t k), ()) := rfl
def f_octets_Size_u8_m (T : TT_octets_Size_u8) (d : Unit × Unit) : Option (Unit × ((Int × Unit) × Unit)) :=
  let x1 : Int := (iconv .u8 (0 : Int))
  let x2 : Int := (inot .u8 x1)
  (T.1 ((), (((0 : Int), ()), ((x2, ()), ()))))
def c_octets_Size_u8 : List Nat := []
def L_octets_Size_u8 (k : Nat) : Pts po_octets_Size_u8.den := [(4, ⟨sh_octets_Size_u8_4, (f_octets_Size_u8_t k).1⟩)]
def R_octets_Size_u8 (_ : Nat) : PtsR po_octets_Size_u8.den := []
def E_octets_Size_u8 : Env := E0
theorem q_octets_Size_u8_4 (k : Nat) (d : sh_octets_Size_u8_4.den) : evAt E_octets_Size_u8 (tb (L_octets_Size_u8 k) (R_octets_Size_u8 k)) c_octets_Size_u8 4 (bodyOf Try.f22) 0 (finK E_octets_Size_u8 po_octets_Size_u8 [.tmp 0]) (ptSt sh_octets_Size_u8_4 d) = f_octets_Size_u8_p4 (f_octets_Size_u8_t k) d := by kernel_rfl
theorem q_octets_Size_u8_m (k : Nat) (d : pi_octets_Size_u8.den) : evCode E_octets_Size_u8 (tb (L_octets_Size_u8 k) (R_octets_Size_u8 k)) c_octets_Size_u8 (bodyOf Try.f22) 0 (finK E_octets_Size_u8 po_octets_Size_u8 [.tmp 0]) (startSt pi_octets_Size_u8 14 d) = f_octets_Size_u8_m (f_octets_Size_u8_t k) d := by kernel_rfl
def g_octets_Size_u8 (d : Unit × Unit) : Option (Unit × ((Int × Unit) × Unit)) := lim fun k => f_octets_Size_u8_m (f_octets_Size_u8_t k) d
theorem ok_octets_Size_u8 : FnOk Try.prog ET0 22 pi_octets_Size_u8 po_octets_Size_u8 g_octets_Size_u8 :=
  fn_of_body (E := E_octets_Size_u8) e0_ok (fn := Try.f22) Try.func22 (by kernel_rfl) (by kernel_rfl) [.tmp 0] (by kernel_rfl) (by kernel_rfl) (by decide) rfl c_octets_Size_u8 L_octets_Size_u8 R_octets_Size_u8
    (by intro x hx d; simp only [L_octets_Size_u8, List.mem_cons, List.not_mem_nil, or_false] at hx; subst hx; rfl)
    (by intro k x hx d out h; simp only [L_octets_Size_u8, List.mem_cons, List.not_mem_nil, or_false] at hx; subst hx; exact (q_octets_Size_u8_4 k d).trans h)
    (by intro x hx; cases hx)
    (by intro k x hx; cases hx)
    (by intro d out h; obtain ⟨k, hk⟩ := lim_some h; exact ⟨k, (q_octets_Size_u8_m k d).trans hk⟩)

@[reducible] def pi_octets_from : PSh := ⟨[], [.mk false [.v (.sl (.int .u8))], .mk false [vI], .mk false [vI]]⟩
@[reducible] def po_octets_from : PSh := ⟨[], [.mk false [.v (.sl (.int .u8))], .mk false [vE]]⟩
def f_octets_from_m (T : Unit) (d : Unit × (((List Int) × Unit) × ((Int × Unit) × ((Int × Unit) × Unit)))) : Option (Unit × (((List Int) × Unit) × (((Option Int) × Unit) × Unit))) :=
  let x1 : Bool := (decide (d.2.2.1.1 < (0 : Int)))
  bif x1 then (
  let x2 : (Option Int) := (some (1 : Int))
  some ((), ((([] : List Int), ()), ((x2, ()), ()))))
  else (
  let x3 : Int := (d.2.1.1.length : Int)
  let x4 : Bool := (decide (d.2.2.1.1 > x3))
  bif x4 then (
  let x5 : (Option Int) := (some (1 : Int))
  some ((), ((([] : List Int), ()), ((x5, ()), ()))))
  else (
  let x6 : Bool := (decide (d.2.2.2.1.1 < (0 : Int)))
  bif x6 then (
  let x7 : (Option Int) := (some (1 : Int))
  some ((), ((([] : List Int), ()), ((x7, ()), ()))))
  else (
  let x8 : Int := (d.2.1.1.length : Int)
  let x9 : Int := (isub .i64 x8 d.2.2.1.1)
  let x10 : Bool := (decide (d.2.2.2.1.1 > x9))
  bif x10 then (
  let x11 : (Option Int) := (some (4 : Int))
  some ((), ((([] : List Int), ()), ((x11, ()), ()))))
  else (
  let x12 : Int := (iadd .i64 d.2.2.1.1 d.2.2.2.1.1)
  bif decide ((0 : Int) ≤ d.2.2.1.1) && decide (d.2.2.1.1 ≤ x12) && decide (x12 ≤ (d.2.1.1.length : Int)) then (
  let x13 : (List Int) := (List.drop (Int.toNat d.2.2.1.1) (List.take (Int.toNat x12) d.2.1.1))
  some ((), ((x13, ()), (((none : Option Int), ()), ()))))
  else none))))
def g_octets_from (d : Unit × (((List Int) × Unit) × ((Int × Unit) × ((Int × Unit) × Unit)))) : Option (Unit × (((List Int) × Unit) × (((Option Int) × Unit) × Unit))) := f_octets_from_m () d
theorem ok_octets_from : FnOk Try.prog ET0 52 pi_octets_from po_octets_from g_octets_from :=
  fn0 (E := E0) e0_ok (fn := Try.f52) Try.func52 (by kernel_rfl) (by kernel_rfl) [.tmp 6, .tmp 7] (by kernel_rfl) rfl rfl rfl [] fun d => by kernel_rfl

@[reducible] def pi_octets_word_u8 : PSh := ⟨[], [.mk false [.v (.sl (.int .u8))]]⟩
@[reducible] def po_octets_word_u8 : PSh := ⟨[], [.mk false [v8]]⟩
@[reducible] def TT_octets_word_u8 : Type := (((Unit × ((Int × Unit) × (((List Int) × Unit) × ((Int × Unit) × ((Int × Unit) × Unit))))) → Option (Unit × ((Int × Unit) × Unit))) × Unit)
@[reducible] def sh_octets_word_u8_4 : PSh := ⟨[], [.any, .any, .any, .mk false [.v (.int .u64)], .any, .any, .mk false [.v (.sl (.int .u8))], .mk false [vI], .mk false [vI], .any, .any, .any, .any, .any, .any, .any, .any, .any, .any, .any]⟩
def f_octets_word_u8_p4 (T : TT_octets_word_u8) (d : Unit × ((Int × Unit) × (((List Int) × Unit) × ((Int × Unit) × ((Int × Unit) × Unit))))) : Option (Unit × ((Int × Unit) × Unit)) :=
  let x2 : Bool := (decide (d.2.2.2.2.1.1 < d.2.2.2.1.1))
  bif x2 then (
  bif decide ((0 : Int) ≤ d.2.2.2.2.1.1) && decide (d.2.2.2.2.1.1 < (d.2.2.1.1.length : Int)) then (
  let x3 : Int := (ishl .u64 d.2.1.1 (8 : Int))
  let x4 : Int := (iconv .u64 (gd (.int .u8) d.2.2.1.1 d.2.2.2.2.1.1))
  let x5 : Int := (ior .u64 x3 x4)
  let x6 : Int := (iadd .i64 d.2.2.2.2.1.1 (1 : Int))
  (T.1 ((), ((x5, ()), (d.2.2.1, (d.2.2.2.1, ((x6, ()), ())))))))
  else none)
  else (
  let x7 : Int := (iconv .u8 d.2.1.1)
  some ((), ((x7, ()), ())))
def f_octets_word_u8_t : Nat → TT_octets_word_u8
  | 0 => (fun _ => none, ())
  | k + 1 => (f_octets_word_u8_p4 (f_octets_word_u8_t k), ())
theorem t_octets_word_u8 (k : Nat) : f_octets_word_u8_t (k + 1) = (f_octets_word_u8_p4 (f_octets_word_u8_t k), ()) := rfl
def f_octets_word_u8_m (T : TT_octets_word_u8) (d : Unit × (((List Int) × Unit) × Unit)) : Option (Unit × ((Int × Unit) × Unit)) :=
  let x1 : Int := (d.2.1.1.length : Int)
  (T.1 ((), (((0 : Int), ()), (d.2.1, ((x1, ()), (((0 : Int), ()), ()))))))
def c_octets_word_u8 : List Nat := []
def L_octets_word_u8 (k : Nat) : Pts po_octets_word_u8.den := [(4, ⟨sh_octets_word_u8_4, (f_octets_word_u8_t k).1⟩)]
def R_octets_word_u8 (_ : Nat) : PtsR po_octets_word_u8.den := []
def E_octets_word_u8 : Env := E0
theorem q_octets_word_u8_4 (k : Nat) (d : sh_octets_word_u8_4.den) : evAt E_octets_word_u8 (tb (L_octets_word_u8 k) (R_octets_word_u8 k)) c_octets_word_u8 4 (bodyOf Try.f53) 0 (finK E_octets_word_u8 po_octets_word_u8 [.tmp 2]) (ptSt sh_octets_word_u8_4 d) = f_octets_word_u8_p4 (f_octets_word_u8_t k) d := by kernel_rfl
theorem q_octets_word_u8_m (k : Nat) (d : pi_octets_word_u8.den) : evCode E_octets_word_u8 (tb (L_octets_word_u8 k) (R_octets_word_u8 k)) c_octets_word_u8 (bodyOf Try.f53) 0 (finK E_octets_word_u8 po_octets_word_u8 [.tmp 2]) (startSt pi_octets_word_u8 20 d) = f_octets_word_u8_m (f_octets_word_u8_t k) d := by kernel_rfl
def g_octets_word_u8 (d : Unit × (((List Int) × Unit) × Unit)) : Option (Unit × ((Int × Unit) × Unit)) := lim fun k => f_octets_word_u8_m (f_octets_word_u8_t k) d
theorem ok_octets_word_u8 : FnOk Try.prog ET0 53 pi_octets_word_u8 po_octets_word_u8 g_octets_word_u8 :=
  fn_of_body (E := E_octets_word_u8) e0_ok (fn := Try.f53) Try.func53 (by kernel_rfl) (by kernel_rfl) [.tmp 2] (by kernel_rfl) (by kernel_rfl) (by decide) rfl c_octets_word_u8 L_octets_word_u8 R_octets_word_u8
    (by intro x hx d; simp only [L_octets_word_u8, List.mem_cons, List.not_mem_nil, or_false] at hx; subst hx; rfl)
    (by intro k x hx d out h; simp only [L_octets_word_u8, List.mem_cons, List.not_mem_nil, or_false] at hx; subst hx; exact (q_octets_word_u8_4 k d).trans h)
    (by intro x hx; cases hx)
    (by intro k x hx; cases hx)
    (by intro d out h; obtain ⟨k, hk⟩ := lim_some h; exact ⟨k, (q_octets_word_u8_m k d).trans hk⟩)

@[reducible] def pi_octets_Get_u8 : PSh := ⟨[], [.mk false [.v (.sl (.int .u8))], .mk false [vI]]⟩
@[reducible] def po_octets_Get_u8 : PSh := ⟨[], [.mk false [v8], .mk false [vE]]⟩
def f_octets_Get_u8_m (T : Unit) (d : Unit × (((List Int) × Unit) × ((Int × Unit) × Unit))) : Option (Unit × ((Int × Unit) × (((Option Int) × Unit) × Unit))) :=
  (g_octets_Size_u8 ((), ())).bind fun x1 =>
  (g_octets_from ((), (d.2.1, (d.2.2.1, x1.2)))).bind fun x2 =>
  let x3 : Bool := (!x2.2.2.1.1.isNone)
  bif x3 then (
  some ((), (((0 : Int), ()), x2.2.2)))
  else (
  (g_octets_word_u8 ((), (x2.2.1, ()))).bind fun x4 =>
  some ((), (x4.2.1, (((none : Option Int), ()), ()))))
def g_octets_Get_u8 (d : Unit × (((List Int) × Unit) × ((Int × Unit) × Unit))) : Option (Unit × ((Int × Unit) × (((Option Int) × Unit) × Unit))) := f_octets_Get_u8_m () d
theorem ok_octets_Get_u8 : FnOk Try.prog ET0 23 pi_octets_Get_u8 po_octets_Get_u8 g_octets_Get_u8 :=
  fn0 (E := (((E0.add 22 (typedSem pi_octets_Size_u8 po_octets_Size_u8 g_octets_Size_u8)).add 52 (typedSem pi_octets_from po_octets_from g_octets_from)).add 53 (typedSem pi_octets_word_u8 po_octets_word_u8 g_octets_word_u8))) (envOk_add (envOk_add (envOk_add e0_ok (typed_ok ok_octets_Size_u8)) (typed_ok ok_octets_from)) (typed_ok ok_octets_word_u8)) (fn := Try.f23) Try.func23 (by kernel_rfl) (by kernel_rfl) [.tmp 4, .tmp 5] (by kernel_rfl) rfl rfl rfl [] fun d => by kernel_rfl

@[reducible] def pi_ref03_Value : PSh := ⟨[], [.mk false [.v (.sl (.int .u8))]]⟩
@[reducible] def po_ref03_Value : PSh := ⟨[], [.mk false [.v (.int .u64)]]⟩
@[reducible] def TT_ref03_Value : Type := (((Unit × (((List Int) × Unit) × ((Int × Unit) × ((Int × Unit) × Unit)))) → Option (Unit × ((Int × Unit) × Unit))) × Unit)
@[reducible] def sh_ref03_Value_4 : PSh := ⟨[], [.mk false [.v (.sl (.int .u8))], .any, .any, .mk false [.v (.int .u64)], .mk false [vI], .any, .any, .any, .any, .any, .any, .any, .any, .any, .any, .any, .any, .any, .any, .any]⟩
def f_ref03_Value_p4 (T : TT_ref03_Value) (d : Unit × (((List Int) × Unit) × ((Int × Unit) × ((Int × Unit) × Unit)))) : Option (Unit × ((Int × Unit) × Unit)) :=
  let x1 : Int := (d.2.1.1.length : Int)
  let x2 : Bool := (decide (d.2.2.2.1.1 < x1))
  bif x2 then (
  let x3 : Int := (imul .u64 d.2.2.1.1 (256 : Int))
  bif decide ((0 : Int) ≤ d.2.2.2.1.1) && decide (d.2.2.2.1.1 < (d.2.1.1.length : Int)) then (
  let x4 : Int := (iconv .u64 (gd (.int .u8) d.2.1.1 d.2.2.2.1.1))
  let x5 : Int := (iadd .u64 x3 x4)
  let x6 : Int := (iadd .i64 d.2.2.2.1.1 (1 : Int))
  (T.1 ((), (d.2.1, ((x5, ()), ((x6, ()), ()))))))
  else none)
  else (
  some ((), (d.2.2.1, ())))
def f_ref03_Value_t : Nat → TT_ref03_Value
  | 0 => (fun _ => none, ())
  | k + 1 => (f_ref03_Value_p4 (f_ref03_Value_t k), ())
theorem t_ref03_Value (k : Nat) : f_ref03_Value_t (k + 1) = (f_ref03_Value_p4 (f_ref03_Value_t k), ()) := rfl
def f_ref03_Value_m (T : TT_ref03_Value) (d : Unit × (((List Int) × Unit) × Unit)) : Option (Unit × ((Int × Unit) × Unit)) :=
  (T.1 ((), (d.2.1, (((0 : Int), ()), (((0 : Int), ()), ())))))
def c_ref03_Value : List Nat := []
def L_ref03_Value (k : Nat) : Pts po_ref03_Value.den := [(4, ⟨sh_ref03_Value_4, (f_ref03_Value_t k).1⟩)]
def R_ref03_Value (_ : Nat) : PtsR po_ref03_Value.den := []
def E_ref03_Value : Env := E0
theorem q_ref03_Value_4 (k : Nat) (d : sh_ref03_Value_4.den) : evAt E_ref03_Value (tb (L_ref03_Value k) (R_ref03_Value k)) c_ref03_Value 4 (bodyOf Try.f48) 0 (finK E_ref03_Value po_ref03_Value [.tmp 2]) (ptSt sh_ref03_Value_4 d) = f_ref03_Value_p4 (f_ref03_Value_t k) d := by kernel_rfl
theorem q_ref03_Value_m (k : Nat) (d : pi_ref03_Value.den) : evCode E_ref03_Value (tb (L_ref03_Value k) (R_ref03_Value k)) c_ref03_Value (bodyOf Try.f48) 0 (finK E_ref03_Value po_ref03_Value [.tmp 2]) (startSt pi_ref03_Value 20 d) = f_ref03_Value_m (f_ref03_Value_t k) d := by kernel_rfl
def g_ref03_Value (d : Unit × (((List Int) × Unit) × Unit)) : Option (Unit × ((Int × Unit) × Unit)) := lim fun k => f_ref03_Value_m (f_ref03_Value_t k) d
theorem ok_ref03_Value : FnOk Try.prog ET0 48 pi_ref03_Value po_ref03_Value g_ref03_Value :=
  fn_of_body (E := E_ref03_Value) e0_ok (fn := Try.f48) Try.func48 (by kernel_rfl) (by kernel_rfl) [.tmp 2] (by kernel_rfl) (by kernel_rfl) (by decide) rfl c_ref03_Value L_ref03_Value R_ref03_Value
    (by intro x hx d; simp only [L_ref03_Value, List.mem_cons, List.not_mem_nil, or_false] at hx; subst hx; rfl)
    (by intro k x hx d out h; simp only [L_ref03_Value, List.mem_cons, List.not_mem_nil, or_false] at hx; subst hx; exact (q_ref03_Value_4 k d).trans h)
    (by intro x hx; cases hx)
    (by intro k x hx; cases hx)
    (by intro d out h; obtain ⟨k, hk⟩ := lim_some h; exact ⟨k, (q_ref03_Value_m k d).trans hk⟩)

@[reducible] def pi_ref03_Part : PSh := ⟨[], [.mk false [.v (.sl (.int .u8))], .mk false [vI], .mk false [vI]]⟩
@[reducible] def po_ref03_Part : PSh := ⟨[], [.mk false [.v (.sl (.int .u8))], .mk false [vI]]⟩
def f_ref03_Part_m (T : Unit) (d : Unit × (((List Int) × Unit) × ((Int × Unit) × ((Int × Unit) × Unit)))) : Option (Unit × (((List Int) × Unit) × ((Int × Unit) × Unit))) :=
  let x1 : Bool := (decide (d.2.2.1.1 < (0 : Int)))
  bif x1 then (
  some ((), ((([] : List Int), ()), (((1 : Int), ()), ()))))
  else (
  let x2 : Bool := (decide (d.2.2.2.1.1 < (0 : Int)))
  bif x2 then (
  some ((), ((([] : List Int), ()), (((1 : Int), ()), ()))))
  else (
  let x3 : Int := (d.2.1.1.length : Int)
  let x4 : Bool := (decide (d.2.2.1.1 > x3))
  bif x4 then (
  some ((), ((([] : List Int), ()), (((1 : Int), ()), ()))))
  else (
  bif decide ((0 : Int) ≤ d.2.2.1.1) && decide (d.2.2.1.1 ≤ (d.2.1.1.length : Int)) && decide ((d.2.1.1.length : Int) ≤ (d.2.1.1.length : Int)) then (
  let x5 : (List Int) := (List.drop (Int.toNat d.2.2.1.1) (List.take (Int.toNat (d.2.1.1.length : Int)) d.2.1.1))
  let x6 : Int := (x5.length : Int)
  let x7 : Bool := (decide (d.2.2.2.1.1 > x6))
  bif x7 then (
  some ((), ((([] : List Int), ()), (((4 : Int), ()), ()))))
  else (
  bif decide ((0 : Int) ≤ (0 : Int)) && decide ((0 : Int) ≤ d.2.2.2.1.1) && decide (d.2.2.2.1.1 ≤ (x5.length : Int)) then (
  let x8 : (List Int) := (List.drop (Int.toNat (0 : Int)) (List.take (Int.toNat d.2.2.2.1.1) x5))
  some ((), ((x8, ()), (((0 : Int), ()), ()))))
  else none))
  else none)))
def g_ref03_Part (d : Unit × (((List Int) × Unit) × ((Int × Unit) × ((Int × Unit) × Unit)))) : Option (Unit × (((List Int) × Unit) × ((Int × Unit) × Unit))) := f_ref03_Part_m () d
theorem ok_ref03_Part : FnOk Try.prog ET0 54 pi_ref03_Part po_ref03_Part g_ref03_Part :=
  fn0 (E := E0) e0_ok (fn := Try.f54) Try.func54 (by kernel_rfl) (by kernel_rfl) [.tmp 6, .tmp 7] (by kernel_rfl) rfl rfl rfl [] fun d => by kernel_rfl

@[reducible] def pi_ref03_Get : PSh := ⟨[], [.mk false [.v (.sl (.int .u8))], .mk false [vI], .mk false [vI]]⟩
@[reducible] def po_ref03_Get : PSh := ⟨[], [.mk false [.v (.int .u64)], .mk false [vI]]⟩
def f_ref03_Get_m (T : Unit) (d : Unit × (((List Int) × Unit) × ((Int × Unit) × ((Int × Unit) × Unit)))) : Option (Unit × ((Int × Unit) × ((Int × Unit) × Unit))) :=
  (g_ref03_Part ((), d.2)).bind fun x1 =>
  let x2 : Bool := (x1.2.2.1.1 != (0 : Int))
  bif x2 then (
  some ((), (((0 : Int), ()), x1.2.2)))
  else (
  (g_ref03_Value ((), (x1.2.1, ()))).bind fun x3 =>
  some ((), (x3.2.1, (((0 : Int), ()), ()))))
def g_ref03_Get (d : Unit × (((List Int) × Unit) × ((Int × Unit) × ((Int × Unit) × Unit)))) : Option (Unit × ((Int × Unit) × ((Int × Unit) × Unit))) := f_ref03_Get_m () d
theorem ok_ref03_Get : FnOk Try.prog ET0 24 pi_ref03_Get po_ref03_Get g_ref03_Get :=
  fn0 (E := ((E0.add 48 (typedSem pi_ref03_Value po_ref03_Value g_ref03_Value)).add 54 (typedSem pi_ref03_Part po_ref03_Part g_ref03_Part))) (envOk_add (envOk_add e0_ok (typed_ok ok_ref03_Value)) (typed_ok ok_ref03_Part)) (fn := Try.f24) Try.func24 (by kernel_rfl) (by kernel_rfl) [.tmp 6, .tmp 7] (by kernel_rfl) rfl rfl rfl [] fun d => by kernel_rfl

@[reducible] def pi_octets_Put_u8 : PSh := ⟨[], [.mk false [.v (.sl (.int .u8))], .mk false [.v (.sl (.int .u8))]]⟩
@[reducible] def po_octets_Put_u8 : PSh := ⟨[.row 5 (.int .u8)], [.mk false [.osl 0]]⟩
@[reducible] def TT_octets_Put_u8 : Type := (((((List Int) × Unit) × ((Int × Unit) × (Unit × (((List Int) × Unit) × ((Int × Unit) × ((Int × Unit) × Unit)))))) → Option (((List Int) × Unit) × (Unit × Unit))) × (((((List Int) × Unit) × ((Int × Unit) × (Unit × ((Int × Unit) × ((Int × Unit) × (((List Int) × Unit) × ((Int × Unit) × ((Int × Unit) × Unit)))))))) → Option (((List Int) × Unit) × (Unit × Unit))) × Unit))
@[reducible] def sh_octets_Put_u8_5 : PSh := ⟨[.row 5 (.int .u8)], [.any, .any, .any, .any, .any, .mk false [vI], .mk false [.osl 0], .any, .any, .any, .any, .any, .any, .mk false [.v (.sl (.int .u8))], .mk false [vI], .mk false [vI], .any, .any, .any, .any, .any, .any, .any, .any, .any, .any, .any, .any, .any, .any, .any, .any, .any, .any, .any, .any]⟩
@[reducible] def sh_octets_Put_u8_11 : PSh := ⟨[.row 5 (.int .u8)], [.any, .any, .any, .any, .any, .mk false [vI], .mk false [.osl 0], .any, .mk false [v8], .mk false [vI], .any, .any, .any, .mk false [.v (.sl (.int .u8))], .mk false [vI], .mk false [vI], .any, .any, .any, .any, .any, .any, .any, .any, .any, .any, .any, .any, .any, .any, .any, .any, .any, .any, .any, .any]⟩
def f_octets_Put_u8_p5 (T : TT_octets_Put_u8) (d : ((List Int) × Unit) × ((Int × Unit) × (Unit × (((List Int) × Unit) × ((Int × Unit) × ((Int × Unit) × Unit)))))) : Option (((List Int) × Unit) × (Unit × Unit)) :=
  let x4 : Bool := (decide (d.2.2.2.2.2.1.1 < d.2.2.2.2.1.1))
  bif x4 then (
  bif decide ((0 : Int) ≤ d.2.2.2.2.2.1.1) && decide (d.2.2.2.2.2.1.1 < (d.2.2.2.1.1.length : Int)) then (
  let x5 : Int := (isub .i64 d.2.1.1 (1 : Int))
  (T.2.1 (d.1, (d.2.1, ((), (((gd (.int .u8) d.2.2.2.1.1 d.2.2.2.2.2.1.1), ()), ((x5, ()), d.2.2.2)))))))
  else none)
  else (
  some (d.1, ((), ())))
def f_octets_Put_u8_p11 (T : TT_octets_Put_u8) (d : ((List Int) × Unit) × ((Int × Unit) × (Unit × ((Int × Unit) × ((Int × Unit) × (((List Int) × Unit) × ((Int × Unit) × ((Int × Unit) × Unit)))))))) : Option (((List Int) × Unit) × (Unit × Unit)) :=
  let x6 : Bool := (decide (d.2.2.2.2.1.1 ≥ (0 : Int)))
  bif x6 then (
  let x7 : Int := (iconv .u64 d.2.2.2.1.1)
  let x8 : Int := (imul .i64 (8 : Int) d.2.2.2.2.1.1)
  bif decide (x8 < 0) then (
  none)
  else (
  let x9 : Int := (ishr .u64 x7 x8)
  let x10 : Int := (iconv .u8 x9)
  let x11 : (List Int) := ([x10] : List Int)
  bif decide (((d.1.1.length + x11.length) * 1 : Nat) ≤ 140737488355328) && decide (d.1.1.length + x11.length ≤ 9223372036854775807) then (
  let x12 : (List Int) := (d.1.1 ++ x11)
  let x13 : Int := (isub .i64 d.2.2.2.2.1.1 (1 : Int))
  (T.2.1 ((x12, ()), (d.2.1, ((), (d.2.2.2.1, ((x13, ()), d.2.2.2.2.2)))))))
  else none))
  else (
  let x14 : Int := (iadd .i64 d.2.2.2.2.2.2.2.1.1 (1 : Int))
  (T.1 (d.1, (d.2.1, ((), (d.2.2.2.2.2.1, (d.2.2.2.2.2.2.1, ((x14, ()), ()))))))))
def f_octets_Put_u8_t : Nat → TT_octets_Put_u8
  | 0 => (fun _ => none, (fun _ => none, ()))
  | k + 1 => (f_octets_Put_u8_p5 (f_octets_Put_u8_t k), (f_octets_Put_u8_p11 (f_octets_Put_u8_t k), ()))
theorem t_octets_Put_u8 (k : Nat) : f_octets_Put_u8_t (k + 1) = (f_octets_Put_u8_p5 (f_octets_Put_u8_t k), (f_octets_Put_u8_p11 (f_octets_Put_u8_t k), ())) := rfl
def f_octets_Put_u8_m (T : TT_octets_Put_u8) (d : Unit × (((List Int) × Unit) × (((List Int) × Unit) × Unit))) : Option (((List Int) × Unit) × (Unit × Unit)) :=
  (g_octets_Size_u8 ((), ())).bind fun x1 =>
  (g_slices_Clone_byte_byte ((), (d.2.1, ()))).bind fun x2 =>
  let x3 : Int := (d.2.2.1.1.length : Int)
  (T.1 (x2.1, (x1.2.1, ((), (d.2.2.1, ((x3, ()), (((0 : Int), ()), ())))))))
def c_octets_Put_u8 : List Nat := []
def L_octets_Put_u8 (k : Nat) : Pts po_octets_Put_u8.den := [(5, ⟨sh_octets_Put_u8_5, (f_octets_Put_u8_t k).1⟩), (11, ⟨sh_octets_Put_u8_11, (f_octets_Put_u8_t k).2.1⟩)]
def R_octets_Put_u8 (_ : Nat) : PtsR po_octets_Put_u8.den := []
def E_octets_Put_u8 : Env := ((E0.add 22 (typedSem pi_octets_Size_u8 po_octets_Size_u8 g_octets_Size_u8)).add 51 (typedSem pi_slices_Clone_byte_byte po_slices_Clone_byte_byte g_slices_Clone_byte_byte))
theorem q_octets_Put_u8_5 (k : Nat) (d : sh_octets_Put_u8_5.den) : evAt E_octets_Put_u8 (tb (L_octets_Put_u8 k) (R_octets_Put_u8 k)) c_octets_Put_u8 5 (bodyOf Try.f27) 0 (finK E_octets_Put_u8 po_octets_Put_u8 [.tmp 4]) (ptSt sh_octets_Put_u8_5 d) = f_octets_Put_u8_p5 (f_octets_Put_u8_t k) d := by kernel_rfl
theorem q_octets_Put_u8_11 (k : Nat) (d : sh_octets_Put_u8_11.den) : evAt E_octets_Put_u8 (tb (L_octets_Put_u8 k) (R_octets_Put_u8 k)) c_octets_Put_u8 11 (bodyOf Try.f27) 0 (finK E_octets_Put_u8 po_octets_Put_u8 [.tmp 4]) (ptSt sh_octets_Put_u8_11 d) = f_octets_Put_u8_p11 (f_octets_Put_u8_t k) d := by kernel_rfl
theorem q_octets_Put_u8_m (k : Nat) (d : pi_octets_Put_u8.den) : evCode E_octets_Put_u8 (tb (L_octets_Put_u8 k) (R_octets_Put_u8 k)) c_octets_Put_u8 (bodyOf Try.f27) 0 (finK E_octets_Put_u8 po_octets_Put_u8 [.tmp 4]) (startSt pi_octets_Put_u8 36 d) = f_octets_Put_u8_m (f_octets_Put_u8_t k) d := by kernel_rfl
def g_octets_Put_u8 (d : Unit × (((List Int) × Unit) × (((List Int) × Unit) × Unit))) : Option (((List Int) × Unit) × (Unit × Unit)) := lim fun k => f_octets_Put_u8_m (f_octets_Put_u8_t k) d
theorem ok_octets_Put_u8 : FnOk Try.prog ET0 27 pi_octets_Put_u8 po_octets_Put_u8 g_octets_Put_u8 :=
  fn_of_body (E := E_octets_Put_u8) (envOk_add (envOk_add e0_ok (typed_ok ok_octets_Size_u8)) (typed_ok ok_slices_Clone_byte_byte)) (fn := Try.f27) Try.func27 (by kernel_rfl) (by kernel_rfl) [.tmp 4] (by kernel_rfl) (by kernel_rfl) (by decide) rfl c_octets_Put_u8 L_octets_Put_u8 R_octets_Put_u8
    (by intro x hx d; simp only [L_octets_Put_u8, List.mem_cons, List.not_mem_nil, or_false] at hx; rcases hx with rfl | rfl; rfl; rfl)
    (by intro k x hx d out h; simp only [L_octets_Put_u8, List.mem_cons, List.not_mem_nil, or_false] at hx; rcases hx with rfl | rfl; exact (q_octets_Put_u8_5 k d).trans h; exact (q_octets_Put_u8_11 k d).trans h)
    (by intro x hx; cases hx)
    (by intro k x hx; cases hx)
    (by intro d out h; obtain ⟨k, hk⟩ := lim_some h; exact ⟨k, (q_octets_Put_u8_m k d).trans hk⟩)

@[reducible] def pi_octets_Set_u8 : PSh := ⟨[], [.mk false [.v (.sl (.int .u8))], .mk false [vI], .mk false [v8]]⟩
@[reducible] def po_octets_Set_u8 : PSh := ⟨[.row 5 (.int .u8)], [.mk false [.osl 0], .mk false [vE]]⟩
def f_octets_Set_u8_m (T : Unit) (d : Unit × (((List Int) × Unit) × ((Int × Unit) × ((Int × Unit) × Unit)))) : Option (((List Int) × Unit) × (Unit × (((Option Int) × Unit) × Unit))) :=
  (g_octets_Get_u8 ((), (d.2.1, (d.2.2.1, ())))).bind fun x1 =>
  let x2 : Bool := (!x1.2.2.1.1.isNone)
  bif x2 then (
  some ((([] : List Int), ()), ((), x1.2.2)))
  else (
  (g_slices_Clone_byte_byte ((), (d.2.1, ()))).bind fun x3 =>
  bif decide ((0 : Int) ≤ d.2.2.1.1) && decide (d.2.2.1.1 < (x3.1.1.length : Int)) then (
  let x4 : (List Int) := ([d.2.2.2.1.1] : List Int)
  (g_octets_Put_u8 ((), ((([] : List Int), ()), ((x4, ()), ())))).bind fun x5 =>
  let x6 : (List Int) := (cpL x3.1.1 (Int.toNat d.2.2.1.1) x5.1.1)
  let x7 : Int := ((min x5.1.1.length (x3.1.1.length - (Int.toNat d.2.2.1.1)) : Nat) : Int)
  some ((x6, ()), ((), (((none : Option Int), ()), ()))))
  else none)
def g_octets_Set_u8 (d : Unit × (((List Int) × Unit) × ((Int × Unit) × ((Int × Unit) × Unit)))) : Option (((List Int) × Unit) × (Unit × (((Option Int) × Unit) × Unit))) := f_octets_Set_u8_m () d
theorem ok_octets_Set_u8 : FnOk Try.prog ET0 25 pi_octets_Set_u8 po_octets_Set_u8 g_octets_Set_u8 :=
  fn0 (E := (((E0.add 23 (typedSem pi_octets_Get_u8 po_octets_Get_u8 g_octets_Get_u8)).add 27 (typedSem pi_octets_Put_u8 po_octets_Put_u8 g_octets_Put_u8)).add 51 (typedSem pi_slices_Clone_byte_byte po_slices_Clone_byte_byte g_slices_Clone_byte_byte))) (envOk_add (envOk_add (envOk_add e0_ok (typed_ok ok_octets_Get_u8)) (typed_ok ok_octets_Put_u8)) (typed_ok ok_slices_Clone_byte_byte)) (fn := Try.f25) Try.func25 (by kernel_rfl) (by kernel_rfl) [.tmp 6, .tmp 7] (by kernel_rfl) rfl rfl rfl [] fun d => by kernel_rfl

@[reducible] def pi_ref03_Number : PSh := ⟨[], [.mk false [.v (.int .u64)], .mk false [vI]]⟩
@[reducible] def po_ref03_Number : PSh := ⟨[.row 5 (.int .u8)], [.mk false [.osl 0]]⟩
@[reducible] def TT_ref03_Number : Type := (((((List Int) × Unit) × ((Int × Unit) × (Unit × ((Int × Unit) × Unit)))) → Option (((List Int) × Unit) × (Unit × Unit))) × Unit)
@[reducible] def sh_ref03_Number_4 : PSh := ⟨[.row 5 (.int .u8)], [.mk false [.v (.int .u64)], .any, .any, .any, .any, .mk false [.osl 0], .mk false [vI], .any, .any, .any, .any, .any, .any, .any, .any, .any, .any, .any, .any, .any, .any, .any, .any, .any]⟩
def f_ref03_Number_p4 (T : TT_ref03_Number) (d : ((List Int) × Unit) × ((Int × Unit) × (Unit × ((Int × Unit) × Unit)))) : Option (((List Int) × Unit) × (Unit × Unit)) :=
  let x3 : Bool := (decide (d.2.2.2.1.1 ≥ (0 : Int)))
  bif x3 then (
  let x4 : Int := (Int.tmod d.2.1.1 (256 : Int))
  let x5 : Int := (iconv .u8 x4)
  bif decide ((0 : Int) ≤ d.2.2.2.1.1) && decide (d.2.2.2.1.1 < (d.1.1.length : Int)) then (
  let x6 : (List Int) := (List.set d.1.1 (Int.toNat d.2.2.2.1.1) x5)
  let x7 : Int := (iquo .u64 d.2.1.1 (256 : Int))
  let x8 : Int := (isub .i64 d.2.2.2.1.1 (1 : Int))
  (T.1 ((x6, ()), ((x7, ()), ((), ((x8, ()), ()))))))
  else none)
  else (
  some (d.1, ((), ())))
def f_ref03_Number_t : Nat → TT_ref03_Number
  | 0 => (fun _ => none, ())
  | k + 1 => (f_ref03_Number_p4 (f_ref03_Number_t k), ())
theorem t_ref03_Number (k : Nat) : f_ref03_Number_t (k + 1) = (f_ref03_Number_p4 (f_ref03_Number_t k), ()) := rfl
def f_ref03_Number_m (T : TT_ref03_Number) (d : Unit × ((Int × Unit) × ((Int × Unit) × Unit))) : Option (((List Int) × Unit) × (Unit × Unit)) :=
  bif decide ((0 : Int) ≤ d.2.2.1.1) && decide (d.2.2.1.1 ≤ d.2.2.1.1) && decide (d.2.2.1.1 * (1 : Int) ≤ 140737488355328) && decide (d.2.2.1.1 ≤ 9223372036854775807) then (
  let x1 : (List Int) := (List.replicate (Int.toNat d.2.2.1.1) (0 : Int))
  let x2 : Int := (isub .i64 d.2.2.1.1 (1 : Int))
  (T.1 ((x1, ()), (d.2.1, ((), ((x2, ()), ()))))))
  else none
def c_ref03_Number : List Nat := []
def L_ref03_Number (k : Nat) : Pts po_ref03_Number.den := [(4, ⟨sh_ref03_Number_4, (f_ref03_Number_t k).1⟩)]
def R_ref03_Number (_ : Nat) : PtsR po_ref03_Number.den := []
def E_ref03_Number : Env := E0
theorem q_ref03_Number_4 (k : Nat) (d : sh_ref03_Number_4.den) : evAt E_ref03_Number (tb (L_ref03_Number k) (R_ref03_Number k)) c_ref03_Number 4 (bodyOf Try.f26) 0 (finK E_ref03_Number po_ref03_Number [.tmp 4]) (ptSt sh_ref03_Number_4 d) = f_ref03_Number_p4 (f_ref03_Number_t k) d := by kernel_rfl
theorem q_ref03_Number_m (k : Nat) (d : pi_ref03_Number.den) : evCode E_ref03_Number (tb (L_ref03_Number k) (R_ref03_Number k)) c_ref03_Number (bodyOf Try.f26) 0 (finK E_ref03_Number po_ref03_Number [.tmp 4]) (startSt pi_ref03_Number 24 d) = f_ref03_Number_m (f_ref03_Number_t k) d := by kernel_rfl
def g_ref03_Number (d : Unit × ((Int × Unit) × ((Int × Unit) × Unit))) : Option (((List Int) × Unit) × (Unit × Unit)) := lim fun k => f_ref03_Number_m (f_ref03_Number_t k) d
theorem ok_ref03_Number : FnOk Try.prog ET0 26 pi_ref03_Number po_ref03_Number g_ref03_Number :=
  fn_of_body (E := E_ref03_Number) e0_ok (fn := Try.f26) Try.func26 (by kernel_rfl) (by kernel_rfl) [.tmp 4] (by kernel_rfl) (by kernel_rfl) (by decide) rfl c_ref03_Number L_ref03_Number R_ref03_Number
    (by intro x hx d; simp only [L_ref03_Number, List.mem_cons, List.not_mem_nil, or_false] at hx; subst hx; rfl)
    (by intro k x hx d out h; simp only [L_ref03_Number, List.mem_cons, List.not_mem_nil, or_false] at hx; subst hx; exact (q_ref03_Number_4 k d).trans h)
    (by intro x hx; cases hx)
    (by intro k x hx; cases hx)
    (by intro d out h; obtain ⟨k, hk⟩ := lim_some h; exact ⟨k, (q_ref03_Number_m k d).trans hk⟩)

@[reducible] def pi_slices_Chunk_byte_byte : PSh := ⟨[], [.mk false [.v (.sl (.int .u8))], .mk false [vI]]⟩
@[reducible] def po_slices_Chunk_byte_byte : PSh := ⟨[.var 22 [.v (.sl (.int .u8))], .var 3 [vI]], [.mk false [.fn 92 [0, 1]]]⟩
def f_slices_Chunk_byte_byte_m (T : Unit) (d : Unit × (((List Int) × Unit) × ((Int × Unit) × Unit))) : Option ((((List Int) × Unit) × ((Int × Unit) × Unit)) × (Unit × Unit)) :=
  let x1 : Bool := (decide (d.2.2.1.1 < (1 : Int)))
  bif x1 then (
  none)
  else (
  some (d.2, ((), ())))
def g_slices_Chunk_byte_byte (d : Unit × (((List Int) × Unit) × ((Int × Unit) × Unit))) : Option ((((List Int) × Unit) × ((Int × Unit) × Unit)) × (Unit × Unit)) := f_slices_Chunk_byte_byte_m () d
theorem ok_slices_Chunk_byte_byte : FnOk Try.prog ET0 78 pi_slices_Chunk_byte_byte po_slices_Chunk_byte_byte g_slices_Chunk_byte_byte :=
  fn0 (E := E0) e0_ok (fn := Try.f78) Try.func78 (by kernel_rfl) (by kernel_rfl) [.tmp 4] (by kernel_rfl) rfl rfl rfl [] fun d => by kernel_rfl

/- slices.Chunk[[]byte,byte]$1 -/
@[reducible] def TY_slices_Chunk_byte_byte_1 : Type := (((Unit × (((Option (List Int)) × Unit) × (((Option Int) × Unit) × ((Int × Unit) × Unit)))) → Option (List (List Int))) × Unit)
@[reducible] def sh_slices_Chunk_byte_byte_1_1 : PSh := ⟨[], [.any, .mk false [.v (.nptr (.sl (.int .u8)))], .mk false [.v (.nptr (.int .i64))], .any, .mk false [vI], .any, .any, .any, .any, .any, .any, .any, .any, .any, .any, .any, .any, .any, .any, .any, .any, .any, .any, .any, .any, .any, .any, .any, .any, .any, .any]⟩
def f_slices_Chunk_byte_byte_1_p1 (T : TY_slices_Chunk_byte_byte_1) (d : Unit × (((Option (List Int)) × Unit) × (((Option Int) × Unit) × ((Int × Unit) × Unit)))) : Option (List (List Int)) :=
  d.2.1.1.bind fun x1 =>
  let x2 : Int := (x1.length : Int)
  let x3 : Bool := (decide (d.2.2.2.1.1 < x2))
  bif x3 then (
  d.2.2.1.1.bind fun x4 =>
  d.2.1.1.bind fun x5 =>
  bif decide ((0 : Int) ≤ d.2.2.2.1.1) && decide (d.2.2.2.1.1 ≤ (x5.length : Int)) && decide ((x5.length : Int) ≤ (x5.length : Int)) then (
  let x6 : (List Int) := (List.drop (Int.toNat d.2.2.2.1.1) (List.take (Int.toNat (x5.length : Int)) x5))
  let x7 : Int := (x6.length : Int)
  let x8 : Int := (if x7 < x4 then x7 else x4)
  d.2.1.1.bind fun x9 =>
  let x10 : Int := (iadd .i64 d.2.2.2.1.1 x8)
  let x11 : Int := (iadd .i64 d.2.2.2.1.1 x8)
  bif decide ((0 : Int) ≤ d.2.2.2.1.1) && decide (d.2.2.2.1.1 ≤ x10) && decide (x10 ≤ x11) && decide (x11 ≤ (x9.length : Int)) then (
  let x12 : (List Int) := (List.drop (Int.toNat d.2.2.2.1.1) (List.take (Int.toNat x10) x9))
  (some ([] : List (List Int))).bind fun (x13 : List (List Int)) =>
  bif x13.isEmpty then (
  (d.2.2.1.1.bind fun x15 =>
  let x16 : Int := (iadd .i64 d.2.2.2.1.1 x15)
  (T.1 ((), ((d.2.1.1, ()), ((d.2.2.1.1, ()), ((x16, ()), ())))))).bind fun (x14 : List (List Int)) =>
  some (x12 :: x14))
  else none)
  else none)
  else none)
  else (
  some ([] : List (List Int)))
def f_slices_Chunk_byte_byte_1_t : Nat → TY_slices_Chunk_byte_byte_1
  | 0 => (fun _ => none, ())
  | k + 1 => (f_slices_Chunk_byte_byte_1_p1 (f_slices_Chunk_byte_byte_1_t k), ())
theorem t_slices_Chunk_byte_byte_1 (k : Nat) : f_slices_Chunk_byte_byte_1_t (k + 1) = (f_slices_Chunk_byte_byte_1_p1 (f_slices_Chunk_byte_byte_1_t k), ()) := rfl
def f_slices_Chunk_byte_byte_1_m (T : TY_slices_Chunk_byte_byte_1) (d : ((List Int) × (Int × Unit))) : Option (List (List Int)) :=
  (T.1 ((), (((some d.1), ()), (((some d.2.1), ()), (((0 : Int), ()), ())))))
def L_slices_Chunk_byte_byte_1 (k : Nat) : Pts (List (List Int)) := [(1, ⟨sh_slices_Chunk_byte_byte_1_1, (f_slices_Chunk_byte_byte_1_t k).1⟩)]
def F_slices_Chunk_byte_byte_1 (d : ((List Int) × (Int × Unit))) : Option (List (List Int)) := lim fun k => f_slices_Chunk_byte_byte_1_m (f_slices_Chunk_byte_byte_1_t k) d
def sq_slices_Chunk_byte_byte_1 : SeqSem := ⟨[(22, (.sl (.int .u8))), (3, (.int .i64))], [false, false], (.sl (.int .u8)), F_slices_Chunk_byte_byte_1⟩
def E_slices_Chunk_byte_byte_1 : Env := E0
theorem q_slices_Chunk_byte_byte_1_1 (k : Nat) (d : Unit × (((Option (List Int)) × Unit) × (((Option Int) × Unit) × ((Int × Unit) × Unit)))) : evAtY E_slices_Chunk_byte_byte_1 (.sl (.int .u8)) (tabY (L_slices_Chunk_byte_byte_1 k)) 1 (bodyOf Try.f92) 0 finY (ptSt sh_slices_Chunk_byte_byte_1_1 d) = f_slices_Chunk_byte_byte_1_p1 (f_slices_Chunk_byte_byte_1_t k) d := by kernel_rfl
theorem q_slices_Chunk_byte_byte_1_m (k : Nat) (d : ((List Int) × (Int × Unit))) : evCodeY E_slices_Chunk_byte_byte_1 (.sl (.int .u8)) (tabY (L_slices_Chunk_byte_byte_1 k)) (bodyOf Try.f92) 0 finY (startY sq_slices_Chunk_byte_byte_1.ts sq_slices_Chunk_byte_byte_1.wr 31 d) = f_slices_Chunk_byte_byte_1_m (f_slices_Chunk_byte_byte_1_t k) d := by kernel_rfl
theorem okq_slices_Chunk_byte_byte_1 : SeqOk Try.prog ET0 92 sq_slices_Chunk_byte_byte_1 := by
  refine seq_of_body (E := E_slices_Chunk_byte_byte_1) e0_ok rfl rfl (fn := Try.f92) Try.func92 (by kernel_rfl) (by kernel_rfl) (by kernel_rfl) (by kernel_rfl) L_slices_Chunk_byte_byte_1 ?_ ?_ ?_ (by intro d l h; obtain ⟨k, hk⟩ := lim_some h; exact ⟨k, (q_slices_Chunk_byte_byte_1_m k d).trans hk⟩)
  · intro x hx d
    rcases List.mem_cons.1 hx with rfl | hx
    · rfl
    ·
      cases hx
  · intro k x hx
    rcases List.mem_cons.1 hx with rfl | hx
    · rfl
    ·
      cases hx
  · intro k x hx d out h
    rcases List.mem_cons.1 hx with rfl | hx
    · exact (q_slices_Chunk_byte_byte_1_1 k d).trans h
    ·
      cases hx

@[reducible] def pi_octets_List_u8 : PSh := ⟨[], [.mk false [.v (.sl (.int .u8))], .mk false [vI], .mk false [vI]]⟩
@[reducible] def po_octets_List_u8 : PSh := ⟨[.row 5 (.int .u8)], [.mk false [.osl 0], .mk false [vE]]⟩
@[reducible] def TT_octets_List_u8 : Type := ((List (List Int) → ((Unit × ((List Int) × Unit)) × (Unit × Unit)) → Option (((List Int) × Unit) × (Unit × (((Option Int) × Unit) × Unit)))) × Unit)
@[reducible] def sh_octets_List_u8_10 : PSh := ⟨[.var 22 [.osl 1], .row 5 (.int .u8)], [.any, .any, .any, .any, .any, .any, .any, .any, .any, .mk false [.ref 0 0], .any, .any, .any, .any, .any, .any, .any, .any, .any, .any, .any, .any, .any, .any, .any, .any, .any, .any, .any, .any, .any, .any, .any, .any, .any, .any, .any, .any, .any, .any, .any, .any, .any, .any, .any, .any, .any, .any, .any, .any, .any, .any, .any]⟩
def f_octets_List_u8_p10 (T : TT_octets_List_u8) (l : List (List Int)) (d : (Unit × ((List Int) × Unit)) × (Unit × Unit)) : Option (((List Int) × Unit) × (Unit × (((Option Int) × Unit) × Unit))) :=
  bif l.isEmpty then (
  some (d.1.2, ((), (((none : Option Int), ()), ()))))
  else (
  let x19 : (List Int) := (gd (.sl (.int .u8)) l (0 : Int))
  (g_octets_word_u8 ((), ((x19, ()), ()))).bind fun x20 =>
  let x21 : (List Int) := ([x20.2.1.1] : List Int)
  bif decide (((d.1.2.1.length + x21.length) * 1 : Nat) ≤ 140737488355328) && decide (d.1.2.1.length + x21.length ≤ 9223372036854775807) then (
  let x22 : (List Int) := (d.1.2.1 ++ x21)
  (T.1 (List.drop 1 l) (((), (x22, ())), ((), ()))))
  else none)
def f_octets_List_u8_t : Nat → TT_octets_List_u8
  | 0 => (fun _ _ => none, ())
  | k + 1 => (f_octets_List_u8_p10 (f_octets_List_u8_t k), ())
theorem t_octets_List_u8 (k : Nat) : f_octets_List_u8_t (k + 1) = (f_octets_List_u8_p10 (f_octets_List_u8_t k), ()) := rfl
def f_octets_List_u8_m (T : TT_octets_List_u8) (d : Unit × (((List Int) × Unit) × ((Int × Unit) × ((Int × Unit) × Unit)))) : Option (((List Int) × Unit) × (Unit × (((Option Int) × Unit) × Unit))) :=
  (g_octets_Size_u8 ((), ())).bind fun x1 =>
  let x2 : Bool := (decide (d.2.2.1.1 < (0 : Int)))
  bif x2 then (
  let x3 : (Option Int) := (some (1 : Int))
  some ((([] : List Int), ()), ((), ((x3, ()), ()))))
  else (
  let x4 : Int := (d.2.1.1.length : Int)
  let x5 : Bool := (decide (d.2.2.1.1 > x4))
  bif x5 then (
  let x6 : (Option Int) := (some (1 : Int))
  some ((([] : List Int), ()), ((), ((x6, ()), ()))))
  else (
  let x7 : Bool := (decide (d.2.2.2.1.1 < (0 : Int)))
  bif x7 then (
  let x8 : (Option Int) := (some (1 : Int))
  some ((([] : List Int), ()), ((), ((x8, ()), ()))))
  else (
  let x9 : Int := (d.2.1.1.length : Int)
  let x10 : Int := (isub .i64 x9 d.2.2.1.1)
  bif (x1.2.1.1 == 0) then (
  none)
  else (
  let x11 : Int := (iquo .i64 x10 x1.2.1.1)
  let x12 : Bool := (decide (d.2.2.2.1.1 > x11))
  bif x12 then (
  let x13 : (Option Int) := (some (4 : Int))
  some ((([] : List Int), ()), ((), ((x13, ()), ()))))
  else (
  let x14 : Int := (imul .i64 d.2.2.2.1.1 x1.2.1.1)
  let x15 : Int := (iadd .i64 d.2.2.1.1 x14)
  bif decide ((0 : Int) ≤ d.2.2.1.1) && decide (d.2.2.1.1 ≤ x15) && decide (x15 ≤ (d.2.1.1.length : Int)) then (
  let x16 : (List Int) := (List.drop (Int.toNat d.2.2.1.1) (List.take (Int.toNat x15) d.2.1.1))
  (g_slices_Chunk_byte_byte ((), ((x16, ()), x1.2))).bind fun x17 =>
  (F_slices_Chunk_byte_byte_1 (x17.1.1.1, (x17.1.2.1.1, ()))).bind fun x18 =>
  (T.1 x18 (((), (([] : List Int), ())), ((), ()))))
  else none)))))
def c_octets_List_u8 : List Nat := []
def L_octets_List_u8 (_ : Nat) : Pts po_octets_List_u8.den := []
def R_octets_List_u8 (k : Nat) : PtsR po_octets_List_u8.den := [(10, ⟨(sh_octets_List_u8_10, (.sl (.int .u8))), (f_octets_List_u8_t k).1⟩)]
def E_octets_List_u8 : Env := ((((E0.add 22 (typedSem pi_octets_Size_u8 po_octets_Size_u8 g_octets_Size_u8)).add 53 (typedSem pi_octets_word_u8 po_octets_word_u8 g_octets_word_u8)).add 78 (typedSem pi_slices_Chunk_byte_byte po_slices_Chunk_byte_byte g_slices_Chunk_byte_byte)).sq 92 sq_slices_Chunk_byte_byte_1)
theorem q_octets_List_u8_10 (k : Nat) (l : List (List Int)) (d : sh_octets_List_u8_10.den) : evAtR E_octets_List_u8 (tb (L_octets_List_u8 k) (R_octets_List_u8 k)) c_octets_List_u8 10 (bodyOf Try.f55) 0 (finK E_octets_List_u8 po_octets_List_u8 [.tmp 6, .tmp 7]) (.sl (.int .u8)) l (ptSt sh_octets_List_u8_10 d) = f_octets_List_u8_p10 (f_octets_List_u8_t k) l d := by kernel_rfl
theorem q_octets_List_u8_m (k : Nat) (d : pi_octets_List_u8.den) : evCode E_octets_List_u8 (tb (L_octets_List_u8 k) (R_octets_List_u8 k)) c_octets_List_u8 (bodyOf Try.f55) 0 (finK E_octets_List_u8 po_octets_List_u8 [.tmp 6, .tmp 7]) (startSt pi_octets_List_u8 53 d) = f_octets_List_u8_m (f_octets_List_u8_t k) d := by kernel_rfl
def g_octets_List_u8 (d : Unit × (((List Int) × Unit) × ((Int × Unit) × ((Int × Unit) × Unit)))) : Option (((List Int) × Unit) × (Unit × (((Option Int) × Unit) × Unit))) := lim fun k => f_octets_List_u8_m (f_octets_List_u8_t k) d
theorem ok_octets_List_u8 : FnOk Try.prog ET0 55 pi_octets_List_u8 po_octets_List_u8 g_octets_List_u8 :=
  fn_of_body (E := E_octets_List_u8) (envOk_sq (envOk_add (envOk_add (envOk_add e0_ok (typed_ok ok_octets_Size_u8)) (typed_ok ok_octets_word_u8)) (typed_ok ok_slices_Chunk_byte_byte)) okq_slices_Chunk_byte_byte_1) (fn := Try.f55) Try.func55 (by kernel_rfl) (by kernel_rfl) [.tmp 6, .tmp 7] (by kernel_rfl) (by kernel_rfl) (by decide) rfl c_octets_List_u8 L_octets_List_u8 R_octets_List_u8
    (by intro x hx; cases hx)
    (by intro k x hx; cases hx)
    (by intro x hx l d; simp only [R_octets_List_u8, List.mem_cons, List.not_mem_nil, or_false] at hx; subst hx; rfl)
    (by intro k x hx l d out h; simp only [R_octets_List_u8, List.mem_cons, List.not_mem_nil, or_false] at hx; subst hx; exact (q_octets_List_u8_10 k l d).trans h)
    (by intro d out h; obtain ⟨k, hk⟩ := lim_some h; exact ⟨k, (q_octets_List_u8_m k d).trans hk⟩)

@[reducible] def pi_hnum_Is : PSh := ⟨[], [.mk false [vE], .mk false [vI]]⟩
@[reducible] def po_hnum_Is : PSh := ⟨[], [.mk false [vB]]⟩
def f_hnum_Is_m (T : Unit) (d : Unit × (((Option Int) × Unit) × ((Int × Unit) × Unit))) : Option (Unit × ((Bool × Unit) × Unit)) :=
  (g_hnum_Num ((), (d.2.1, ()))).bind fun x1 =>
  let x2 : Bool := (x1.2.1.1 == d.2.2.1.1)
  some ((), ((x2, ()), ()))
def g_hnum_Is (d : Unit × (((Option Int) × Unit) × ((Int × Unit) × Unit))) : Option (Unit × ((Bool × Unit) × Unit)) := f_hnum_Is_m () d
theorem ok_hnum_Is : FnOk Try.prog ET0 56 pi_hnum_Is po_hnum_Is g_hnum_Is :=
  fn0 (E := (E0.add 18 (typedSem pi_hnum_Num po_hnum_Num g_hnum_Num))) (envOk_add e0_ok (typed_ok ok_hnum_Num)) (fn := Try.f56) Try.func56 (by kernel_rfl) (by kernel_rfl) [.tmp 4] (by kernel_rfl) rfl rfl rfl [] fun d => by kernel_rfl

@[reducible] def pi_law03_lists_u8 : PSh := ⟨[], [.mk false [.v (.sl (.int .u8))], .mk false [vI], .mk false [vI], .mk false [vI]]⟩
@[reducible] def po_law03_lists_u8 : PSh := ⟨[], [.mk false [vB]]⟩
@[reducible] def TT_law03_lists_u8 : Type := (((((List Int) × Unit) × (((List Int) × Unit) × ((Int × Unit) × ((Int × Unit) × (Unit × ((Int × Unit) × ((Int × Unit) × Unit))))))) → Option (Unit × ((Bool × Unit) × Unit))) × Unit)
@[reducible] def sh_law03_lists_u8_13 : PSh := ⟨[.row 5 (.int .u8)], [.mk false [.v (.sl (.int .u8))], .mk false [vI], .any, .mk false [vI], .any, .any, .any, .any, .any, .any, .any, .any, .any, .any, .any, .any, .any, .any, .any, .any, .any, .any, .any, .any, .any, .any, .any, .any, .any, .any, .any, .any, .any, .any, .any, .any, .any, .any, .any, .any, .any, .any, .any, .any, .any, .any, .any, .any, .any, .any, .any, .any, .any, .any, .any, .any, .any, .any, .any, .any, .any, .any, .any, .any, .any, .any, .any, .any, .any, .any, .mk false [.osl 0], .mk false [vI], .mk false [vI], .any, .any, .any, .any, .any, .any, .any, .any, .any, .any, .any, .any, .any, .any, .any, .any, .any, .any, .any, .any]⟩
def f_law03_lists_u8_p13 (T : TT_law03_lists_u8) (d : ((List Int) × Unit) × (((List Int) × Unit) × ((Int × Unit) × ((Int × Unit) × (Unit × ((Int × Unit) × ((Int × Unit) × Unit))))))) : Option (Unit × ((Bool × Unit) × Unit)) :=
  let x31 : Bool := (decide (d.2.2.2.2.2.2.1.1 < d.2.2.2.2.2.1.1))
  bif x31 then (
  bif decide ((0 : Int) ≤ d.2.2.2.2.2.2.1.1) && decide (d.2.2.2.2.2.2.1.1 < (d.1.1.length : Int)) then (
  let x32 : Int := (imul .i64 d.2.2.2.2.2.2.1.1 d.2.2.2.1.1)
  let x33 : Int := (iadd .i64 d.2.2.1.1 x32)
  (g_ref03_Get ((), (d.2.1, ((x33, ()), (d.2.2.2.1, ()))))).bind fun x34 =>
  let x35 : Int := (iconv .u64 (gd (.int .u8) d.1.1 d.2.2.2.2.2.2.1.1))
  let x36 : Bool := (x35 != x34.2.1.1)
  bif x36 then (
  some ((), ((false, ()), ())))
  else (
  let x37 : Int := (iadd .i64 d.2.2.2.2.2.2.1.1 (1 : Int))
  (T.1 (d.1, (d.2.1, (d.2.2.1, (d.2.2.2.1, ((), (d.2.2.2.2.2.1, ((x37, ()), ()))))))))))
  else none)
  else (
  some ((), ((true, ()), ())))
def f_law03_lists_u8_t : Nat → TT_law03_lists_u8
  | 0 => (fun _ => none, ())
  | k + 1 => (f_law03_lists_u8_p13 (f_law03_lists_u8_t k), ())
theorem t_law03_lists_u8 (k : Nat) : f_law03_lists_u8_t (k + 1) = (f_law03_lists_u8_p13 (f_law03_lists_u8_t k), ()) := rfl
def f_law03_lists_u8_m (T : TT_law03_lists_u8) (d : Unit × (((List Int) × Unit) × ((Int × Unit) × ((Int × Unit) × ((Int × Unit) × Unit))))) : Option (Unit × ((Bool × Unit) × Unit)) :=
  (g_octets_List_u8 ((), (d.2.1, (d.2.2.1, (d.2.2.2.1, ()))))).bind fun x1 =>
  let x2 : Bool := (decide (d.2.2.1.1 < (0 : Int)))
  bif x2 then (
  let x3 : Int := (x1.1.1.length : Int)
  let x4 : Bool := (x3 == (0 : Int))
  bif x4 then (
  (g_hnum_Is ((), (x1.2.2.1, (((1 : Int), ()), ())))).bind fun x5 =>
  some ((), x5.2))
  else (
  some ((), ((false, ()), ()))))
  else (
  let x6 : Int := (d.2.1.1.length : Int)
  let x7 : Bool := (decide (d.2.2.1.1 > x6))
  bif x7 then (
  let x8 : Int := (x1.1.1.length : Int)
  let x9 : Bool := (x8 == (0 : Int))
  bif x9 then (
  (g_hnum_Is ((), (x1.2.2.1, (((1 : Int), ()), ())))).bind fun x10 =>
  some ((), x10.2))
  else (
  some ((), ((false, ()), ()))))
  else (
  let x11 : Bool := (decide (d.2.2.2.1.1 < (0 : Int)))
  bif x11 then (
  let x12 : Int := (x1.1.1.length : Int)
  let x13 : Bool := (x12 == (0 : Int))
  bif x13 then (
  (g_hnum_Is ((), (x1.2.2.1, (((1 : Int), ()), ())))).bind fun x14 =>
  some ((), x14.2))
  else (
  some ((), ((false, ()), ()))))
  else (
  let x15 : Int := (d.2.1.1.length : Int)
  let x16 : Bool := (decide (d.2.2.2.1.1 > x15))
  bif x16 then (
  let x17 : Int := (x1.1.1.length : Int)
  let x18 : Bool := (x17 == (0 : Int))
  bif x18 then (
  (g_hnum_Is ((), (x1.2.2.1, (((4 : Int), ()), ())))).bind fun x19 =>
  some ((), x19.2))
  else (
  some ((), ((false, ()), ()))))
  else (
  let x20 : Int := (imul .i64 d.2.2.2.1.1 d.2.2.2.2.1.1)
  let x21 : Int := (d.2.1.1.length : Int)
  let x22 : Int := (isub .i64 x21 d.2.2.1.1)
  let x23 : Bool := (decide (x20 > x22))
  bif x23 then (
  let x24 : Int := (x1.1.1.length : Int)
  let x25 : Bool := (x24 == (0 : Int))
  bif x25 then (
  (g_hnum_Is ((), (x1.2.2.1, (((4 : Int), ()), ())))).bind fun x26 =>
  some ((), x26.2))
  else (
  some ((), ((false, ()), ()))))
  else (
  let x27 : Bool := (!x1.2.2.1.1.isNone)
  bif x27 then (
  some ((), ((false, ()), ())))
  else (
  let x28 : Int := (x1.1.1.length : Int)
  let x29 : Bool := (x28 != d.2.2.2.1.1)
  bif x29 then (
  some ((), ((false, ()), ())))
  else (
  let x30 : Int := (x1.1.1.length : Int)
  (T.1 (x1.1, (d.2.1, (d.2.2.1, (d.2.2.2.2.1, ((), ((x30, ()), (((0 : Int), ()), ())))))))))))))))
def c_law03_lists_u8 : List Nat := []
def L_law03_lists_u8 (k : Nat) : Pts po_law03_lists_u8.den := [(13, ⟨sh_law03_lists_u8_13, (f_law03_lists_u8_t k).1⟩)]
def R_law03_lists_u8 (_ : Nat) : PtsR po_law03_lists_u8.den := []
def E_law03_lists_u8 : Env := (((E0.add 24 (typedSem pi_ref03_Get po_ref03_Get g_ref03_Get)).add 55 (typedSem pi_octets_List_u8 po_octets_List_u8 g_octets_List_u8)).add 56 (typedSem pi_hnum_Is po_hnum_Is g_hnum_Is))
theorem q_law03_lists_u8_13 (k : Nat) (d : sh_law03_lists_u8_13.den) : evAt E_law03_lists_u8 (tb (L_law03_lists_u8 k) (R_law03_lists_u8 k)) c_law03_lists_u8 13 (bodyOf Try.f28) 0 (finK E_law03_lists_u8 po_law03_lists_u8 [.tmp 8]) (ptSt sh_law03_lists_u8_13 d) = f_law03_lists_u8_p13 (f_law03_lists_u8_t k) d := by kernel_rfl
theorem q_law03_lists_u8_m (k : Nat) (d : pi_law03_lists_u8.den) : evCode E_law03_lists_u8 (tb (L_law03_lists_u8 k) (R_law03_lists_u8 k)) c_law03_lists_u8 (bodyOf Try.f28) 0 (finK E_law03_lists_u8 po_law03_lists_u8 [.tmp 8]) (startSt pi_law03_lists_u8 93 d) = f_law03_lists_u8_m (f_law03_lists_u8_t k) d := by kernel_rfl
def g_law03_lists_u8 (d : Unit × (((List Int) × Unit) × ((Int × Unit) × ((Int × Unit) × ((Int × Unit) × Unit))))) : Option (Unit × ((Bool × Unit) × Unit)) := lim fun k => f_law03_lists_u8_m (f_law03_lists_u8_t k) d
theorem ok_law03_lists_u8 : FnOk Try.prog ET0 28 pi_law03_lists_u8 po_law03_lists_u8 g_law03_lists_u8 :=
  fn_of_body (E := E_law03_lists_u8) (envOk_add (envOk_add (envOk_add e0_ok (typed_ok ok_ref03_Get)) (typed_ok ok_octets_List_u8)) (typed_ok ok_hnum_Is)) (fn := Try.f28) Try.func28 (by kernel_rfl) (by kernel_rfl) [.tmp 8] (by kernel_rfl) (by kernel_rfl) (by decide) rfl c_law03_lists_u8 L_law03_lists_u8 R_law03_lists_u8
    (by intro x hx d; simp only [L_law03_lists_u8, List.mem_cons, List.not_mem_nil, or_false] at hx; subst hx; rfl)
    (by intro k x hx d out h; simp only [L_law03_lists_u8, List.mem_cons, List.not_mem_nil, or_false] at hx; subst hx; exact (q_law03_lists_u8_13 k d).trans h)
    (by intro x hx; cases hx)
    (by intro k x hx; cases hx)
    (by intro d out h; obtain ⟨k, hk⟩ := lim_some h; exact ⟨k, (q_law03_lists_u8_m k d).trans hk⟩)

@[reducible] def pi_law03_one_u8 : PSh := ⟨[], [.mk false [.v (.sl (.int .u8))], .mk false [vI], .mk false [vI], .mk false [v8], .mk false [vI]]⟩
@[reducible] def po_law03_one_u8 : PSh := ⟨[], [.mk false [vB]]⟩
@[reducible] def TT_law03_one_u8 : Type := (((((List Int) × ((List Int) × Unit)) × (((List Int) × Unit) × ((Int × Unit) × ((Int × Unit) × ((Int × Unit) × ((Int × Unit) × (Unit × ((Int × Unit) × ((Int × Unit) × ((Int × Unit) × (Unit × ((Bool × Unit) × Unit)))))))))))) → Option (Unit × ((Bool × Unit) × Unit))) × Unit)
@[reducible] def sh_law03_one_u8_12 : PSh := ⟨[.row 5 (.int .u8), .row 5 (.int .u8)], [.mk false [.v (.sl (.int .u8))], .mk false [vI], .mk false [vI], .mk false [v8], .mk false [vI], .any, .any, .any, .any, .any, .any, .mk false [.osl 0], .mk false [v8], .any, .mk false [.v (.int .u64)], .mk false [vI], .mk false [.osl 1], .any, .any, .any, .any, .any, .any, .any, .any, .any, .any, .any, .any, .any, .any, .any, .any, .any, .any, .any, .any, .any, .any, .any, .any, .any, .any, .any, .any, .any, .any, .any, .any, .any, .any, .any, .any, .any, .any, .any, .any, .any, .any, .any, .any, .any, .any, .any, .any, .any, .mk false [vB], .any, .any, .any, .any, .any, .any, .any, .any, .any, .any, .any, .any, .any, .any, .any, .any, .any, .any, .any, .any, .any, .any, .any, .any, .any, .any, .any, .any, .any, .any, .any, .any, .any, .any, .any, .any, .any, .any, .any, .any, .any, .any, .any, .any, .any, .any, .any, .any, .any, .any, .any, .any, .any]⟩
def f_law03_one_u8_p12 (T : TT_law03_one_u8) (d : ((List Int) × ((List Int) × Unit)) × (((List Int) × Unit) × ((Int × Unit) × ((Int × Unit) × ((Int × Unit) × ((Int × Unit) × (Unit × ((Int × Unit) × ((Int × Unit) × ((Int × Unit) × (Unit × ((Bool × Unit) × Unit)))))))))))) : Option (Unit × ((Bool × Unit) × Unit)) :=
  bif d.2.2.2.2.2.2.2.2.2.2.2.1.1 then (
  some ((), ((false, ()), ())))
  else (
  let x17 : Bool := (d.2.2.2.2.2.2.2.2.2.1.1 == (0 : Int))
  bif x17 then (
  let x18 : (List Int) := ([] : List Int)
  bif decide ((0 : Int) ≤ (0 : Int)) && decide ((0 : Int) ≤ d.2.2.1.1) && decide (d.2.2.1.1 ≤ (d.2.1.1.length : Int)) then (
  let x19 : (List Int) := (List.drop (Int.toNat (0 : Int)) (List.take (Int.toNat d.2.2.1.1) d.2.1.1))
  bif decide (((x18.length + x19.length) * 1 : Nat) ≤ 140737488355328) && decide (x18.length + x19.length ≤ 9223372036854775807) then (
  let x20 : (List Int) := (x18 ++ x19)
  let x21 : Int := (iconv .u64 d.2.2.2.2.1.1)
  (g_ref03_Number ((), ((x21, ()), (d.2.2.2.2.2.1, ())))).bind fun x22 =>
  bif decide (((x20.length + x22.1.1.length) * 1 : Nat) ≤ 140737488355328) && decide (x20.length + x22.1.1.length ≤ 9223372036854775807) then (
  let x23 : (List Int) := (x20 ++ x22.1.1)
  let x24 : Int := (iadd .i64 d.2.2.1.1 d.2.2.2.2.2.1.1)
  bif decide ((0 : Int) ≤ x24) && decide (x24 ≤ (d.2.1.1.length : Int)) && decide ((d.2.1.1.length : Int) ≤ (d.2.1.1.length : Int)) then (
  let x25 : (List Int) := (List.drop (Int.toNat x24) (List.take (Int.toNat (d.2.1.1.length : Int)) d.2.1.1))
  bif decide (((x23.length + x25.length) * 1 : Nat) ≤ 140737488355328) && decide (x23.length + x25.length ≤ 9223372036854775807) then (
  let x26 : (List Int) := (x23 ++ x25)
  (g_hnum_Bytes ((), (d.1.2, ((x26, ()), ())))).bind fun x27 =>
  let x28 : Bool := (!x27.2.1.1)
  bif x28 then (
  some ((), ((false, ()), ())))
  else (
  let x29 : (List Int) := ([d.2.2.2.2.1.1, d.2.2.2.2.2.2.2.1.1] : List Int)
  (g_octets_Put_u8 ((), ((d.1.1, ()), ((x29, ()), ())))).bind fun x30 =>
  let x31 : (List Int) := ([] : List Int)
  bif decide (((x31.length + d.2.1.1.length) * 1 : Nat) ≤ 140737488355328) && decide (x31.length + d.2.1.1.length ≤ 9223372036854775807) then (
  let x32 : (List Int) := (x31 ++ d.2.1.1)
  let x33 : Int := (iconv .u64 d.2.2.2.2.1.1)
  (g_ref03_Number ((), ((x33, ()), (d.2.2.2.2.2.1, ())))).bind fun x34 =>
  bif decide (((x32.length + x34.1.1.length) * 1 : Nat) ≤ 140737488355328) && decide (x32.length + x34.1.1.length ≤ 9223372036854775807) then (
  let x35 : (List Int) := (x32 ++ x34.1.1)
  (g_ref03_Number ((), (d.2.2.2.2.2.2.2.2.1, (d.2.2.2.2.2.1, ())))).bind fun x36 =>
  bif decide (((x35.length + x36.1.1.length) * 1 : Nat) ≤ 140737488355328) && decide (x35.length + x36.1.1.length ≤ 9223372036854775807) then (
  let x37 : (List Int) := (x35 ++ x36.1.1)
  (g_hnum_Bytes ((), (x30.1, ((x37, ()), ())))).bind fun x38 =>
  let x39 : Bool := (!x38.2.1.1)
  bif x39 then (
  some ((), ((false, ()), ())))
  else (
  (g_law03_lists_u8 ((), ((d.1.1, ()), (d.2.2.1, (d.2.2.2.1, (d.2.2.2.2.2.1, ())))))).bind fun x40 =>
  bif x40.2.1.1 then (
  (g_hnum_Bytes ((), ((d.1.1, ()), (d.2.1, ())))).bind fun x41 =>
  some ((), x41.2))
  else (
  some ((), ((false, ()), ())))))
  else none)
  else none)
  else none))
  else none)
  else none)
  else none)
  else none)
  else none)
  else (
  let x42 : (List Int) := ([d.2.2.2.2.1.1, d.2.2.2.2.2.2.2.1.1] : List Int)
  (g_octets_Put_u8 ((), ((d.1.1, ()), ((x42, ()), ())))).bind fun x43 =>
  let x44 : (List Int) := ([] : List Int)
  bif decide (((x44.length + d.2.1.1.length) * 1 : Nat) ≤ 140737488355328) && decide (x44.length + d.2.1.1.length ≤ 9223372036854775807) then (
  let x45 : (List Int) := (x44 ++ d.2.1.1)
  let x46 : Int := (iconv .u64 d.2.2.2.2.1.1)
  (g_ref03_Number ((), ((x46, ()), (d.2.2.2.2.2.1, ())))).bind fun x47 =>
  bif decide (((x45.length + x47.1.1.length) * 1 : Nat) ≤ 140737488355328) && decide (x45.length + x47.1.1.length ≤ 9223372036854775807) then (
  let x48 : (List Int) := (x45 ++ x47.1.1)
  (g_ref03_Number ((), (d.2.2.2.2.2.2.2.2.1, (d.2.2.2.2.2.1, ())))).bind fun x49 =>
  bif decide (((x48.length + x49.1.1.length) * 1 : Nat) ≤ 140737488355328) && decide (x48.length + x49.1.1.length ≤ 9223372036854775807) then (
  let x50 : (List Int) := (x48 ++ x49.1.1)
  (g_hnum_Bytes ((), (x43.1, ((x50, ()), ())))).bind fun x51 =>
  let x52 : Bool := (!x51.2.1.1)
  bif x52 then (
  some ((), ((false, ()), ())))
  else (
  (g_law03_lists_u8 ((), ((d.1.1, ()), (d.2.2.1, (d.2.2.2.1, (d.2.2.2.2.2.1, ())))))).bind fun x53 =>
  bif x53.2.1.1 then (
  (g_hnum_Bytes ((), ((d.1.1, ()), (d.2.1, ())))).bind fun x54 =>
  some ((), x54.2))
  else (
  some ((), ((false, ()), ())))))
  else none)
  else none)
  else none))
def f_law03_one_u8_t : Nat → TT_law03_one_u8
  | 0 => (fun _ => none, ())
  | k + 1 => (f_law03_one_u8_p12 (f_law03_one_u8_t k), ())
theorem t_law03_one_u8 (k : Nat) : f_law03_one_u8_t (k + 1) = (f_law03_one_u8_p12 (f_law03_one_u8_t k), ()) := rfl
def f_law03_one_u8_m (T : TT_law03_one_u8) (d : Unit × (((List Int) × Unit) × ((Int × Unit) × ((Int × Unit) × ((Int × Unit) × ((Int × Unit) × Unit)))))) : Option (Unit × ((Bool × Unit) × Unit)) :=
  let x1 : (List Int) := ([] : List Int)
  bif decide (((x1.length + d.2.1.1.length) * 1 : Nat) ≤ 140737488355328) && decide (x1.length + d.2.1.1.length ≤ 9223372036854775807) then (
  let x2 : (List Int) := (x1 ++ d.2.1.1)
  (g_octets_Size_u8 ((), ())).bind fun x3 =>
  let x4 : Bool := (x3.2.1.1 != d.2.2.2.2.2.1.1)
  bif x4 then (
  some ((), ((false, ()), ())))
  else (
  (g_octets_Get_u8 ((), ((x2, ()), (d.2.2.1, ())))).bind fun x5 =>
  (g_ref03_Get ((), (d.2.1, (d.2.2.1, d.2.2.2.2.2)))).bind fun x6 =>
  let x7 : Int := (iconv .u64 x5.2.1.1)
  let x8 : Bool := (x7 != x6.2.1.1)
  bif x8 then (
  some ((), ((false, ()), ())))
  else (
  (g_hnum_Num ((), x5.2.2)).bind fun x9 =>
  let x10 : Bool := (x9.2.1.1 != x6.2.2.1.1)
  bif x10 then (
  some ((), ((false, ()), ())))
  else (
  (g_octets_Set_u8 ((), ((x2, ()), (d.2.2.1, (d.2.2.2.2.1, ()))))).bind fun x11 =>
  (g_hnum_Num ((), x11.2.2)).bind fun x12 =>
  let x13 : Bool := (x12.2.1.1 != x6.2.2.1.1)
  bif x13 then (
  (T.1 ((x2, x11.1), (d.2.1, (d.2.2.1, (d.2.2.2.1, (d.2.2.2.2.1, (d.2.2.2.2.2.1, ((), (x5.2.1, (x6.2.1, (x6.2.2.1, ((), ((true, ()), ()))))))))))))))
  else (
  let x14 : Bool := (x6.2.2.1.1 != (0 : Int))
  bif x14 then (
  let x15 : Int := (x11.1.1.length : Int)
  let x16 : Bool := (decide (x15 > (0 : Int)))
  (T.1 ((x2, x11.1), (d.2.1, (d.2.2.1, (d.2.2.2.1, (d.2.2.2.2.1, (d.2.2.2.2.2.1, ((), (x5.2.1, (x6.2.1, (x6.2.2.1, ((), ((x16, ()), ()))))))))))))))
  else (
  (T.1 ((x2, x11.1), (d.2.1, (d.2.2.1, (d.2.2.2.1, (d.2.2.2.2.1, (d.2.2.2.2.2.1, ((), (x5.2.1, (x6.2.1, (x6.2.2.1, ((), ((false, ()), ())))))))))))))))))))
  else none
def c_law03_one_u8 : List Nat := [12]
def L_law03_one_u8 (k : Nat) : Pts po_law03_one_u8.den := [(12, ⟨sh_law03_one_u8_12, (f_law03_one_u8_t k).1⟩)]
def R_law03_one_u8 (_ : Nat) : PtsR po_law03_one_u8.den := []
def E_law03_one_u8 : Env := (((((((((E0.add 18 (typedSem pi_hnum_Num po_hnum_Num g_hnum_Num)).add 19 (typedSem pi_hnum_Bytes po_hnum_Bytes g_hnum_Bytes)).add 22 (typedSem pi_octets_Size_u8 po_octets_Size_u8 g_octets_Size_u8)).add 23 (typedSem pi_octets_Get_u8 po_octets_Get_u8 g_octets_Get_u8)).add 24 (typedSem pi_ref03_Get po_ref03_Get g_ref03_Get)).add 25 (typedSem pi_octets_Set_u8 po_octets_Set_u8 g_octets_Set_u8)).add 26 (typedSem pi_ref03_Number po_ref03_Number g_ref03_Number)).add 27 (typedSem pi_octets_Put_u8 po_octets_Put_u8 g_octets_Put_u8)).add 28 (typedSem pi_law03_lists_u8 po_law03_lists_u8 g_law03_lists_u8))
theorem q_law03_one_u8_12 (k : Nat) (d : sh_law03_one_u8_12.den) : evAt E_law03_one_u8 (tb (L_law03_one_u8 k) (R_law03_one_u8 k)) c_law03_one_u8 12 (bodyOf Try.f6) 0 (finK E_law03_one_u8 po_law03_one_u8 [.tmp 10]) (ptSt sh_law03_one_u8_12 d) = f_law03_one_u8_p12 (f_law03_one_u8_t k) d := by kernel_rfl
theorem q_law03_one_u8_m (k : Nat) (d : pi_law03_one_u8.den) : evCode E_law03_one_u8 (tb (L_law03_one_u8 k) (R_law03_one_u8 k)) c_law03_one_u8 (bodyOf Try.f6) 0 (finK E_law03_one_u8 po_law03_one_u8 [.tmp 10]) (startSt pi_law03_one_u8 120 d) = f_law03_one_u8_m (f_law03_one_u8_t k) d := by kernel_rfl
def g_law03_one_u8 (d : Unit × (((List Int) × Unit) × ((Int × Unit) × ((Int × Unit) × ((Int × Unit) × ((Int × Unit) × Unit)))))) : Option (Unit × ((Bool × Unit) × Unit)) := lim fun k => f_law03_one_u8_m (f_law03_one_u8_t k) d
theorem ok_law03_one_u8 : FnOk Try.prog ET0 6 pi_law03_one_u8 po_law03_one_u8 g_law03_one_u8 :=
  fn_of_body (E := E_law03_one_u8) (envOk_add (envOk_add (envOk_add (envOk_add (envOk_add (envOk_add (envOk_add (envOk_add (envOk_add e0_ok (typed_ok ok_hnum_Num)) (typed_ok ok_hnum_Bytes)) (typed_ok ok_octets_Size_u8)) (typed_ok ok_octets_Get_u8)) (typed_ok ok_ref03_Get)) (typed_ok ok_octets_Set_u8)) (typed_ok ok_ref03_Number)) (typed_ok ok_octets_Put_u8)) (typed_ok ok_law03_lists_u8)) (fn := Try.f6) Try.func6 (by kernel_rfl) (by kernel_rfl) [.tmp 10] (by kernel_rfl) (by kernel_rfl) (by decide) rfl c_law03_one_u8 L_law03_one_u8 R_law03_one_u8
    (by intro x hx d; simp only [L_law03_one_u8, List.mem_cons, List.not_mem_nil, or_false] at hx; subst hx; rfl)
    (by intro k x hx d out h; simp only [L_law03_one_u8, List.mem_cons, List.not_mem_nil, or_false] at hx; subst hx; exact (q_law03_one_u8_12 k d).trans h)
    (by intro x hx; cases hx)
    (by intro k x hx; cases hx)
    (by intro d out h; obtain ⟨k, hk⟩ := lim_some h; exact ⟨k, (q_law03_one_u8_m k d).trans hk⟩)

@[reducible] def pi_octets_word_u16 : PSh := ⟨[], [.mk false [.v (.sl (.int .u8))]]⟩
@[reducible] def po_octets_word_u16 : PSh := ⟨[], [.mk false [.v (.int .u16)]]⟩
@[reducible] def TT_octets_word_u16 : Type := (((Unit × ((Int × Unit) × (((List Int) × Unit) × ((Int × Unit) × ((Int × Unit) × Unit))))) → Option (Unit × ((Int × Unit) × Unit))) × Unit)
@[reducible] def sh_octets_word_u16_4 : PSh := ⟨[], [.any, .any, .any, .mk false [.v (.int .u64)], .any, .any, .mk false [.v (.sl (.int .u8))], .mk false [vI], .mk false [vI], .any, .any, .any, .any, .any, .any, .any, .any, .any, .any, .any]⟩
def f_octets_word_u16_p4 (T : TT_octets_word_u16) (d : Unit × ((Int × Unit) × (((List Int) × Unit) × ((Int × Unit) × ((Int × Unit) × Unit))))) : Option (Unit × ((Int × Unit) × Unit)) :=
  let x2 : Bool := (decide (d.2.2.2.2.1.1 < d.2.2.2.1.1))
  bif x2 then (
  bif decide ((0 : Int) ≤ d.2.2.2.2.1.1) && decide (d.2.2.2.2.1.1 < (d.2.2.1.1.length : Int)) then (
  let x3 : Int := (ishl .u64 d.2.1.1 (8 : Int))
  let x4 : Int := (iconv .u64 (gd (.int .u8) d.2.2.1.1 d.2.2.2.2.1.1))
  let x5 : Int := (ior .u64 x3 x4)
  let x6 : Int := (iadd .i64 d.2.2.2.2.1.1 (1 : Int))
  (T.1 ((), ((x5, ()), (d.2.2.1, (d.2.2.2.1, ((x6, ()), ())))))))
  else none)
  else (
  let x7 : Int := (iconv .u16 d.2.1.1)
  some ((), ((x7, ()), ())))
def f_octets_word_u16_t : Nat → TT_octets_word_u16
  | 0 => (fun _ => none, ())
  | k + 1 => (f_octets_word_u16_p4 (f_octets_word_u16_t k), ())
theorem t_octets_word_u16 (k : Nat) : f_octets_word_u16_t (k + 1) = (f_octets_word_u16_p4 (f_octets_word_u16_t k), ()) := rfl
def f_octets_word_u16_m (T : TT_octets_word_u16) (d : Unit × (((List Int) × Unit) × Unit)) : Option (Unit × ((Int × Unit) × Unit)) :=
  let x1 : Int := (d.2.1.1.length : Int)
  (T.1 ((), (((0 : Int), ()), (d.2.1, ((x1, ()), (((0 : Int), ()), ()))))))
def c_octets_word_u16 : List Nat := []
def L_octets_word_u16 (k : Nat) : Pts po_octets_word_u16.den := [(4, ⟨sh_octets_word_u16_4, (f_octets_word_u16_t k).1⟩)]
def R_octets_word_u16 (_ : Nat) : PtsR po_octets_word_u16.den := []
def E_octets_word_u16 : Env := E0
theorem q_octets_word_u16_4 (k : Nat) (d : sh_octets_word_u16_4.den) : evAt E_octets_word_u16 (tb (L_octets_word_u16 k) (R_octets_word_u16 k)) c_octets_word_u16 4 (bodyOf Try.f57) 0 (finK E_octets_word_u16 po_octets_word_u16 [.tmp 2]) (ptSt sh_octets_word_u16_4 d) = f_octets_word_u16_p4 (f_octets_word_u16_t k) d := by kernel_rfl
theorem q_octets_word_u16_m (k : Nat) (d : pi_octets_word_u16.den) : evCode E_octets_word_u16 (tb (L_octets_word_u16 k) (R_octets_word_u16 k)) c_octets_word_u16 (bodyOf Try.f57) 0 (finK E_octets_word_u16 po_octets_word_u16 [.tmp 2]) (startSt pi_octets_word_u16 20 d) = f_octets_word_u16_m (f_octets_word_u16_t k) d := by kernel_rfl
def g_octets_word_u16 (d : Unit × (((List Int) × Unit) × Unit)) : Option (Unit × ((Int × Unit) × Unit)) := lim fun k => f_octets_word_u16_m (f_octets_word_u16_t k) d
theorem ok_octets_word_u16 : FnOk Try.prog ET0 57 pi_octets_word_u16 po_octets_word_u16 g_octets_word_u16 :=
  fn_of_body (E := E_octets_word_u16) e0_ok (fn := Try.f57) Try.func57 (by kernel_rfl) (by kernel_rfl) [.tmp 2] (by kernel_rfl) (by kernel_rfl) (by decide) rfl c_octets_word_u16 L_octets_word_u16 R_octets_word_u16
    (by intro x hx d; simp only [L_octets_word_u16, List.mem_cons, List.not_mem_nil, or_false] at hx; subst hx; rfl)
    (by intro k x hx d out h; simp only [L_octets_word_u16, List.mem_cons, List.not_mem_nil, or_false] at hx; subst hx; exact (q_octets_word_u16_4 k d).trans h)
    (by intro x hx; cases hx)
    (by intro k x hx; cases hx)
    (by intro d out h; obtain ⟨k, hk⟩ := lim_some h; exact ⟨k, (q_octets_word_u16_m k d).trans hk⟩)

@[reducible] def pi_octets_Get_u16 : PSh := ⟨[], [.mk false [.v (.sl (.int .u8))], .mk false [vI]]⟩
@[reducible] def po_octets_Get_u16 : PSh := ⟨[], [.mk false [.v (.int .u16)], .mk false [vE]]⟩
def f_octets_Get_u16_m (T : Unit) (d : Unit × (((List Int) × Unit) × ((Int × Unit) × Unit))) : Option (Unit × ((Int × Unit) × (((Option Int) × Unit) × Unit))) :=
  (g_octets_Size_u16 ((), ())).bind fun x1 =>
  (g_octets_from ((), (d.2.1, (d.2.2.1, x1.2)))).bind fun x2 =>
  let x3 : Bool := (!x2.2.2.1.1.isNone)
  bif x3 then (
  some ((), (((0 : Int), ()), x2.2.2)))
  else (
  (g_octets_word_u16 ((), (x2.2.1, ()))).bind fun x4 =>
  some ((), (x4.2.1, (((none : Option Int), ()), ()))))
def g_octets_Get_u16 (d : Unit × (((List Int) × Unit) × ((Int × Unit) × Unit))) : Option (Unit × ((Int × Unit) × (((Option Int) × Unit) × Unit))) := f_octets_Get_u16_m () d
theorem ok_octets_Get_u16 : FnOk Try.prog ET0 30 pi_octets_Get_u16 po_octets_Get_u16 g_octets_Get_u16 :=
  fn0 (E := (((E0.add 29 (typedSem pi_octets_Size_u16 po_octets_Size_u16 g_octets_Size_u16)).add 52 (typedSem pi_octets_from po_octets_from g_octets_from)).add 57 (typedSem pi_octets_word_u16 po_octets_word_u16 g_octets_word_u16))) (envOk_add (envOk_add (envOk_add e0_ok (typed_ok ok_octets_Size_u16)) (typed_ok ok_octets_from)) (typed_ok ok_octets_word_u16)) (fn := Try.f30) Try.func30 (by kernel_rfl) (by kernel_rfl) [.tmp 4, .tmp 5] (by kernel_rfl) rfl rfl rfl [] fun d => by kernel_rfl

@[reducible] def pi_octets_Set_u16 : PSh := ⟨[], [.mk false [.v (.sl (.int .u8))], .mk false [vI], .mk false [.v (.int .u16)]]⟩
@[reducible] def po_octets_Set_u16 : PSh := ⟨[.row 5 (.int .u8)], [.mk false [.osl 0], .mk false [vE]]⟩
def f_octets_Set_u16_m (T : Unit) (d : Unit × (((List Int) × Unit) × ((Int × Unit) × ((Int × Unit) × Unit)))) : Option (((List Int) × Unit) × (Unit × (((Option Int) × Unit) × Unit))) :=
  (g_octets_Get_u16 ((), (d.2.1, (d.2.2.1, ())))).bind fun x1 =>
  let x2 : Bool := (!x1.2.2.1.1.isNone)
  bif x2 then (
  some ((([] : List Int), ()), ((), x1.2.2)))
  else (
  (g_slices_Clone_byte_byte ((), (d.2.1, ()))).bind fun x3 =>
  bif decide ((0 : Int) ≤ d.2.2.1.1) && decide (d.2.2.1.1 < (x3.1.1.length : Int)) then (
  let x4 : (List Int) := ([d.2.2.2.1.1] : List Int)
  (g_octets_Put_u16 ((), ((([] : List Int), ()), ((x4, ()), ())))).bind fun x5 =>
  let x6 : (List Int) := (cpL x3.1.1 (Int.toNat d.2.2.1.1) x5.1.1)
  let x7 : Int := ((min x5.1.1.length (x3.1.1.length - (Int.toNat d.2.2.1.1)) : Nat) : Int)
  some ((x6, ()), ((), (((none : Option Int), ()), ()))))
  else none)
def g_octets_Set_u16 (d : Unit × (((List Int) × Unit) × ((Int × Unit) × ((Int × Unit) × Unit)))) : Option (((List Int) × Unit) × (Unit × (((Option Int) × Unit) × Unit))) := f_octets_Set_u16_m () d
theorem ok_octets_Set_u16 : FnOk Try.prog ET0 31 pi_octets_Set_u16 po_octets_Set_u16 g_octets_Set_u16 :=
  fn0 (E := (((E0.add 20 (typedSem pi_octets_Put_u16 po_octets_Put_u16 g_octets_Put_u16)).add 30 (typedSem pi_octets_Get_u16 po_octets_Get_u16 g_octets_Get_u16)).add 51 (typedSem pi_slices_Clone_byte_byte po_slices_Clone_byte_byte g_slices_Clone_byte_byte))) (envOk_add (envOk_add (envOk_add e0_ok (typed_ok ok_octets_Put_u16)) (typed_ok ok_octets_Get_u16)) (typed_ok ok_slices_Clone_byte_byte)) (fn := Try.f31) Try.func31 (by kernel_rfl) (by kernel_rfl) [.tmp 6, .tmp 7] (by kernel_rfl) rfl rfl rfl [] fun d => by kernel_rfl

@[reducible] def pi_octets_List_u16 : PSh := ⟨[], [.mk false [.v (.sl (.int .u8))], .mk false [vI], .mk false [vI]]⟩
@[reducible] def po_octets_List_u16 : PSh := ⟨[.row 28 (.int .u16)], [.mk false [.osl 0], .mk false [vE]]⟩
@[reducible] def TT_octets_List_u16 : Type := ((List (List Int) → ((Unit × ((List Int) × Unit)) × (Unit × Unit)) → Option (((List Int) × Unit) × (Unit × (((Option Int) × Unit) × Unit)))) × Unit)
@[reducible] def sh_octets_List_u16_10 : PSh := ⟨[.var 97 [.osl 1], .row 28 (.int .u16)], [.any, .any, .any, .any, .any, .any, .any, .any, .any, .mk false [.ref 0 0], .any, .any, .any, .any, .any, .any, .any, .any, .any, .any, .any, .any, .any, .any, .any, .any, .any, .any, .any, .any, .any, .any, .any, .any, .any, .any, .any, .any, .any, .any, .any, .any, .any, .any, .any, .any, .any, .any, .any, .any, .any, .any, .any]⟩
def f_octets_List_u16_p10 (T : TT_octets_List_u16) (l : List (List Int)) (d : (Unit × ((List Int) × Unit)) × (Unit × Unit)) : Option (((List Int) × Unit) × (Unit × (((Option Int) × Unit) × Unit))) :=
  bif l.isEmpty then (
  some (d.1.2, ((), (((none : Option Int), ()), ()))))
  else (
  let x19 : (List Int) := (gd (.sl (.int .u8)) l (0 : Int))
  (g_octets_word_u16 ((), ((x19, ()), ()))).bind fun x20 =>
  let x21 : (List Int) := ([x20.2.1.1] : List Int)
  bif decide (((d.1.2.1.length + x21.length) * 2 : Nat) ≤ 140737488355328) && decide (d.1.2.1.length + x21.length ≤ 9223372036854775807) then (
  let x22 : (List Int) := (d.1.2.1 ++ x21)
  (T.1 (List.drop 1 l) (((), (x22, ())), ((), ()))))
  else none)
def f_octets_List_u16_t : Nat → TT_octets_List_u16
  | 0 => (fun _ _ => none, ())
  | k + 1 => (f_octets_List_u16_p10 (f_octets_List_u16_t k), ())
theorem t_octets_List_u16 (k : Nat) : f_octets_List_u16_t (k + 1) = (f_octets_List_u16_p10 (f_octets_List_u16_t k), ()) := rfl
def f_octets_List_u16_m (T : TT_octets_List_u16) (d : Unit × (((List Int) × Unit) × ((Int × Unit) × ((Int × Unit) × Unit)))) : Option (((List Int) × Unit) × (Unit × (((Option Int) × Unit) × Unit))) :=
  (g_octets_Size_u16 ((), ())).bind fun x1 =>
  let x2 : Bool := (decide (d.2.2.1.1 < (0 : Int)))
  bif x2 then (
  let x3 : (Option Int) := (some (1 : Int))
  some ((([] : List Int), ()), ((), ((x3, ()), ()))))
  else (
  let x4 : Int := (d.2.1.1.length : Int)
  let x5 : Bool := (decide (d.2.2.1.1 > x4))
  bif x5 then (
  let x6 : (Option Int) := (some (1 : Int))
  some ((([] : List Int), ()), ((), ((x6, ()), ()))))
  else (
  let x7 : Bool := (decide (d.2.2.2.1.1 < (0 : Int)))
  bif x7 then (
  let x8 : (Option Int) := (some (1 : Int))
  some ((([] : List Int), ()), ((), ((x8, ()), ()))))
  else (
  let x9 : Int := (d.2.1.1.length : Int)
  let x10 : Int := (isub .i64 x9 d.2.2.1.1)
  bif (x1.2.1.1 == 0) then (
  none)
  else (
  let x11 : Int := (iquo .i64 x10 x1.2.1.1)
  let x12 : Bool := (decide (d.2.2.2.1.1 > x11))
  bif x12 then (
  let x13 : (Option Int) := (some (4 : Int))
  some ((([] : List Int), ()), ((), ((x13, ()), ()))))
  else (
  let x14 : Int := (imul .i64 d.2.2.2.1.1 x1.2.1.1)
  let x15 : Int := (iadd .i64 d.2.2.1.1 x14)
  bif decide ((0 : Int) ≤ d.2.2.1.1) && decide (d.2.2.1.1 ≤ x15) && decide (x15 ≤ (d.2.1.1.length : Int)) then (
  let x16 : (List Int) := (List.drop (Int.toNat d.2.2.1.1) (List.take (Int.toNat x15) d.2.1.1))
  (g_slices_Chunk_byte_byte ((), ((x16, ()), x1.2))).bind fun x17 =>
  (F_slices_Chunk_byte_byte_1 (x17.1.1.1, (x17.1.2.1.1, ()))).bind fun x18 =>
  (T.1 x18 (((), (([] : List Int), ())), ((), ()))))
  else none)))))
def c_octets_List_u16 : List Nat := []
def L_octets_List_u16 (_ : Nat) : Pts po_octets_List_u16.den := []
def R_octets_List_u16 (k : Nat) : PtsR po_octets_List_u16.den := [(10, ⟨(sh_octets_List_u16_10, (.sl (.int .u8))), (f_octets_List_u16_t k).1⟩)]
def E_octets_List_u16 : Env := ((((E0.add 29 (typedSem pi_octets_Size_u16 po_octets_Size_u16 g_octets_Size_u16)).add 57 (typedSem pi_octets_word_u16 po_octets_word_u16 g_octets_word_u16)).add 78 (typedSem pi_slices_Chunk_byte_byte po_slices_Chunk_byte_byte g_slices_Chunk_byte_byte)).sq 92 sq_slices_Chunk_byte_byte_1)
theorem q_octets_List_u16_10 (k : Nat) (l : List (List Int)) (d : sh_octets_List_u16_10.den) : evAtR E_octets_List_u16 (tb (L_octets_List_u16 k) (R_octets_List_u16 k)) c_octets_List_u16 10 (bodyOf Try.f58) 0 (finK E_octets_List_u16 po_octets_List_u16 [.tmp 6, .tmp 7]) (.sl (.int .u8)) l (ptSt sh_octets_List_u16_10 d) = f_octets_List_u16_p10 (f_octets_List_u16_t k) l d := by kernel_rfl
theorem q_octets_List_u16_m (k : Nat) (d : pi_octets_List_u16.den) : evCode E_octets_List_u16 (tb (L_octets_List_u16 k) (R_octets_List_u16 k)) c_octets_List_u16 (bodyOf Try.f58) 0 (finK E_octets_List_u16 po_octets_List_u16 [.tmp 6, .tmp 7]) (startSt pi_octets_List_u16 53 d) = f_octets_List_u16_m (f_octets_List_u16_t k) d := by kernel_rfl
def g_octets_List_u16 (d : Unit × (((List Int) × Unit) × ((Int × Unit) × ((Int × Unit) × Unit)))) : Option (((List Int) × Unit) × (Unit × (((Option Int) × Unit) × Unit))) := lim fun k => f_octets_List_u16_m (f_octets_List_u16_t k) d
theorem ok_octets_List_u16 : FnOk Try.prog ET0 58 pi_octets_List_u16 po_octets_List_u16 g_octets_List_u16 :=
  fn_of_body (E := E_octets_List_u16) (envOk_sq (envOk_add (envOk_add (envOk_add e0_ok (typed_ok ok_octets_Size_u16)) (typed_ok ok_octets_word_u16)) (typed_ok ok_slices_Chunk_byte_byte)) okq_slices_Chunk_byte_byte_1) (fn := Try.f58) Try.func58 (by kernel_rfl) (by kernel_rfl) [.tmp 6, .tmp 7] (by kernel_rfl) (by kernel_rfl) (by decide) rfl c_octets_List_u16 L_octets_List_u16 R_octets_List_u16
    (by intro x hx; cases hx)
    (by intro k x hx; cases hx)
    (by intro x hx l d; simp only [R_octets_List_u16, List.mem_cons, List.not_mem_nil, or_false] at hx; subst hx; rfl)
    (by intro k x hx l d out h; simp only [R_octets_List_u16, List.mem_cons, List.not_mem_nil, or_false] at hx; subst hx; exact (q_octets_List_u16_10 k l d).trans h)
    (by intro d out h; obtain ⟨k, hk⟩ := lim_some h; exact ⟨k, (q_octets_List_u16_m k d).trans hk⟩)

@[reducible] def pi_law03_lists_u16 : PSh := ⟨[], [.mk false [.v (.sl (.int .u8))], .mk false [vI], .mk false [vI], .mk false [vI]]⟩
@[reducible] def po_law03_lists_u16 : PSh := ⟨[], [.mk false [vB]]⟩
@[reducible] def TT_law03_lists_u16 : Type := (((((List Int) × Unit) × (((List Int) × Unit) × ((Int × Unit) × ((Int × Unit) × (Unit × ((Int × Unit) × ((Int × Unit) × Unit))))))) → Option (Unit × ((Bool × Unit) × Unit))) × Unit)
@[reducible] def sh_law03_lists_u16_13 : PSh := ⟨[.row 28 (.int .u16)], [.mk false [.v (.sl (.int .u8))], .mk false [vI], .any, .mk false [vI], .any, .any, .any, .any, .any, .any, .any, .any, .any, .any, .any, .any, .any, .any, .any, .any, .any, .any, .any, .any, .any, .any, .any, .any, .any, .any, .any, .any, .any, .any, .any, .any, .any, .any, .any, .any, .any, .any, .any, .any, .any, .any, .any, .any, .any, .any, .any, .any, .any, .any, .any, .any, .any, .any, .any, .any, .any, .any, .any, .any, .any, .any, .any, .any, .any, .any, .mk false [.osl 0], .mk false [vI], .mk false [vI], .any, .any, .any, .any, .any, .any, .any, .any, .any, .any, .any, .any, .any, .any, .any, .any, .any, .any, .any, .any]⟩
def f_law03_lists_u16_p13 (T : TT_law03_lists_u16) (d : ((List Int) × Unit) × (((List Int) × Unit) × ((Int × Unit) × ((Int × Unit) × (Unit × ((Int × Unit) × ((Int × Unit) × Unit))))))) : Option (Unit × ((Bool × Unit) × Unit)) :=
  let x31 : Bool := (decide (d.2.2.2.2.2.2.1.1 < d.2.2.2.2.2.1.1))
  bif x31 then (
  bif decide ((0 : Int) ≤ d.2.2.2.2.2.2.1.1) && decide (d.2.2.2.2.2.2.1.1 < (d.1.1.length : Int)) then (
  let x32 : Int := (imul .i64 d.2.2.2.2.2.2.1.1 d.2.2.2.1.1)
  let x33 : Int := (iadd .i64 d.2.2.1.1 x32)
  (g_ref03_Get ((), (d.2.1, ((x33, ()), (d.2.2.2.1, ()))))).bind fun x34 =>
  let x35 : Int := (iconv .u64 (gd (.int .u16) d.1.1 d.2.2.2.2.2.2.1.1))
  let x36 : Bool := (x35 != x34.2.1.1)
  bif x36 then (
  some ((), ((false, ()), ())))
  else (
  let x37 : Int := (iadd .i64 d.2.2.2.2.2.2.1.1 (1 : Int))
  (T.1 (d.1, (d.2.1, (d.2.2.1, (d.2.2.2.1, ((), (d.2.2.2.2.2.1, ((x37, ()), ()))))))))))
  else none)
  else (
  some ((), ((true, ()), ())))
def f_law03_lists_u16_t : Nat → TT_law03_lists_u16
  | 0 => (fun _ => none, ())
  | k + 1 => (f_law03_lists_u16_p13 (f_law03_lists_u16_t k), ())
theorem t_law03_lists_u16 (k : Nat) : f_law03_lists_u16_t (k + 1) = (f_law03_lists_u16_p13 (f_law03_lists_u16_t k), ()) := rfl
def f_law03_lists_u16_m (T : TT_law03_lists_u16) (d : Unit × (((List Int) × Unit) × ((Int × Unit) × ((Int × Unit) × ((Int × Unit) × Unit))))) : Option (Unit × ((Bool × Unit) × Unit)) :=
  (g_octets_List_u16 ((), (d.2.1, (d.2.2.1, (d.2.2.2.1, ()))))).bind fun x1 =>
  let x2 : Bool := (decide (d.2.2.1.1 < (0 : Int)))
  bif x2 then (
  let x3 : Int := (x1.1.1.length : Int)
  let x4 : Bool := (x3 == (0 : Int))
  bif x4 then (
  (g_hnum_Is ((), (x1.2.2.1, (((1 : Int), ()), ())))).bind fun x5 =>
  some ((), x5.2))
  else (
  some ((), ((false, ()), ()))))
  else (
  let x6 : Int := (d.2.1.1.length : Int)
  let x7 : Bool := (decide (d.2.2.1.1 > x6))
  bif x7 then (
  let x8 : Int := (x1.1.1.length : Int)
  let x9 : Bool := (x8 == (0 : Int))
  bif x9 then (
  (g_hnum_Is ((), (x1.2.2.1, (((1 : Int), ()), ())))).bind fun x10 =>
  some ((), x10.2))
  else (
  some ((), ((false, ()), ()))))
  else (
  let x11 : Bool := (decide (d.2.2.2.1.1 < (0 : Int)))
  bif x11 then (
  let x12 : Int := (x1.1.1.length : Int)
  let x13 : Bool := (x12 == (0 : Int))
  bif x13 then (
  (g_hnum_Is ((), (x1.2.2.1, (((1 : Int), ()), ())))).bind fun x14 =>
  some ((), x14.2))
  else (
  some ((), ((false, ()), ()))))
  else (
  let x15 : Int := (d.2.1.1.length : Int)
  let x16 : Bool := (decide (d.2.2.2.1.1 > x15))
  bif x16 then (
  let x17 : Int := (x1.1.1.length : Int)
  let x18 : Bool := (x17 == (0 : Int))
  bif x18 then (
  (g_hnum_Is ((), (x1.2.2.1, (((4 : Int), ()), ())))).bind fun x19 =>
  some ((), x19.2))
  else (
  some ((), ((false, ()), ()))))
  else (
  let x20 : Int := (imul .i64 d.2.2.2.1.1 d.2.2.2.2.1.1)
  let x21 : Int := (d.2.1.1.length : Int)
  let x22 : Int := (isub .i64 x21 d.2.2.1.1)
  let x23 : Bool := (decide (x20 > x22))
  bif x23 then (
  let x24 : Int := (x1.1.1.length : Int)
  let x25 : Bool := (x24 == (0 : Int))
  bif x25 then (
  (g_hnum_Is ((), (x1.2.2.1, (((4 : Int), ()), ())))).bind fun x26 =>
  some ((), x26.2))
  else (
  some ((), ((false, ()), ()))))
  else (
  let x27 : Bool := (!x1.2.2.1.1.isNone)
  bif x27 then (
  some ((), ((false, ()), ())))
  else (
  let x28 : Int := (x1.1.1.length : Int)
  let x29 : Bool := (x28 != d.2.2.2.1.1)
  bif x29 then (
  some ((), ((false, ()), ())))
  else (
  let x30 : Int := (x1.1.1.length : Int)
  (T.1 (x1.1, (d.2.1, (d.2.2.1, (d.2.2.2.2.1, ((), ((x30, ()), (((0 : Int), ()), ())))))))))))))))
def c_law03_lists_u16 : List Nat := []
def L_law03_lists_u16 (k : Nat) : Pts po_law03_lists_u16.den := [(13, ⟨sh_law03_lists_u16_13, (f_law03_lists_u16_t k).1⟩)]
def R_law03_lists_u16 (_ : Nat) : PtsR po_law03_lists_u16.den := []
def E_law03_lists_u16 : Env := (((E0.add 24 (typedSem pi_ref03_Get po_ref03_Get g_ref03_Get)).add 56 (typedSem pi_hnum_Is po_hnum_Is g_hnum_Is)).add 58 (typedSem pi_octets_List_u16 po_octets_List_u16 g_octets_List_u16))
theorem q_law03_lists_u16_13 (k : Nat) (d : sh_law03_lists_u16_13.den) : evAt E_law03_lists_u16 (tb (L_law03_lists_u16 k) (R_law03_lists_u16 k)) c_law03_lists_u16 13 (bodyOf Try.f32) 0 (finK E_law03_lists_u16 po_law03_lists_u16 [.tmp 8]) (ptSt sh_law03_lists_u16_13 d) = f_law03_lists_u16_p13 (f_law03_lists_u16_t k) d := by kernel_rfl
theorem q_law03_lists_u16_m (k : Nat) (d : pi_law03_lists_u16.den) : evCode E_law03_lists_u16 (tb (L_law03_lists_u16 k) (R_law03_lists_u16 k)) c_law03_lists_u16 (bodyOf Try.f32) 0 (finK E_law03_lists_u16 po_law03_lists_u16 [.tmp 8]) (startSt pi_law03_lists_u16 93 d) = f_law03_lists_u16_m (f_law03_lists_u16_t k) d := by kernel_rfl
def g_law03_lists_u16 (d : Unit × (((List Int) × Unit) × ((Int × Unit) × ((Int × Unit) × ((Int × Unit) × Unit))))) : Option (Unit × ((Bool × Unit) × Unit)) := lim fun k => f_law03_lists_u16_m (f_law03_lists_u16_t k) d
theorem ok_law03_lists_u16 : FnOk Try.prog ET0 32 pi_law03_lists_u16 po_law03_lists_u16 g_law03_lists_u16 :=
  fn_of_body (E := E_law03_lists_u16) (envOk_add (envOk_add (envOk_add e0_ok (typed_ok ok_ref03_Get)) (typed_ok ok_hnum_Is)) (typed_ok ok_octets_List_u16)) (fn := Try.f32) Try.func32 (by kernel_rfl) (by kernel_rfl) [.tmp 8] (by kernel_rfl) (by kernel_rfl) (by decide) rfl c_law03_lists_u16 L_law03_lists_u16 R_law03_lists_u16
    (by intro x hx d; simp only [L_law03_lists_u16, List.mem_cons, List.not_mem_nil, or_false] at hx; subst hx; rfl)
    (by intro k x hx d out h; simp only [L_law03_lists_u16, List.mem_cons, List.not_mem_nil, or_false] at hx; subst hx; exact (q_law03_lists_u16_13 k d).trans h)
    (by intro x hx; cases hx)
    (by intro k x hx; cases hx)
    (by intro d out h; obtain ⟨k, hk⟩ := lim_some h; exact ⟨k, (q_law03_lists_u16_m k d).trans hk⟩)

@[reducible] def pi_law03_one_u16 : PSh := ⟨[], [.mk false [.v (.sl (.int .u8))], .mk false [vI], .mk false [vI], .mk false [.v (.int .u16)], .mk false [vI]]⟩
@[reducible] def po_law03_one_u16 : PSh := ⟨[], [.mk false [vB]]⟩
@[reducible] def TT_law03_one_u16 : Type := (((((List Int) × ((List Int) × Unit)) × (((List Int) × Unit) × ((Int × Unit) × ((Int × Unit) × ((Int × Unit) × ((Int × Unit) × (Unit × ((Int × Unit) × ((Int × Unit) × ((Int × Unit) × (Unit × ((Bool × Unit) × Unit)))))))))))) → Option (Unit × ((Bool × Unit) × Unit))) × Unit)
@[reducible] def sh_law03_one_u16_12 : PSh := ⟨[.row 5 (.int .u8), .row 5 (.int .u8)], [.mk false [.v (.sl (.int .u8))], .mk false [vI], .mk false [vI], .mk false [.v (.int .u16)], .mk false [vI], .any, .any, .any, .any, .any, .any, .mk false [.osl 0], .mk false [.v (.int .u16)], .any, .mk false [.v (.int .u64)], .mk false [vI], .mk false [.osl 1], .any, .any, .any, .any, .any, .any, .any, .any, .any, .any, .any, .any, .any, .any, .any, .any, .any, .any, .any, .any, .any, .any, .any, .any, .any, .any, .any, .any, .any, .any, .any, .any, .any, .any, .any, .any, .any, .any, .any, .any, .any, .any, .any, .any, .any, .any, .any, .any, .any, .mk false [vB], .any, .any, .any, .any, .any, .any, .any, .any, .any, .any, .any, .any, .any, .any, .any, .any, .any, .any, .any, .any, .any, .any, .any, .any, .any, .any, .any, .any, .any, .any, .any, .any, .any, .any, .any, .any, .any, .any, .any, .any, .any, .any, .any, .any, .any, .any, .any, .any, .any, .any, .any, .any, .any]⟩
def f_law03_one_u16_p12 (T : TT_law03_one_u16) (d : ((List Int) × ((List Int) × Unit)) × (((List Int) × Unit) × ((Int × Unit) × ((Int × Unit) × ((Int × Unit) × ((Int × Unit) × (Unit × ((Int × Unit) × ((Int × Unit) × ((Int × Unit) × (Unit × ((Bool × Unit) × Unit)))))))))))) : Option (Unit × ((Bool × Unit) × Unit)) :=
  bif d.2.2.2.2.2.2.2.2.2.2.2.1.1 then (
  some ((), ((false, ()), ())))
  else (
  let x17 : Bool := (d.2.2.2.2.2.2.2.2.2.1.1 == (0 : Int))
  bif x17 then (
  let x18 : (List Int) := ([] : List Int)
  bif decide ((0 : Int) ≤ (0 : Int)) && decide ((0 : Int) ≤ d.2.2.1.1) && decide (d.2.2.1.1 ≤ (d.2.1.1.length : Int)) then (
  let x19 : (List Int) := (List.drop (Int.toNat (0 : Int)) (List.take (Int.toNat d.2.2.1.1) d.2.1.1))
  bif decide (((x18.length + x19.length) * 1 : Nat) ≤ 140737488355328) && decide (x18.length + x19.length ≤ 9223372036854775807) then (
  let x20 : (List Int) := (x18 ++ x19)
  let x21 : Int := (iconv .u64 d.2.2.2.2.1.1)
  (g_ref03_Number ((), ((x21, ()), (d.2.2.2.2.2.1, ())))).bind fun x22 =>
  bif decide (((x20.length + x22.1.1.length) * 1 : Nat) ≤ 140737488355328) && decide (x20.length + x22.1.1.length ≤ 9223372036854775807) then (
  let x23 : (List Int) := (x20 ++ x22.1.1)
  let x24 : Int := (iadd .i64 d.2.2.1.1 d.2.2.2.2.2.1.1)
  bif decide ((0 : Int) ≤ x24) && decide (x24 ≤ (d.2.1.1.length : Int)) && decide ((d.2.1.1.length : Int) ≤ (d.2.1.1.length : Int)) then (
  let x25 : (List Int) := (List.drop (Int.toNat x24) (List.take (Int.toNat (d.2.1.1.length : Int)) d.2.1.1))
  bif decide (((x23.length + x25.length) * 1 : Nat) ≤ 140737488355328) && decide (x23.length + x25.length ≤ 9223372036854775807) then (
  let x26 : (List Int) := (x23 ++ x25)
  (g_hnum_Bytes ((), (d.1.2, ((x26, ()), ())))).bind fun x27 =>
  let x28 : Bool := (!x27.2.1.1)
  bif x28 then (
  some ((), ((false, ()), ())))
  else (
  let x29 : (List Int) := ([d.2.2.2.2.1.1, d.2.2.2.2.2.2.2.1.1] : List Int)
  (g_octets_Put_u16 ((), ((d.1.1, ()), ((x29, ()), ())))).bind fun x30 =>
  let x31 : (List Int) := ([] : List Int)
  bif decide (((x31.length + d.2.1.1.length) * 1 : Nat) ≤ 140737488355328) && decide (x31.length + d.2.1.1.length ≤ 9223372036854775807) then (
  let x32 : (List Int) := (x31 ++ d.2.1.1)
  let x33 : Int := (iconv .u64 d.2.2.2.2.1.1)
  (g_ref03_Number ((), ((x33, ()), (d.2.2.2.2.2.1, ())))).bind fun x34 =>
  bif decide (((x32.length + x34.1.1.length) * 1 : Nat) ≤ 140737488355328) && decide (x32.length + x34.1.1.length ≤ 9223372036854775807) then (
  let x35 : (List Int) := (x32 ++ x34.1.1)
  (g_ref03_Number ((), (d.2.2.2.2.2.2.2.2.1, (d.2.2.2.2.2.1, ())))).bind fun x36 =>
  bif decide (((x35.length + x36.1.1.length) * 1 : Nat) ≤ 140737488355328) && decide (x35.length + x36.1.1.length ≤ 9223372036854775807) then (
  let x37 : (List Int) := (x35 ++ x36.1.1)
  (g_hnum_Bytes ((), (x30.1, ((x37, ()), ())))).bind fun x38 =>
  let x39 : Bool := (!x38.2.1.1)
  bif x39 then (
  some ((), ((false, ()), ())))
  else (
  (g_law03_lists_u16 ((), ((d.1.1, ()), (d.2.2.1, (d.2.2.2.1, (d.2.2.2.2.2.1, ())))))).bind fun x40 =>
  bif x40.2.1.1 then (
  (g_hnum_Bytes ((), ((d.1.1, ()), (d.2.1, ())))).bind fun x41 =>
  some ((), x41.2))
  else (
  some ((), ((false, ()), ())))))
  else none)
  else none)
  else none))
  else none)
  else none)
  else none)
  else none)
  else none)
  else (
  let x42 : (List Int) := ([d.2.2.2.2.1.1, d.2.2.2.2.2.2.2.1.1] : List Int)
  (g_octets_Put_u16 ((), ((d.1.1, ()), ((x42, ()), ())))).bind fun x43 =>
  let x44 : (List Int) := ([] : List Int)
  bif decide (((x44.length + d.2.1.1.length) * 1 : Nat) ≤ 140737488355328) && decide (x44.length + d.2.1.1.length ≤ 9223372036854775807) then (
  let x45 : (List Int) := (x44 ++ d.2.1.1)
  let x46 : Int := (iconv .u64 d.2.2.2.2.1.1)
  (g_ref03_Number ((), ((x46, ()), (d.2.2.2.2.2.1, ())))).bind fun x47 =>
  bif decide (((x45.length + x47.1.1.length) * 1 : Nat) ≤ 140737488355328) && decide (x45.length + x47.1.1.length ≤ 9223372036854775807) then (
  let x48 : (List Int) := (x45 ++ x47.1.1)
  (g_ref03_Number ((), (d.2.2.2.2.2.2.2.2.1, (d.2.2.2.2.2.1, ())))).bind fun x49 =>
  bif decide (((x48.length + x49.1.1.length) * 1 : Nat) ≤ 140737488355328) && decide (x48.length + x49.1.1.length ≤ 9223372036854775807) then (
  let x50 : (List Int) := (x48 ++ x49.1.1)
  (g_hnum_Bytes ((), (x43.1, ((x50, ()), ())))).bind fun x51 =>
  let x52 : Bool := (!x51.2.1.1)
  bif x52 then (
  some ((), ((false, ()), ())))
  else (
  (g_law03_lists_u16 ((), ((d.1.1, ()), (d.2.2.1, (d.2.2.2.1, (d.2.2.2.2.2.1, ())))))).bind fun x53 =>
  bif x53.2.1.1 then (
  (g_hnum_Bytes ((), ((d.1.1, ()), (d.2.1, ())))).bind fun x54 =>
  some ((), x54.2))
  else (
  some ((), ((false, ()), ())))))
  else none)
  else none)
  else none))
def f_law03_one_u16_t : Nat → TT_law03_one_u16
  | 0 => (fun _ => none, ())
  | k + 1 => (f_law03_one_u16_p12 (f_law03_one_u16_t k), ())
theorem t_law03_one_u16 (k : Nat) : f_law03_one_u16_t (k + 1) = (f_law03_one_u16_p12 (f_law03_one_u16_t k), ()) := rfl
def f_law03_one_u16_m (T : TT_law03_one_u16) (d : Unit × (((List Int) × Unit) × ((Int × Unit) × ((Int × Unit) × ((Int × Unit) × ((Int × Unit) × Unit)))))) : Option (Unit × ((Bool × Unit) × Unit)) :=
  let x1 : (List Int) := ([] : List Int)
  bif decide (((x1.length + d.2.1.1.length) * 1 : Nat) ≤ 140737488355328) && decide (x1.length + d.2.1.1.length ≤ 9223372036854775807) then (
  let x2 : (List Int) := (x1 ++ d.2.1.1)
  (g_octets_Size_u16 ((), ())).bind fun x3 =>
  let x4 : Bool := (x3.2.1.1 != d.2.2.2.2.2.1.1)
  bif x4 then (
  some ((), ((false, ()), ())))
  else (
  (g_octets_Get_u16 ((), ((x2, ()), (d.2.2.1, ())))).bind fun x5 =>
  (g_ref03_Get ((), (d.2.1, (d.2.2.1, d.2.2.2.2.2)))).bind fun x6 =>
  let x7 : Int := (iconv .u64 x5.2.1.1)
  let x8 : Bool := (x7 != x6.2.1.1)
  bif x8 then (
  some ((), ((false, ()), ())))
  else (
  (g_hnum_Num ((), x5.2.2)).bind fun x9 =>
  let x10 : Bool := (x9.2.1.1 != x6.2.2.1.1)
  bif x10 then (
  some ((), ((false, ()), ())))
  else (
  (g_octets_Set_u16 ((), ((x2, ()), (d.2.2.1, (d.2.2.2.2.1, ()))))).bind fun x11 =>
  (g_hnum_Num ((), x11.2.2)).bind fun x12 =>
  let x13 : Bool := (x12.2.1.1 != x6.2.2.1.1)
  bif x13 then (
  (T.1 ((x2, x11.1), (d.2.1, (d.2.2.1, (d.2.2.2.1, (d.2.2.2.2.1, (d.2.2.2.2.2.1, ((), (x5.2.1, (x6.2.1, (x6.2.2.1, ((), ((true, ()), ()))))))))))))))
  else (
  let x14 : Bool := (x6.2.2.1.1 != (0 : Int))
  bif x14 then (
  let x15 : Int := (x11.1.1.length : Int)
  let x16 : Bool := (decide (x15 > (0 : Int)))
  (T.1 ((x2, x11.1), (d.2.1, (d.2.2.1, (d.2.2.2.1, (d.2.2.2.2.1, (d.2.2.2.2.2.1, ((), (x5.2.1, (x6.2.1, (x6.2.2.1, ((), ((x16, ()), ()))))))))))))))
  else (
  (T.1 ((x2, x11.1), (d.2.1, (d.2.2.1, (d.2.2.2.1, (d.2.2.2.2.1, (d.2.2.2.2.2.1, ((), (x5.2.1, (x6.2.1, (x6.2.2.1, ((), ((false, ()), ())))))))))))))))))))
  else none
def c_law03_one_u16 : List Nat := [12]
def L_law03_one_u16 (k : Nat) : Pts po_law03_one_u16.den := [(12, ⟨sh_law03_one_u16_12, (f_law03_one_u16_t k).1⟩)]
def R_law03_one_u16 (_ : Nat) : PtsR po_law03_one_u16.den := []
def E_law03_one_u16 : Env := (((((((((E0.add 18 (typedSem pi_hnum_Num po_hnum_Num g_hnum_Num)).add 19 (typedSem pi_hnum_Bytes po_hnum_Bytes g_hnum_Bytes)).add 20 (typedSem pi_octets_Put_u16 po_octets_Put_u16 g_octets_Put_u16)).add 24 (typedSem pi_ref03_Get po_ref03_Get g_ref03_Get)).add 26 (typedSem pi_ref03_Number po_ref03_Number g_ref03_Number)).add 29 (typedSem pi_octets_Size_u16 po_octets_Size_u16 g_octets_Size_u16)).add 30 (typedSem pi_octets_Get_u16 po_octets_Get_u16 g_octets_Get_u16)).add 31 (typedSem pi_octets_Set_u16 po_octets_Set_u16 g_octets_Set_u16)).add 32 (typedSem pi_law03_lists_u16 po_law03_lists_u16 g_law03_lists_u16))
theorem q_law03_one_u16_12 (k : Nat) (d : sh_law03_one_u16_12.den) : evAt E_law03_one_u16 (tb (L_law03_one_u16 k) (R_law03_one_u16 k)) c_law03_one_u16 12 (bodyOf Try.f7) 0 (finK E_law03_one_u16 po_law03_one_u16 [.tmp 10]) (ptSt sh_law03_one_u16_12 d) = f_law03_one_u16_p12 (f_law03_one_u16_t k) d := by kernel_rfl
theorem q_law03_one_u16_m (k : Nat) (d : pi_law03_one_u16.den) : evCode E_law03_one_u16 (tb (L_law03_one_u16 k) (R_law03_one_u16 k)) c_law03_one_u16 (bodyOf Try.f7) 0 (finK E_law03_one_u16 po_law03_one_u16 [.tmp 10]) (startSt pi_law03_one_u16 120 d) = f_law03_one_u16_m (f_law03_one_u16_t k) d := by kernel_rfl
def g_law03_one_u16 (d : Unit × (((List Int) × Unit) × ((Int × Unit) × ((Int × Unit) × ((Int × Unit) × ((Int × Unit) × Unit)))))) : Option (Unit × ((Bool × Unit) × Unit)) := lim fun k => f_law03_one_u16_m (f_law03_one_u16_t k) d
theorem ok_law03_one_u16 : FnOk Try.prog ET0 7 pi_law03_one_u16 po_law03_one_u16 g_law03_one_u16 :=
  fn_of_body (E := E_law03_one_u16) (envOk_add (envOk_add (envOk_add (envOk_add (envOk_add (envOk_add (envOk_add (envOk_add (envOk_add e0_ok (typed_ok ok_hnum_Num)) (typed_ok ok_hnum_Bytes)) (typed_ok ok_octets_Put_u16)) (typed_ok ok_ref03_Get)) (typed_ok ok_ref03_Number)) (typed_ok ok_octets_Size_u16)) (typed_ok ok_octets_Get_u16)) (typed_ok ok_octets_Set_u16)) (typed_ok ok_law03_lists_u16)) (fn := Try.f7) Try.func7 (by kernel_rfl) (by kernel_rfl) [.tmp 10] (by kernel_rfl) (by kernel_rfl) (by decide) rfl c_law03_one_u16 L_law03_one_u16 R_law03_one_u16
    (by intro x hx d; simp only [L_law03_one_u16, List.mem_cons, List.not_mem_nil, or_false] at hx; subst hx; rfl)
    (by intro k x hx d out h; simp only [L_law03_one_u16, List.mem_cons, List.not_mem_nil, or_false] at hx; subst hx; exact (q_law03_one_u16_12 k d).trans h)
    (by intro x hx; cases hx)
    (by intro k x hx; cases hx)
    (by intro d out h; obtain ⟨k, hk⟩ := lim_some h; exact ⟨k, (q_law03_one_u16_m k d).trans hk⟩)

@[reducible] def pi_octets_Size_u32 : PSh := ⟨[], []⟩
@[reducible] def po_octets_Size_u32 : PSh := ⟨[], [.mk false [vI]]⟩
@[reducible] def TT_octets_Size_u32 : Type := (((Unit × ((Int × Unit) × ((Int × Unit) × Unit))) → Option (Unit × ((Int × Unit) × Unit))) × Unit)
@[reducible] def sh_octets_Size_u32_4 : PSh := ⟨[], [.any, .mk false [vI], .mk false [.v (.int .u32)], .any, .any, .any, .any, .any, .any, .any, .any, .any, .any, .any]⟩
def f_octets_Size_u32_p4 (T : TT_octets_Size_u32) (d : Unit × ((Int × Unit) × ((Int × Unit) × Unit))) : Option (Unit × ((Int × Unit) × Unit)) :=
  let x3 : Bool := (decide (d.2.2.1.1 > (0 : Int)))
  bif x3 then (
  let x4 : Int := (iadd .i64 d.2.1.1 (1 : Int))
  let x5 : Int := (iconv .u64 d.2.2.1.1)
  let x6 : Int := (ishr .u64 x5 (8 : Int))
  let x7 : Int := (iconv .u32 x6)
  (T.1 ((), ((x4, ()), ((x7, ()), ())))))
  else (
  some ((), (d.2.1, ())))
def f_octets_Size_u32_t : Nat → TT_octets_Size_u32
  | 0 => (fun _ => none, ())
  | k + 1 => (f_octets_Size_u32_p4 (f_octets_Size_u32_t k), ())
theorem t_octets_Size_u32 (k : Nat) : f_octets_Size_u32_t (k + 1) = (f_octets_Size_u32_p4 (f_octets_Size_u32_t k), ()) := rfl
def f_octets_Size_u32_m (T : TT_octets_Size_u32) (d : Unit × Unit) : Option (Unit × ((Int × Unit) × Unit)) :=
  let x1 : Int := (iconv .u32 (0 : Int))
  let x2 : Int := (inot .u32 x1)
  (T.1 ((), (((0 : Int), ()), ((x2, ()), ()))))
def c_octets_Size_u32 : List Nat := []
def L_octets_Size_u32 (k : Nat) : Pts po_octets_Size_u32.den := [(4, ⟨sh_octets_Size_u32_4, (f_octets_Size_u32_t k).1⟩)]
def R_octets_Size_u32 (_ : Nat) : PtsR po_octets_Size_u32.den := []
def E_octets_Size_u32 : Env := E0
theorem q_octets_Size_u32_4 (k : Nat) (d : sh_octets_Size_u32_4.den) : evAt E_octets_Size_u32 (tb (L_octets_Size_u32 k) (R_octets_Size_u32 k)) c_octets_Size_u32 4 (bodyOf Try.f33) 0 (finK E_octets_Size_u32 po_octets_Size_u32 [.tmp 0]) (ptSt sh_octets_Size_u32_4 d) = f_octets_Size_u32_p4 (f_octets_Size_u32_t k) d := by kernel_rfl
theorem q_octets_Size_u32_m (k : Nat) (d : pi_octets_Size_u32.den) : evCode E_octets_Size_u32 (tb (L_octets_Size_u32 k) (R_octets_Size_u32 k)) c_octets_Size_u32 (bodyOf Try.f33) 0 (finK E_octets_Size_u32 po_octets_Size_u32 [.tmp 0]) (startSt pi_octets_Size_u32 14 d) = f_octets_Size_u32_m (f_octets_Size_u32_t k) d := by kernel_rfl
def g_octets_Size_u32 (d : Unit × Unit) : Option (Unit × ((Int × Unit) × Unit)) := lim fun k => f_octets_Size_u32_m (f_octets_Size_u32_t k) d
theorem ok_octets_Size_u32 : FnOk Try.prog ET0 33 pi_octets_Size_u32 po_octets_Size_u32 g_octets_Size_u32 :=
  fn_of_body (E := E_octets_Size_u32) e0_ok (fn := Try.f33) Try.func33 (by kernel_rfl) (by kernel_rfl) [.tmp 0] (by kernel_rfl) (by kernel_rfl) (by decide) rfl c_octets_Size_u32 L_octets_Size_u32 R_octets_Size_u32
    (by intro x hx d; simp only [L_octets_Size_u32, List.mem_cons, List.not_mem_nil, or_false] at hx; subst hx; rfl)
    (by intro k x hx d out h; simp only [L_octets_Size_u32, List.mem_cons, List.not_mem_nil, or_false] at hx; subst hx; exact (q_octets_Size_u32_4 k d).trans h)
    (by intro x hx; cases hx)
    (by intro k x hx; cases hx)
    (by intro d out h; obtain ⟨k, hk⟩ := lim_some h; exact ⟨k, (q_octets_Size_u32_m k d).trans hk⟩)

@[reducible] def pi_octets_word_u32 : PSh := ⟨[], [.mk false [.v (.sl (.int .u8))]]⟩
@[reducible] def po_octets_word_u32 : PSh := ⟨[], [.mk false [.v (.int .u32)]]⟩
@[reducible] def TT_octets_word_u32 : Type := (((Unit × ((Int × Unit) × (((List Int) × Unit) × ((Int × Unit) × ((Int × Unit) × Unit))))) → Option (Unit × ((Int × Unit) × Unit))) × Unit)
@[reducible] def sh_octets_word_u32_4 : PSh := ⟨[], [.any, .any, .any, .mk false [.v (.int .u64)], .any, .any, .mk false [.v (.sl (.int .u8))], .mk false [vI], .mk false [vI], .any, .any, .any, .any, .any, .any, .any, .any, .any, .any, .any]⟩
def f_octets_word_u32_p4 (T : TT_octets_word_u32) (d : Unit × ((Int × Unit) × (((List Int) × Unit) × ((Int × Unit) × ((Int × Unit) × Unit))))) : Option (Unit × ((Int × Unit) × Unit)) :=
  let x2 : Bool := (decide (d.2.2.2.2.1.1 < d.2.2.2.1.1))
  bif x2 then (
  bif decide ((0 : Int) ≤ d.2.2.2.2.1.1) && decide (d.2.2.2.2.1.1 < (d.2.2.1.1.length : Int)) then (
  let x3 : Int := (ishl .u64 d.2.1.1 (8 : Int))
  let x4 : Int := (iconv .u64 (gd (.int .u8) d.2.2.1.1 d.2.2.2.2.1.1))
  let x5 : Int := (ior .u64 x3 x4)
  let x6 : Int := (iadd .i64 d.2.2.2.2.1.1 (1 : Int))
  (T.1 ((), ((x5, ()), (d.2.2.1, (d.2.2.2.1, ((x6, ()), ())))))))
  else none)
  else (
  let x7 : Int := (iconv .u32 d.2.1.1)
  some ((), ((x7, ()), ())))
def f_octets_word_u32_t : Nat → TT_octets_word_u32
  | 0 => (fun _ => none, ())
  | k + 1 => (f_octets_word_u32_p4 (f_octets_word_u32_t k), ())
theorem t_octets_word_u32 (k : Nat) : f_octets_word_u32_t (k + 1) = (f_octets_word_u32_p4 (f_octets_word_u32_t k), ()) := rfl
def f_octets_word_u32_m (T : TT_octets_word_u32) (d : Unit × (((List Int) × Unit) × Unit)) : Option (Unit × ((Int × Unit) × Unit)) :=
  let x1 : Int := (d.2.1.1.length : Int)
  (T.1 ((), (((0 : Int), ()), (d.2.1, ((x1, ()), (((0 : Int), ()), ()))))))
def c_octets_word_u32 : List Nat := []
def L_octets_word_u32 (k : Nat) : Pts po_octets_word_u32.den := [(4, ⟨sh_octets_word_u32_4, (f_octets_word_u32_t k).1⟩)]
def R_octets_word_u32 (_ : Nat) : PtsR po_octets_word_u32.den := []
def E_octets_word_u32 : Env := E0
theorem q_octets_word_u32_4 (k : Nat) (d : sh_octets_word_u32_4.den) : evAt E_octets_word_u32 (tb (L_octets_word_u32 k) (R_octets_word_u32 k)) c_octets_word_u32 4 (bodyOf Try.f59) 0 (finK E_octets_word_u32 po_octets_word_u32 [.tmp 2]) (ptSt sh_octets_word_u32_4 d) = f_octets_word_u32_p4 (f_octets_word_u32_t k) d := by kernel_rfl
theorem q_octets_word_u32_m (k : Nat) (d : pi_octets_word_u32.den) : evCode E_octets_word_u32 (tb (L_octets_word_u32 k) (R_octets_word_u32 k)) c_octets_word_u32 (bodyOf Try.f59) 0 (finK E_octets_word_u32 po_octets_word_u32 [.tmp 2]) (startSt pi_octets_word_u32 20 d) = f_octets_word_u32_m (f_octets_word_u32_t k) d := by kernel_rfl
def g_octets_word_u32 (d : Unit × (((List Int) × Unit) × Unit)) : Option (Unit × ((Int × Unit) × Unit)) := lim fun k => f_octets_word_u32_m (f_octets_word_u32_t k) d
theorem ok_octets_word_u32 : FnOk Try.prog ET0 59 pi_octets_word_u32 po_octets_word_u32 g_octets_word_u32 :=
  fn_of_body (E := E_octets_word_u32) e0_ok (fn := Try.f59) Try.func59 (by kernel_rfl) (by kernel_rfl) [.tmp 2] (by kernel_rfl) (by kernel_rfl) (by decide) rfl c_octets_word_u32 L_octets_word_u32 R_octets_word_u32
    (by intro x hx d; simp only [L_octets_word_u32, List.mem_cons, List.not_mem_nil, or_false] at hx; subst hx; rfl)
    (by intro k x hx d out h; simp only [L_octets_word_u32, List.mem_cons, List.not_mem_nil, or_false] at hx; subst hx; exact (q_octets_word_u32_4 k d).trans h)
    (by intro x hx; cases hx)
    (by intro k x hx; cases hx)
    (by intro d out h; obtain ⟨k, hk⟩ := lim_some h; exact ⟨k, (q_octets_word_u32_m k d).trans hk⟩)

@[reducible] def pi_octets_Get_u32 : PSh := ⟨[], [.mk false [.v (.sl (.int .u8))], .mk false [vI]]⟩
@[reducible] def po_octets_Get_u32 : PSh := ⟨[], [.mk false [.v (.int .u32)], .mk false [vE]]⟩
def f_octets_Get_u32_m (T : Unit) (d : Unit × (((List Int) × Unit) × ((Int × Unit) × Unit))) : Option (Unit × ((Int × Unit) × (((Option Int) × Unit) × Unit))) :=
  (g_octets_Size_u32 ((), ())).bind fun x1 =>
  (g_octets_from ((), (d.2.1, (d.2.2.1, x1.2)))).bind fun x2 =>
  let x3 : Bool := (!x2.2.2.1.1.isNone)
  bif x3 then (
  some ((), (((0 : Int), ()), x2.2.2)))
  else (
  (g_octets_word_u32 ((), (x2.2.1, ()))).bind fun x4 =>
  some ((), (x4.2.1, (((none : Option Int), ()), ()))))
def g_octets_Get_u32 (d : Unit × (((List Int) × Unit) × ((Int × Unit) × Unit))) : Option (Unit × ((Int × Unit) × (((Option Int) × Unit) × Unit))) := f_octets_Get_u32_m () d
theorem ok_octets_Get_u32 : FnOk Try.prog ET0 34 pi_octets_Get_u32 po_octets_Get_u32 g_octets_Get_u32 :=
  fn0 (E := (((E0.add 33 (typedSem pi_octets_Size_u32 po_octets_Size_u32 g_octets_Size_u32)).add 52 (typedSem pi_octets_from po_octets_from g_octets_from)).add 59 (typedSem pi_octets_word_u32 po_octets_word_u32 g_octets_word_u32))) (envOk_add (envOk_add (envOk_add e0_ok (typed_ok ok_octets_Size_u32)) (typed_ok ok_octets_from)) (typed_ok ok_octets_word_u32)) (fn := Try.f34) Try.func34 (by kernel_rfl) (by kernel_rfl) [.tmp 4, .tmp 5] (by kernel_rfl) rfl rfl rfl [] fun d => by kernel_rfl

@[reducible] def pi_octets_Put_u32 : PSh := ⟨[], [.mk false [.v (.sl (.int .u8))], .mk false [.v (.sl (.int .u32))]]⟩
@[reducible] def po_octets_Put_u32 : PSh := ⟨[.row 5 (.int .u8)], [.mk false [.osl 0]]⟩
@[reducible] def TT_octets_Put_u32 : Type := (((((List Int) × Unit) × ((Int × Unit) × (Unit × (((List Int) × Unit) × ((Int × Unit) × ((Int × Unit) × Unit)))))) → Option (((List Int) × Unit) × (Unit × Unit))) × (((((List Int) × Unit) × ((Int × Unit) × (Unit × ((Int × Unit) × ((Int × Unit) × (((List Int) × Unit) × ((Int × Unit) × ((Int × Unit) × Unit)))))))) → Option (((List Int) × Unit) × (Unit × Unit))) × Unit))
@[reducible] def sh_octets_Put_u32_5 : PSh := ⟨[.row 5 (.int .u8)], [.any, .any, .any, .any, .any, .mk false [vI], .mk false [.osl 0], .any, .any, .any, .any, .any, .any, .mk false [.v (.sl (.int .u32))], .mk false [vI], .mk false [vI], .any, .any, .any, .any, .any, .any, .any, .any, .any, .any, .any, .any, .any, .any, .any, .any, .any, .any, .any, .any]⟩
@[reducible] def sh_octets_Put_u32_11 : PSh := ⟨[.row 5 (.int .u8)], [.any, .any, .any, .any, .any, .mk false [vI], .mk false [.osl 0], .any, .mk false [.v (.int .u32)], .mk false [vI], .any, .any, .any, .mk false [.v (.sl (.int .u32))], .mk false [vI], .mk false [vI], .any, .any, .any, .any, .any, .any, .any, .any, .any, .any, .any, .any, .any, .any, .any, .any, .any, .any, .any, .any]⟩
def f_octets_Put_u32_p5 (T : TT_octets_Put_u32) (d : ((List Int) × Unit) × ((Int × Unit) × (Unit × (((List Int) × Unit) × ((Int × Unit) × ((Int × Unit) × Unit)))))) : Option (((List Int) × Unit) × (Unit × Unit)) :=
  let x4 : Bool := (decide (d.2.2.2.2.2.1.1 < d.2.2.2.2.1.1))
  bif x4 then (
  bif decide ((0 : Int) ≤ d.2.2.2.2.2.1.1) && decide (d.2.2.2.2.2.1.1 < (d.2.2.2.1.1.length : Int)) then (
  let x5 : Int := (isub .i64 d.2.1.1 (1 : Int))
  (T.2.1 (d.1, (d.2.1, ((), (((gd (.int .u32) d.2.2.2.1.1 d.2.2.2.2.2.1.1), ()), ((x5, ()), d.2.2.2)))))))
  else none)
  else (
  some (d.1, ((), ())))
def f_octets_Put_u32_p11 (T : TT_octets_Put_u32) (d : ((List Int) × Unit) × ((Int × Unit) × (Unit × ((Int × Unit) × ((Int × Unit) × (((List Int) × Unit) × ((Int × Unit) × ((Int × Unit) × Unit)))))))) : Option (((List Int) × Unit) × (Unit × Unit)) :=
  let x6 : Bool := (decide (d.2.2.2.2.1.1 ≥ (0 : Int)))
  bif x6 then (
  let x7 : Int := (iconv .u64 d.2.2.2.1.1)
  let x8 : Int := (imul .i64 (8 : Int) d.2.2.2.2.1.1)
  bif decide (x8 < 0) then (
  none)
  else (
  let x9 : Int := (ishr .u64 x7 x8)
  let x10 : Int := (iconv .u8 x9)
  let x11 : (List Int) := ([x10] : List Int)
  bif decide (((d.1.1.length + x11.length) * 1 : Nat) ≤ 140737488355328) && decide (d.1.1.length + x11.length ≤ 9223372036854775807) then (
  let x12 : (List Int) := (d.1.1 ++ x11)
  let x13 : Int := (isub .i64 d.2.2.2.2.1.1 (1 : Int))
  (T.2.1 ((x12, ()), (d.2.1, ((), (d.2.2.2.1, ((x13, ()), d.2.2.2.2.2)))))))
  else none))
  else (
  let x14 : Int := (iadd .i64 d.2.2.2.2.2.2.2.1.1 (1 : Int))
  (T.1 (d.1, (d.2.1, ((), (d.2.2.2.2.2.1, (d.2.2.2.2.2.2.1, ((x14, ()), ()))))))))
def f_octets_Put_u32_t : Nat → TT_octets_Put_u32
  | 0 => (fun _ => none, (fun _ => none, ()))
  | k + 1 => (f_octets_Put_u32_p5 (f_octets_Put_u32_t k), (f_octets_Put_u32_p11 (f_octets_Put_u32_t k), ()))
theorem t_octets_Put_u32 (k : Nat) : f_octets_Put_u32_t (k + 1) = (f_octets_Put_u32_p5 (f_octets_Put_u32_t k), (f_octets_Put_u32_p11 (f_octets_Put_u32_t k), ())) := rfl
def f_octets_Put_u32_m (T : TT_octets_Put_u32) (d : Unit × (((List Int) × Unit) × (((List Int) × Unit) × Unit))) : Option (((List Int) × Unit) × (Unit × Unit)) :=
  (g_octets_Size_u32 ((), ())).bind fun x1 =>
  (g_slices_Clone_byte_byte ((), (d.2.1, ()))).bind fun x2 =>
  let x3 : Int := (d.2.2.1.1.length : Int)
  (T.1 (x2.1, (x1.2.1, ((), (d.2.2.1, ((x3, ()), (((0 : Int), ()), ())))))))
def c_octets_Put_u32 : List Nat := []
def L_octets_Put_u32 (k : Nat) : Pts po_octets_Put_u32.den := [(5, ⟨sh_octets_Put_u32_5, (f_octets_Put_u32_t k).1⟩), (11, ⟨sh_octets_Put_u32_11, (f_octets_Put_u32_t k).2.1⟩)]
def R_octets_Put_u32 (_ : Nat) : PtsR po_octets_Put_u32.den := []
def E_octets_Put_u32 : Env := ((E0.add 33 (typedSem pi_octets_Size_u32 po_octets_Size_u32 g_octets_Size_u32)).add 51 (typedSem pi_slices_Clone_byte_byte po_slices_Clone_byte_byte g_slices_Clone_byte_byte))
theorem q_octets_Put_u32_5 (k : Nat) (d : sh_octets_Put_u32_5.den) : evAt E_octets_Put_u32 (tb (L_octets_Put_u32 k) (R_octets_Put_u32 k)) c_octets_Put_u32 5 (bodyOf Try.f36) 0 (finK E_octets_Put_u32 po_octets_Put_u32 [.tmp 4]) (ptSt sh_octets_Put_u32_5 d) = f_octets_Put_u32_p5 (f_octets_Put_u32_t k) d := by kernel_rfl
theorem q_octets_Put_u32_11 (k : Nat) (d : sh_octets_Put_u32_11.den) : evAt E_octets_Put_u32 (tb (L_octets_Put_u32 k) (R_octets_Put_u32 k)) c_octets_Put_u32 11 (bodyOf Try.f36) 0 (finK E_octets_Put_u32 po_octets_Put_u32 [.tmp 4]) (ptSt sh_octets_Put_u32_11 d) = f_octets_Put_u32_p11 (f_octets_Put_u32_t k) d := by kernel_rfl
theorem q_octets_Put_u32_m (k : Nat) (d : pi_octets_Put_u32.den) : evCode E_octets_Put_u32 (tb (L_octets_Put_u32 k) (R_octets_Put_u32 k)) c_octets_Put_u32 (bodyOf Try.f36) 0 (finK E_octets_Put_u32 po_octets_Put_u32 [.tmp 4]) (startSt pi_octets_Put_u32 36 d) = f_octets_Put_u32_m (f_octets_Put_u32_t k) d := by kernel_rfl
def g_octets_Put_u32 (d : Unit × (((List Int) × Unit) × (((List Int) × Unit) × Unit))) : Option (((List Int) × Unit) × (Unit × Unit)) := lim fun k => f_octets_Put_u32_m (f_octets_Put_u32_t k) d
theorem ok_octets_Put_u32 : FnOk Try.prog ET0 36 pi_octets_Put_u32 po_octets_Put_u32 g_octets_Put_u32 :=
  fn_of_body (E := E_octets_Put_u32) (envOk_add (envOk_add e0_ok (typed_ok ok_octets_Size_u32)) (typed_ok ok_slices_Clone_byte_byte)) (fn := Try.f36) Try.func36 (by kernel_rfl) (by kernel_rfl) [.tmp 4] (by kernel_rfl) (by kernel_rfl) (by decide) rfl c_octets_Put_u32 L_octets_Put_u32 R_octets_Put_u32
    (by intro x hx d; simp only [L_octets_Put_u32, List.mem_cons, List.not_mem_nil, or_false] at hx; rcases hx with rfl | rfl; rfl; rfl)
    (by intro k x hx d out h; simp only [L_octets_Put_u32, List.mem_cons, List.not_mem_nil, or_false] at hx; rcases hx with rfl | rfl; exact (q_octets_Put_u32_5 k d).trans h; exact (q_octets_Put_u32_11 k d).trans h)
    (by intro x hx; cases hx)
    (by intro k x hx; cases hx)
    (by intro d out h; obtain ⟨k, hk⟩ := lim_some h; exact ⟨k, (q_octets_Put_u32_m k d).trans hk⟩)

@[reducible] def pi_octets_Set_u32 : PSh := ⟨[], [.mk false [.v (.sl (.int .u8))], .mk false [vI], .mk false [.v (.int .u32)]]⟩
@[reducible] def po_octets_Set_u32 : PSh := ⟨[.row 5 (.int .u8)], [.mk false [.osl 0], .mk false [vE]]⟩
def f_octets_Set_u32_m (T : Unit) (d : Unit × (((List Int) × Unit) × ((Int × Unit) × ((Int × Unit) × Unit)))) : Option (((List Int) × Unit) × (Unit × (((Option Int) × Unit) × Unit))) :=
  (g_octets_Get_u32 ((), (d.2.1, (d.2.2.1, ())))).bind fun x1 =>
  let x2 : Bool := (!x1.2.2.1.1.isNone)
  bif x2 then (
  some ((([] : List Int), ()), ((), x1.2.2)))
  else (
  (g_slices_Clone_byte_byte ((), (d.2.1, ()))).bind fun x3 =>
  bif decide ((0 : Int) ≤ d.2.2.1.1) && decide (d.2.2.1.1 < (x3.1.1.length : Int)) then (
  let x4 : (List Int) := ([d.2.2.2.1.1] : List Int)
  (g_octets_Put_u32 ((), ((([] : List Int), ()), ((x4, ()), ())))).bind fun x5 =>
  let x6 : (List Int) := (cpL x3.1.1 (Int.toNat d.2.2.1.1) x5.1.1)
  let x7 : Int := ((min x5.1.1.length (x3.1.1.length - (Int.toNat d.2.2.1.1)) : Nat) : Int)
  some ((x6, ()), ((), (((none : Option Int), ()), ()))))
  else none)
def g_octets_Set_u32 (d : Unit × (((List Int) × Unit) × ((Int × Unit) × ((Int × Unit) × Unit)))) : Option (((List Int) × Unit) × (Unit × (((Option Int) × Unit) × Unit))) := f_octets_Set_u32_m () d
theorem ok_octets_Set_u32 : FnOk Try.prog ET0 35 pi_octets_Set_u32 po_octets_Set_u32 g_octets_Set_u32 :=
  fn0 (E := (((E0.add 34 (typedSem pi_octets_Get_u32 po_octets_Get_u32 g_octets_Get_u32)).add 36 (typedSem pi_octets_Put_u32 po_octets_Put_u32 g_octets_Put_u32)).add 51 (typedSem pi_slices_Clone_byte_byte po_slices_Clone_byte_byte g_slices_Clone_byte_byte))) (envOk_add (envOk_add (envOk_add e0_ok (typed_ok ok_octets_Get_u32)) (typed_ok ok_octets_Put_u32)) (typed_ok ok_slices_Clone_byte_byte)) (fn := Try.f35) Try.func35 (by kernel_rfl) (by kernel_rfl) [.tmp 6, .tmp 7] (by kernel_rfl) rfl rfl rfl [] fun d => by kernel_rfl

@[reducible] def pi_octets_List_u32 : PSh := ⟨[], [.mk false [.v (.sl (.int .u8))], .mk false [vI], .mk false [vI]]⟩
@[reducible] def po_octets_List_u32 : PSh := ⟨[.row 30 (.int .u32)], [.mk false [.osl 0], .mk false [vE]]⟩
@[reducible] def TT_octets_List_u32 : Type := ((List (List Int) → ((Unit × ((List Int) × Unit)) × (Unit × Unit)) → Option (((List Int) × Unit) × (Unit × (((Option Int) × Unit) × Unit)))) × Unit)
@[reducible] def sh_octets_List_u32_10 : PSh := ⟨[.var 109 [.osl 1], .row 30 (.int .u32)], [.any, .any, .any, .any, .any, .any, .any, .any, .any, .mk false [.ref 0 0], .any, .any, .any, .any, .any, .any, .any, .any, .any, .any, .any, .any, .any, .any, .any, .any, .any, .any, .any, .any, .any, .any, .any, .any, .any, .any, .any, .any, .any, .any, .any, .any, .any, .any, .any, .any, .any, .any, .any, .any, .any, .any, .any]⟩
def f_octets_List_u32_p10 (T : TT_octets_List_u32) (l : List (List Int)) (d : (Unit × ((List Int) × Unit)) × (Unit × Unit)) : Option (((List Int) × Unit) × (Unit × (((Option Int) × Unit) × Unit))) :=
  bif l.isEmpty then (
  some (d.1.2, ((), (((none : Option Int), ()), ()))))
  else (
  let x19 : (List Int) := (gd (.sl (.int .u8)) l (0 : Int))
  (g_octets_word_u32 ((), ((x19, ()), ()))).bind fun x20 =>
  let x21 : (List Int) := ([x20.2.1.1] : List Int)
  bif decide (((d.1.2.1.length + x21.length) * 4 : Nat) ≤ 140737488355328) && decide (d.1.2.1.length + x21.length ≤ 9223372036854775807) then (
  let x22 : (List Int) := (d.1.2.1 ++ x21)
  (T.1 (List.drop 1 l) (((), (x22, ())), ((), ()))))
  else none)
def f_octets_List_u32_t : Nat → TT_octets_List_u32
  | 0 => (fun _ _ => none, ())
  | k + 1 => (f_octets_List_u32_p10 (f_octets_List_u32_t k), ())
theorem t_octets_List_u32 (k : Nat) : f_octets_List_u32_t (k + 1) = (f_octets_List_u32_p10 (f_octets_List_u32_t k), ()) := rfl
def f_octets_List_u32_m (T : TT_octets_List_u32) (d : Unit × (((List Int) × Unit) × ((Int × Unit) × ((Int × Unit) × Unit)))) : Option (((List Int) × Unit) × (Unit × (((Option Int) × Unit) × Unit))) :=
  (g_octets_Size_u32 ((), ())).bind fun x1 =>
  let x2 : Bool := (decide (d.2.2.1.1 < (0 : Int)))
  bif x2 then (
  let x3 : (Option Int) := (some (1 : Int))
  some ((([] : List Int), ()), ((), ((x3, ()), ()))))
  else (
  let x4 : Int := (d.2.1.1.length : Int)
  let x5 : Bool := (decide (d.2.2.1.1 > x4))
  bif x5 then (
  let x6 : (Option Int) := (some (1 : Int))
  some ((([] : List Int), ()), ((), ((x6, ()), ()))))
  else (
  let x7 : Bool := (decide (d.2.2.2.1.1 < (0 : Int)))
  bif x7 then (
  let x8 : (Option Int) := (some (1 : Int))
  some ((([] : List Int), ()), ((), ((x8, ()), ()))))
  else (
  let x9 : Int := (d.2.1.1.length : Int)
  let x10 : Int := (isub .i64 x9 d.2.2.1.1)
  bif (x1.2.1.1 == 0) then (
  none)
  else (
  let x11 : Int := (iquo .i64 x10 x1.2.1.1)
  let x12 : Bool := (decide (d.2.2.2.1.1 > x11))
  bif x12 then (
  let x13 : (Option Int) := (some (4 : Int))
  some ((([] : List Int), ()), ((), ((x13, ()), ()))))
  else (
  let x14 : Int := (imul .i64 d.2.2.2.1.1 x1.2.1.1)
  let x15 : Int := (iadd .i64 d.2.2.1.1 x14)
  bif decide ((0 : Int) ≤ d.2.2.1.1) && decide (d.2.2.1.1 ≤ x15) && decide (x15 ≤ (d.2.1.1.length : Int)) then (
  let x16 : (List Int) := (List.drop (Int.toNat d.2.2.1.1) (List.take (Int.toNat x15) d.2.1.1))
  (g_slices_Chunk_byte_byte ((), ((x16, ()), x1.2))).bind fun x17 =>
  (F_slices_Chunk_byte_byte_1 (x17.1.1.1, (x17.1.2.1.1, ()))).bind fun x18 =>
  (T.1 x18 (((), (([] : List Int), ())), ((), ()))))
  else none)))))
def c_octets_List_u32 : List Nat := []
def L_octets_List_u32 (_ : Nat) : Pts po_octets_List_u32.den := []
def R_octets_List_u32 (k : Nat) : PtsR po_octets_List_u32.den := [(10, ⟨(sh_octets_List_u32_10, (.sl (.int .u8))), (f_octets_List_u32_t k).1⟩)]
def E_octets_List_u32 : Env := ((((E0.add 33 (typedSem pi_octets_Size_u32 po_octets_Size_u32 g_octets_Size_u32)).add 59 (typedSem pi_octets_word_u32 po_octets_word_u32 g_octets_word_u32)).add 78 (typedSem pi_slices_Chunk_byte_byte po_slices_Chunk_byte_byte g_slices_Chunk_byte_byte)).sq 92 sq_slices_Chunk_byte_byte_1)
theorem q_octets_List_u32_10 (k : Nat) (l : List (List Int)) (d : sh_octets_List_u32_10.den) : evAtR E_octets_List_u32 (tb (L_octets_List_u32 k) (R_octets_List_u32 k)) c_octets_List_u32 10 (bodyOf Try.f60) 0 (finK E_octets_List_u32 po_octets_List_u32 [.tmp 6, .tmp 7]) (.sl (.int .u8)) l (ptSt sh_octets_List_u32_10 d) = f_octets_List_u32_p10 (f_octets_List_u32_t k) l d := by kernel_rfl
theorem q_octets_List_u32_m (k : Nat) (d : pi_octets_List_u32.den) : evCode E_octets_List_u32 (tb (L_octets_List_u32 k) (R_octets_List_u32 k)) c_octets_List_u32 (bodyOf Try.f60) 0 (finK E_octets_List_u32 po_octets_List_u32 [.tmp 6, .tmp 7]) (startSt pi_octets_List_u32 53 d) = f_octets_List_u32_m (f_octets_List_u32_t k) d := by kernel_rfl
def g_octets_List_u32 (d : Unit × (((List Int) × Unit) × ((Int × Unit) × ((Int × Unit) × Unit)))) : Option (((List Int) × Unit) × (Unit × (((Option Int) × Unit) × Unit))) := lim fun k => f_octets_List_u32_m (f_octets_List_u32_t k) d
theorem ok_octets_List_u32 : FnOk Try.prog ET0 60 pi_octets_List_u32 po_octets_List_u32 g_octets_List_u32 :=
  fn_of_body (E := E_octets_List_u32) (envOk_sq (envOk_add (envOk_add (envOk_add e0_ok (typed_ok ok_octets_Size_u32)) (typed_ok ok_octets_word_u32)) (typed_ok ok_slices_Chunk_byte_byte)) okq_slices_Chunk_byte_byte_1) (fn := Try.f60) Try.func60 (by kernel_rfl) (by kernel_rfl) [.tmp 6, .tmp 7] (by kernel_rfl) (by kernel_rfl) (by decide) rfl c_octets_List_u32 L_octets_List_u32 R_octets_List_u32
    (by intro x hx; cases hx)
    (by intro k x hx; cases hx)
    (by intro x hx l d; simp only [R_octets_List_u32, List.mem_cons, List.not_mem_nil, or_false] at hx; subst hx; rfl)
    (by intro k x hx l d out h; simp only [R_octets_List_u32, List.mem_cons, List.not_mem_nil, or_false] at hx; subst hx; exact (q_octets_List_u32_10 k l d).trans h)
    (by intro d out h; obtain ⟨k, hk⟩ := lim_some h; exact ⟨k, (q_octets_List_u32_m k d).trans hk⟩)

@[reducible] def pi_law03_lists_u32 : PSh := ⟨[], [.mk false [.v (.sl (.int .u8))], .mk false [vI], .mk false [vI], .mk false [vI]]⟩
@[reducible] def po_law03_lists_u32 : PSh := ⟨[], [.mk false [vB]]⟩
@[reducible] def TT_law03_lists_u32 : Type := (((((List Int) × Unit) × (((List Int) × Unit) × ((Int × Unit) × ((Int × Unit) × (Unit × ((Int × Unit) × ((Int × Unit) × Unit))))))) → Option (Unit × ((Bool × Unit) × Unit))) × Unit)
@[reducible] def sh_law03_lists_u32_13 : PSh := ⟨[.row 30 (.int .u32)], [.mk false [.v (.sl (.int .u8))], .mk false [vI], .any, .mk false [vI], .any, .any, .any, .any, .any, .any, .any, .any, .any, .any, .any, .any, .any, .any, .any, .any, .any, .any, .any, .any, .any, .any, .any, .any, .any, .any, .any, .any, .any, .any, .any, .any, .any, .any, .any, .any, .any, .any, .any, .any, .any, .any, .any, .any, .any, .any, .any, .any, .any, .any, .any, .any, .any, .any, .any, .any, .any, .any, .any, .any, .any, .any, .any, .any, .any, .any, .mk false [.osl 0], .mk false [vI], .mk false [vI], .any, .any, .any, .any, .any, .any, .any, .any, .any, .any, .any, .any, .any, .any, .any, .any, .any, .any, .any, .any]⟩
def f_law03_lists_u32_p13 (T : TT_law03_lists_u32) (d : ((List Int) × Unit) × (((List Int) × Unit) × ((Int × Unit) × ((Int × Unit) × (Unit × ((Int × Unit) × ((Int × Unit) × Unit))))))) : Option (Unit × ((Bool × Unit) × Unit)) :=
  let x31 : Bool := (decide (d.2.2.2.2.2.2.1.1 < d.2.2.2.2.2.1.1))
  bif x31 then (
  bif decide ((0 : Int) ≤ d.2.2.2.2.2.2.1.1) && decide (d.2.2.2.2.2.2.1.1 < (d.1.1.length : Int)) then (
  let x32 : Int := (imul .i64 d.2.2.2.2.2.2.1.1 d.2.2.2.1.1)
  let x33 : Int := (iadd .i64 d.2.2.1.1 x32)
  (g_ref03_Get ((), (d.2.1, ((x33, ()), (d.2.2.2.1, ()))))).bind fun x34 =>
  let x35 : Int := (iconv .u64 (gd (.int .u32) d.1.1 d.2.2.2.2.2.2.1.1))
  let x36 : Bool := (x35 != x34.2.1.1)
  bif x36 then (
  some ((), ((false, ()), ())))
  else (
  let x37 : Int := (iadd .i64 d.2.2.2.2.2.2.1.1 (1 : Int))
  (T.1 (d.1, (d.2.1, (d.2.2.1, (d.2.2.2.1, ((), (d.2.2.2.2.2.1, ((x37, ()), ()))))))))))
  else none)
  else (
  some ((), ((true, ()), ())))
def f_law03_lists_u32_t : Nat → TT_law03_lists_u32
  | 0 => (fun _ => none, ())
  | k + 1 => (f_law03_lists_u32_p13 (f_law03_lists_u32_t k), ())
theorem t_law03_lists_u32 (k : Nat) : f_law03_lists_u32_t (k + 1) = (f_law03_lists_u32_p13 (f_law03_lists_u32_t k), ()) := rfl
def f_law03_lists_u32_m (T : TT_law03_lists_u32) (d : Unit × (((List Int) × Unit) × ((Int × Unit) × ((Int × Unit) × ((Int × Unit) × Unit))))) : Option (Unit × ((Bool × Unit) × Unit)) :=
  (g_octets_List_u32 ((), (d.2.1, (d.2.2.1, (d.2.2.2.1, ()))))).bind fun x1 =>
  let x2 : Bool := (decide (d.2.2.1.1 < (0 : Int)))
  bif x2 then (
  let x3 : Int := (x1.1.1.length : Int)
  let x4 : Bool := (x3 == (0 : Int))
  bif x4 then (
  (g_hnum_Is ((), (x1.2.2.1, (((1 : Int), ()), ())))).bind fun x5 =>
  some ((), x5.2))
  else (
  some ((), ((false, ()), ()))))
  else (
  let x6 : Int := (d.2.1.1.length : Int)
  let x7 : Bool := (decide (d.2.2.1.1 > x6))
  bif x7 then (
  let x8 : Int := (x1.1.1.length : Int)
  let x9 : Bool := (x8 == (0 : Int))
  bif x9 then (
  (g_hnum_Is ((), (x1.2.2.1, (((1 : Int), ()), ())))).bind fun x10 =>
  some ((), x10.2))
  else (
  some ((), ((false, ()), ()))))
  else (
  let x11 : Bool := (decide (d.2.2.2.1.1 < (0 : Int)))
  bif x11 then (
  let x12 : Int := (x1.1.1.length : Int)
  let x13 : Bool := (x12 == (0 : Int))
  bif x13 then (
  (g_hnum_Is ((), (x1.2.2.1, (((1 : Int), ()), ())))).bind fun x14 =>
  some ((), x14.2))
  else (
  some ((), ((false, ()), ()))))
  else (
  let x15 : Int := (d.2.1.1.length : Int)
  let x16 : Bool := (decide (d.2.2.2.1.1 > x15))
  bif x16 then (
  let x17 : Int := (x1.1.1.length : Int)
  let x18 : Bool := (x17 == (0 : Int))
  bif x18 then (
  (g_hnum_Is ((), (x1.2.2.1, (((4 : Int), ()), ())))).bind fun x19 =>
  some ((), x19.2))
  else (
  some ((), ((false, ()), ()))))
  else (
  let x20 : Int := (imul .i64 d.2.2.2.1.1 d.2.2.2.2.1.1)
  let x21 : Int := (d.2.1.1.length : Int)
  let x22 : Int := (isub .i64 x21 d.2.2.1.1)
  let x23 : Bool := (decide (x20 > x22))
  bif x23 then (
  let x24 : Int := (x1.1.1.length : Int)
  let x25 : Bool := (x24 == (0 : Int))
  bif x25 then (
  (g_hnum_Is ((), (x1.2.2.1, (((4 : Int), ()), ())))).bind fun x26 =>
  some ((), x26.2))
  else (
  some ((), ((false, ()), ()))))
  else (
  let x27 : Bool := (!x1.2.2.1.1.isNone)
  bif x27 then (
  some ((), ((false, ()), ())))
  else (
  let x28 : Int := (x1.1.1.length : Int)
  let x29 : Bool := (x28 != d.2.2.2.1.1)
  bif x29 then (
  some ((), ((false, ()), ())))
  else (
  let x30 : Int := (x1.1.1.length : Int)
  (T.1 (x1.1, (d.2.1, (d.2.2.1, (d.2.2.2.2.1, ((), ((x30, ()), (((0 : Int), ()), ())))))))))))))))
def c_law03_lists_u32 : List Nat := []
def L_law03_lists_u32 (k : Nat) : Pts po_law03_lists_u32.den := [(13, ⟨sh_law03_lists_u32_13, (f_law03_lists_u32_t k).1⟩)]
def R_law03_lists_u32 (_ : Nat) : PtsR po_law03_lists_u32.den := []
def E_law03_lists_u32 : Env := (((E0.add 24 (typedSem pi_ref03_Get po_ref03_Get g_ref03_Get)).add 56 (typedSem pi_hnum_Is po_hnum_Is g_hnum_Is)).add 60 (typedSem pi_octets_List_u32 po_octets_List_u32 g_octets_List_u32))
theorem q_law03_lists_u32_13 (k : Nat) (d : sh_law03_lists_u32_13.den) : evAt E_law03_lists_u32 (tb (L_law03_lists_u32 k) (R_law03_lists_u32 k)) c_law03_lists_u32 13 (bodyOf Try.f37) 0 (finK E_law03_lists_u32 po_law03_lists_u32 [.tmp 8]) (ptSt sh_law03_lists_u32_13 d) = f_law03_lists_u32_p13 (f_law03_lists_u32_t k) d := by kernel_rfl
theorem q_law03_lists_u32_m (k : Nat) (d : pi_law03_lists_u32.den) : evCode E_law03_lists_u32 (tb (L_law03_lists_u32 k) (R_law03_lists_u32 k)) c_law03_lists_u32 (bodyOf Try.f37) 0 (finK E_law03_lists_u32 po_law03_lists_u32 [.tmp 8]) (startSt pi_law03_lists_u32 93 d) = f_law03_lists_u32_m (f_law03_lists_u32_t k) d := by kernel_rfl
def g_law03_lists_u32 (d : Unit × (((List Int) × Unit) × ((Int × Unit) × ((Int × Unit) × ((Int × Unit) × Unit))))) : Option (Unit × ((Bool × Unit) × Unit)) := lim fun k => f_law03_lists_u32_m (f_law03_lists_u32_t k) d
theorem ok_law03_lists_u32 : FnOk Try.prog ET0 37 pi_law03_lists_u32 po_law03_lists_u32 g_law03_lists_u32 :=
  fn_of_body (E := E_law03_lists_u32) (envOk_add (envOk_add (envOk_add e0_ok (typed_ok ok_ref03_Get)) (typed_ok ok_hnum_Is)) (typed_ok ok_octets_List_u32)) (fn := Try.f37) Try.func37 (by kernel_rfl) (by kernel_rfl) [.tmp 8] (by kernel_rfl) (by kernel_rfl) (by decide) rfl c_law03_lists_u32 L_law03_lists_u32 R_law03_lists_u32
    (by intro x hx d; simp only [L_law03_lists_u32, List.mem_cons, List.not_mem_nil, or_false] at hx; subst hx; rfl)
    (by intro k x hx d out h; simp only [L_law03_lists_u32, List.mem_cons, List.not_mem_nil, or_false] at hx; subst hx; exact (q_law03_lists_u32_13 k d).trans h)
    (by intro x hx; cases hx)
    (by intro k x hx; cases hx)
    (by intro d out h; obtain ⟨k, hk⟩ := lim_some h; exact ⟨k, (q_law03_lists_u32_m k d).trans hk⟩)

@[reducible] def pi_law03_one_u32 : PSh := ⟨[], [.mk false [.v (.sl (.int .u8))], .mk false [vI], .mk false [vI], .mk false [.v (.int .u32)], .mk false [vI]]⟩
@[reducible] def po_law03_one_u32 : PSh := ⟨[], [.mk false [vB]]⟩
@[reducible] def TT_law03_one_u32 : Type := (((((List Int) × ((List Int) × Unit)) × (((List Int) × Unit) × ((Int × Unit) × ((Int × Unit) × ((Int × Unit) × ((Int × Unit) × (Unit × ((Int × Unit) × ((Int × Unit) × ((Int × Unit) × (Unit × ((Bool × Unit) × Unit)))))))))))) → Option (Unit × ((Bool × Unit) × Unit))) × Unit)
@[reducible] def sh_law03_one_u32_12 : PSh := ⟨[.row 5 (.int .u8), .row 5 (.int .u8)], [.mk false [.v (.sl (.int .u8))], .mk false [vI], .mk false [vI], .mk false [.v (.int .u32)], .mk false [vI], .any, .any, .any, .any, .any, .any, .mk false [.osl 0], .mk false [.v (.int .u32)], .any, .mk false [.v (.int .u64)], .mk false [vI], .mk false [.osl 1], .any, .any, .any, .any, .any, .any, .any, .any, .any, .any, .any, .any, .any, .any, .any, .any, .any, .any, .any, .any, .any, .any, .any, .any, .any, .any, .any, .any, .any, .any, .any, .any, .any, .any, .any, .any, .any, .any, .any, .any, .any, .any, .any, .any, .any, .any, .any, .any, .any, .mk false [vB], .any, .any, .any, .any, .any, .any, .any, .any, .any, .any, .any, .any, .any, .any, .any, .any, .any, .any, .any, .any, .any, .any, .any, .any, .any, .any, .any, .any, .any, .any, .any, .any, .any, .any, .any, .any, .any, .any, .any, .any, .any, .any, .any, .any, .any, .any, .any, .any, .any, .any, .any, .any, .any]⟩
def f_law03_one_u32_p12 (T : TT_law03_one_u32) (d : ((List Int) × ((List Int) × Unit)) × (((List Int) × Unit) × ((Int × Unit) × ((Int × Unit) × ((Int × Unit) × ((Int × Unit) × (Unit × ((Int × Unit) × ((Int × Unit) × ((Int × Unit) × (Unit × ((Bool × Unit) × Unit)))))))))))) : Option (Unit × ((Bool × Unit) × Unit)) :=
  bif d.2.2.2.2.2.2.2.2.2.2.2.1.1 then (
  some ((), ((false, ()), ())))
  else (
  let x17 : Bool := (d.2.2.2.2.2.2.2.2.2.1.1 == (0 : Int))
  bif x17 then (
  let x18 : (List Int) := ([] : List Int)
  bif decide ((0 : Int) ≤ (0 : Int)) && decide ((0 : Int) ≤ d.2.2.1.1) && decide (d.2.2.1.1 ≤ (d.2.1.1.length : Int)) then (
  let x19 : (List Int) := (List.drop (Int.toNat (0 : Int)) (List.take (Int.toNat d.2.2.1.1) d.2.1.1))
  bif decide (((x18.length + x19.length) * 1 : Nat) ≤ 140737488355328) && decide (x18.length + x19.length ≤ 9223372036854775807) then (
  let x20 : (List Int) := (x18 ++ x19)
  let x21 : Int := (iconv .u64 d.2.2.2.2.1.1)
  (g_ref03_Number ((), ((x21, ()), (d.2.2.2.2.2.1, ())))).bind fun x22 =>
  bif decide (((x20.length + x22.1.1.length) * 1 : Nat) ≤ 140737488355328) && decide (x20.length + x22.1.1.length ≤ 9223372036854775807) then (
  let x23 : (List Int) := (x20 ++ x22.1.1)
  let x24 : Int := (iadd .i64 d.2.2.1.1 d.2.2.2.2.2.1.1)
  bif decide ((0 : Int) ≤ x24) && decide (x24 ≤ (d.2.1.1.length : Int)) && decide ((d.2.1.1.length : Int) ≤ (d.2.1.1.length : Int)) then (
  let x25 : (List Int) := (List.drop (Int.toNat x24) (List.take (Int.toNat (d.2.1.1.length : Int)) d.2.1.1))
  bif decide (((x23.length + x25.length) * 1 : Nat) ≤ 140737488355328) && decide (x23.length + x25.length ≤ 9223372036854775807) then (
  let x26 : (List Int) := (x23 ++ x25)
  (g_hnum_Bytes ((), (d.1.2, ((x26, ()), ())))).bind fun x27 =>
  let x28 : Bool := (!x27.2.1.1)
  bif x28 then (
  some ((), ((false, ()), ())))
  else (
  let x29 : (List Int) := ([d.2.2.2.2.1.1, d.2.2.2.2.2.2.2.1.1] : List Int)
  (g_octets_Put_u32 ((), ((d.1.1, ()), ((x29, ()), ())))).bind fun x30 =>
  let x31 : (List Int) := ([] : List Int)
  bif decide (((x31.length + d.2.1.1.length) * 1 : Nat) ≤ 140737488355328) && decide (x31.length + d.2.1.1.length ≤ 9223372036854775807) then (
  let x32 : (List Int) := (x31 ++ d.2.1.1)
  let x33 : Int := (iconv .u64 d.2.2.2.2.1.1)
  (g_ref03_Number ((), ((x33, ()), (d.2.2.2.2.2.1, ())))).bind fun x34 =>
  bif decide (((x32.length + x34.1.1.length) * 1 : Nat) ≤ 140737488355328) && decide (x32.length + x34.1.1.length ≤ 9223372036854775807) then (
  let x35 : (List Int) := (x32 ++ x34.1.1)
  (g_ref03_Number ((), (d.2.2.2.2.2.2.2.2.1, (d.2.2.2.2.2.1, ())))).bind fun x36 =>
  bif decide (((x35.length + x36.1.1.length) * 1 : Nat) ≤ 140737488355328) && decide (x35.length + x36.1.1.length ≤ 9223372036854775807) then (
  let x37 : (List Int) := (x35 ++ x36.1.1)
  (g_hnum_Bytes ((), (x30.1, ((x37, ()), ())))).bind fun x38 =>
  let x39 : Bool := (!x38.2.1.1)
  bif x39 then (
  some ((), ((false, ()), ())))
  else (
  (g_law03_lists_u32 ((), ((d.1.1, ()), (d.2.2.1, (d.2.2.2.1, (d.2.2.2.2.2.1, ())))))).bind fun x40 =>
  bif x40.2.1.1 then (
  (g_hnum_Bytes ((), ((d.1.1, ()), (d.2.1, ())))).bind fun x41 =>
  some ((), x41.2))
  else (
  some ((), ((false, ()), ())))))
  else none)
  else none)
  else none))
  else none)
  else none)
  else none)
  else none)
  else none)
  else (
  let x42 : (List Int) := ([d.2.2.2.2.1.1, d.2.2.2.2.2.2.2.1.1] : List Int)
  (g_octets_Put_u32 ((), ((d.1.1, ()), ((x42, ()), ())))).bind fun x43 =>
  let x44 : (List Int) := ([] : List Int)
  bif decide (((x44.length + d.2.1.1.length) * 1 : Nat) ≤ 140737488355328) && decide (x44.length + d.2.1.1.length ≤ 9223372036854775807) then (
  let x45 : (List Int) := (x44 ++ d.2.1.1)
  let x46 : Int := (iconv .u64 d.2.2.2.2.1.1)
  (g_ref03_Number ((), ((x46, ()), (d.2.2.2.2.2.1, ())))).bind fun x47 =>
  bif decide (((x45.length + x47.1.1.length) * 1 : Nat) ≤ 140737488355328) && decide (x45.length + x47.1.1.length ≤ 9223372036854775807) then (
  let x48 : (List Int) := (x45 ++ x47.1.1)
  (g_ref03_Number ((), (d.2.2.2.2.2.2.2.2.1, (d.2.2.2.2.2.1, ())))).bind fun x49 =>
  bif decide (((x48.length + x49.1.1.length) * 1 : Nat) ≤ 140737488355328) && decide (x48.length + x49.1.1.length ≤ 9223372036854775807) then (
  let x50 : (List Int) := (x48 ++ x49.1.1)
  (g_hnum_Bytes ((), (x43.1, ((x50, ()), ())))).bind fun x51 =>
  let x52 : Bool := (!x51.2.1.1)
  bif x52 then (
  some ((), ((false, ()), ())))
  else (
  (g_law03_lists_u32 ((), ((d.1.1, ()), (d.2.2.1, (d.2.2.2.1, (d.2.2.2.2.2.1, ())))))).bind fun x53 =>
  bif x53.2.1.1 then (
  (g_hnum_Bytes ((), ((d.1.1, ()), (d.2.1, ())))).bind fun x54 =>
  some ((), x54.2))
  else (
  some ((), ((false, ()), ())))))
  else none)
  else none)
  else none))
def f_law03_one_u32_t : Nat → TT_law03_one_u32
  | 0 => (fun _ => none, ())
  | k + 1 => (f_law03_one_u32_p12 (f_law03_one_u32_t k), ())
theorem t_law03_one_u32 (k : Nat) : f_law03_one_u32_t (k + 1) = (f_law03_one_u32_p12 (f_law03_one_u32_t k), ()) := rfl
def f_law03_one_u32_m (T : TT_law03_one_u32) (d : Unit × (((List Int) × Unit) × ((Int × Unit) × ((Int × Unit) × ((Int × Unit) × ((Int × Unit) × Unit)))))) : Option (Unit × ((Bool × Unit) × Unit)) :=
  let x1 : (List Int) := ([] : List Int)
  bif decide (((x1.length + d.2.1.1.length) * 1 : Nat) ≤ 140737488355328) && decide (x1.length + d.2.1.1.length ≤ 9223372036854775807) then (
  let x2 : (List Int) := (x1 ++ d.2.1.1)
  (g_octets_Size_u32 ((), ())).bind fun x3 =>
  let x4 : Bool := (x3.2.1.1 != d.2.2.2.2.2.1.1)
  bif x4 then (
  some ((), ((false, ()), ())))
  else (
  (g_octets_Get_u32 ((), ((x2, ()), (d.2.2.1, ())))).bind fun x5 =>
  (g_ref03_Get ((), (d.2.1, (d.2.2.1, d.2.2.2.2.2)))).bind fun x6 =>
  let x7 : Int := (iconv .u64 x5.2.1.1)
  let x8 : Bool := (x7 != x6.2.1.1)
  bif x8 then (
  some ((), ((false, ()), ())))
  else (
  (g_hnum_Num ((), x5.2.2)).bind fun x9 =>
  let x10 : Bool := (x9.2.1.1 != x6.2.2.1.1)
  bif x10 then (
  some ((), ((false, ()), ())))
  else (
  (g_octets_Set_u32 ((), ((x2, ()), (d.2.2.1, (d.2.2.2.2.1, ()))))).bind fun x11 =>
  (g_hnum_Num ((), x11.2.2)).bind fun x12 =>
  let x13 : Bool := (x12.2.1.1 != x6.2.2.1.1)
  bif x13 then (
  (T.1 ((x2, x11.1), (d.2.1, (d.2.2.1, (d.2.2.2.1, (d.2.2.2.2.1, (d.2.2.2.2.2.1, ((), (x5.2.1, (x6.2.1, (x6.2.2.1, ((), ((true, ()), ()))))))))))))))
  else (
  let x14 : Bool := (x6.2.2.1.1 != (0 : Int))
  bif x14 then (
  let x15 : Int := (x11.1.1.length : Int)
  let x16 : Bool := (decide (x15 > (0 : Int)))
  (T.1 ((x2, x11.1), (d.2.1, (d.2.2.1, (d.2.2.2.1, (d.2.2.2.2.1, (d.2.2.2.2.2.1, ((), (x5.2.1, (x6.2.1, (x6.2.2.1, ((), ((x16, ()), ()))))))))))))))
  else (
  (T.1 ((x2, x11.1), (d.2.1, (d.2.2.1, (d.2.2.2.1, (d.2.2.2.2.1, (d.2.2.2.2.2.1, ((), (x5.2.1, (x6.2.1, (x6.2.2.1, ((), ((false, ()), ())))))))))))))))))))
  else none
def c_law03_one_u32 : List Nat := [12]
def L_law03_one_u32 (k : Nat) : Pts po_law03_one_u32.den := [(12, ⟨sh_law03_one_u32_12, (f_law03_one_u32_t k).1⟩)]
def R_law03_one_u32 (_ : Nat) : PtsR po_law03_one_u32.den := []
def E_law03_one_u32 : Env := (((((((((E0.add 18 (typedSem pi_hnum_Num po_hnum_Num g_hnum_Num)).add 19 (typedSem pi_hnum_Bytes po_hnum_Bytes g_hnum_Bytes)).add 24 (typedSem pi_ref03_Get po_ref03_Get g_ref03_Get)).add 26 (typedSem pi_ref03_Number po_ref03_Number g_ref03_Number)).add 33 (typedSem pi_octets_Size_u32 po_octets_Size_u32 g_octets_Size_u32)).add 34 (typedSem pi_octets_Get_u32 po_octets_Get_u32 g_octets_Get_u32)).add 35 (typedSem pi_octets_Set_u32 po_octets_Set_u32 g_octets_Set_u32)).add 36 (typedSem pi_octets_Put_u32 po_octets_Put_u32 g_octets_Put_u32)).add 37 (typedSem pi_law03_lists_u32 po_law03_lists_u32 g_law03_lists_u32))
theorem q_law03_one_u32_12 (k : Nat) (d : sh_law03_one_u32_12.den) : evAt E_law03_one_u32 (tb (L_law03_one_u32 k) (R_law03_one_u32 k)) c_law03_one_u32 12 (bodyOf Try.f8) 0 (finK E_law03_one_u32 po_law03_one_u32 [.tmp 10]) (ptSt sh_law03_one_u32_12 d) = f_law03_one_u32_p12 (f_law03_one_u32_t k) d := by kernel_rfl
theorem q_law03_one_u32_m (k : Nat) (d : pi_law03_one_u32.den) : evCode E_law03_one_u32 (tb (L_law03_one_u32 k) (R_law03_one_u32 k)) c_law03_one_u32 (bodyOf Try.f8) 0 (finK E_law03_one_u32 po_law03_one_u32 [.tmp 10]) (startSt pi_law03_one_u32 120 d) = f_law03_one_u32_m (f_law03_one_u32_t k) d := by kernel_rfl
def g_law03_one_u32 (d : Unit × (((List Int) × Unit) × ((Int × Unit) × ((Int × Unit) × ((Int × Unit) × ((Int × Unit) × Unit)))))) : Option (Unit × ((Bool × Unit) × Unit)) := lim fun k => f_law03_one_u32_m (f_law03_one_u32_t k) d
theorem ok_law03_one_u32 : FnOk Try.prog ET0 8 pi_law03_one_u32 po_law03_one_u32 g_law03_one_u32 :=
  fn_of_body (E := E_law03_one_u32) (envOk_add (envOk_add (envOk_add (envOk_add (envOk_add (envOk_add (envOk_add (envOk_add (envOk_add e0_ok (typed_ok ok_hnum_Num)) (typed_ok ok_hnum_Bytes)) (typed_ok ok_ref03_Get)) (typed_ok ok_ref03_Number)) (typed_ok ok_octets_Size_u32)) (typed_ok ok_octets_Get_u32)) (typed_ok ok_octets_Set_u32)) (typed_ok ok_octets_Put_u32)) (typed_ok ok_law03_lists_u32)) (fn := Try.f8) Try.func8 (by kernel_rfl) (by kernel_rfl) [.tmp 10] (by kernel_rfl) (by kernel_rfl) (by decide) rfl c_law03_one_u32 L_law03_one_u32 R_law03_one_u32
    (by intro x hx d; simp only [L_law03_one_u32, List.mem_cons, List.not_mem_nil, or_false] at hx; subst hx; rfl)
    (by intro k x hx d out h; simp only [L_law03_one_u32, List.mem_cons, List.not_mem_nil, or_false] at hx; subst hx; exact (q_law03_one_u32_12 k d).trans h)
    (by intro x hx; cases hx)
    (by intro k x hx; cases hx)
    (by intro d out h; obtain ⟨k, hk⟩ := lim_some h; exact ⟨k, (q_law03_one_u32_m k d).trans hk⟩)

@[reducible] def pi_octets_word_u64 : PSh := ⟨[], [.mk false [.v (.sl (.int .u8))]]⟩
@[reducible] def po_octets_word_u64 : PSh := ⟨[], [.mk false [.v (.int .u64)]]⟩
@[reducible] def TT_octets_word_u64 : Type := (((Unit × ((Int × Unit) × (((List Int) × Unit) × ((Int × Unit) × ((Int × Unit) × Unit))))) → Option (Unit × ((Int × Unit) × Unit))) × Unit)
@[reducible] def sh_octets_word_u64_4 : PSh := ⟨[], [.any, .any, .any, .mk false [.v (.int .u64)], .any, .any, .mk false [.v (.sl (.int .u8))], .mk false [vI], .mk false [vI], .any, .any, .any, .any, .any, .any, .any, .any, .any, .any]⟩
def f_octets_word_u64_p4 (T : TT_octets_word_u64) (d : Unit × ((Int × Unit) × (((List Int) × Unit) × ((Int × Unit) × ((Int × Unit) × Unit))))) : Option (Unit × ((Int × Unit) × Unit)) :=
  let x2 : Bool := (decide (d.2.2.2.2.1.1 < d.2.2.2.1.1))
  bif x2 then (
  bif decide ((0 : Int) ≤ d.2.2.2.2.1.1) && decide (d.2.2.2.2.1.1 < (d.2.2.1.1.length : Int)) then (
  let x3 : Int := (ishl .u64 d.2.1.1 (8 : Int))
  let x4 : Int := (iconv .u64 (gd (.int .u8) d.2.2.1.1 d.2.2.2.2.1.1))
  let x5 : Int := (ior .u64 x3 x4)
  let x6 : Int := (iadd .i64 d.2.2.2.2.1.1 (1 : Int))
  (T.1 ((), ((x5, ()), (d.2.2.1, (d.2.2.2.1, ((x6, ()), ())))))))
  else none)
  else (
  some ((), (d.2.1, ())))
def f_octets_word_u64_t : Nat → TT_octets_word_u64
  | 0 => (fun _ => none, ())
  | k + 1 => (f_octets_word_u64_p4 (f_octets_word_u64_t k), ())
theorem t_octets_word_u64 (k : Nat) : f_octets_word_u64_t (k + 1) = (f_octets_word_u64_p4 (f_octets_word_u64_t k), ()) := rfl
def f_octets_word_u64_m (T : TT_octets_word_u64) (d : Unit × (((List Int) × Unit) × Unit)) : Option (Unit × ((Int × Unit) × Unit)) :=
  let x1 : Int := (d.2.1.1.length : Int)
  (T.1 ((), (((0 : Int), ()), (d.2.1, ((x1, ()), (((0 : Int), ()), ()))))))
def c_octets_word_u64 : List Nat := []
def L_octets_word_u64 (k : Nat) : Pts po_octets_word_u64.den := [(4, ⟨sh_octets_word_u64_4, (f_octets_word_u64_t k).1⟩)]
def R_octets_word_u64 (_ : Nat) : PtsR po_octets_word_u64.den := []
def E_octets_word_u64 : Env := E0
theorem q_octets_word_u64_4 (k : Nat) (d : sh_octets_word_u64_4.den) : evAt E_octets_word_u64 (tb (L_octets_word_u64 k) (R_octets_word_u64 k)) c_octets_word_u64 4 (bodyOf Try.f61) 0 (finK E_octets_word_u64 po_octets_word_u64 [.tmp 2]) (ptSt sh_octets_word_u64_4 d) = f_octets_word_u64_p4 (f_octets_word_u64_t k) d := by kernel_rfl
theorem q_octets_word_u64_m (k : Nat) (d : pi_octets_word_u64.den) : evCode E_octets_word_u64 (tb (L_octets_word_u64 k) (R_octets_word_u64 k)) c_octets_word_u64 (bodyOf Try.f61) 0 (finK E_octets_word_u64 po_octets_word_u64 [.tmp 2]) (startSt pi_octets_word_u64 19 d) = f_octets_word_u64_m (f_octets_word_u64_t k) d := by kernel_rfl
def g_octets_word_u64 (d : Unit × (((List Int) × Unit) × Unit)) : Option (Unit × ((Int × Unit) × Unit)) := lim fun k => f_octets_word_u64_m (f_octets_word_u64_t k) d
theorem ok_octets_word_u64 : FnOk Try.prog ET0 61 pi_octets_word_u64 po_octets_word_u64 g_octets_word_u64 :=
  fn_of_body (E := E_octets_word_u64) e0_ok (fn := Try.f61) Try.func61 (by kernel_rfl) (by kernel_rfl) [.tmp 2] (by kernel_rfl) (by kernel_rfl) (by decide) rfl c_octets_word_u64 L_octets_word_u64 R_octets_word_u64
    (by intro x hx d; simp only [L_octets_word_u64, List.mem_cons, List.not_mem_nil, or_false] at hx; subst hx; rfl)
    (by intro k x hx d out h; simp only [L_octets_word_u64, List.mem_cons, List.not_mem_nil, or_false] at hx; subst hx; exact (q_octets_word_u64_4 k d).trans h)
    (by intro x hx; cases hx)
    (by intro k x hx; cases hx)
    (by intro d out h; obtain ⟨k, hk⟩ := lim_some h; exact ⟨k, (q_octets_word_u64_m k d).trans hk⟩)

@[reducible] def pi_octets_Get_u64 : PSh := ⟨[], [.mk false [.v (.sl (.int .u8))], .mk false [vI]]⟩
@[reducible] def po_octets_Get_u64 : PSh := ⟨[], [.mk false [.v (.int .u64)], .mk false [vE]]⟩
def f_octets_Get_u64_m (T : Unit) (d : Unit × (((List Int) × Unit) × ((Int × Unit) × Unit))) : Option (Unit × ((Int × Unit) × (((Option Int) × Unit) × Unit))) :=
  (g_octets_Size_u64 ((), ())).bind fun x1 =>
  (g_octets_from ((), (d.2.1, (d.2.2.1, x1.2)))).bind fun x2 =>
  let x3 : Bool := (!x2.2.2.1.1.isNone)
  bif x3 then (
  some ((), (((0 : Int), ()), x2.2.2)))
  else (
  (g_octets_word_u64 ((), (x2.2.1, ()))).bind fun x4 =>
  some ((), (x4.2.1, (((none : Option Int), ()), ()))))
def g_octets_Get_u64 (d : Unit × (((List Int) × Unit) × ((Int × Unit) × Unit))) : Option (Unit × ((Int × Unit) × (((Option Int) × Unit) × Unit))) := f_octets_Get_u64_m () d
theorem ok_octets_Get_u64 : FnOk Try.prog ET0 38 pi_octets_Get_u64 po_octets_Get_u64 g_octets_Get_u64 :=
  fn0 (E := (((E0.add 21 (typedSem pi_octets_Size_u64 po_octets_Size_u64 g_octets_Size_u64)).add 52 (typedSem pi_octets_from po_octets_from g_octets_from)).add 61 (typedSem pi_octets_word_u64 po_octets_word_u64 g_octets_word_u64))) (envOk_add (envOk_add (envOk_add e0_ok (typed_ok ok_octets_Size_u64)) (typed_ok ok_octets_from)) (typed_ok ok_octets_word_u64)) (fn := Try.f38) Try.func38 (by kernel_rfl) (by kernel_rfl) [.tmp 4, .tmp 5] (by kernel_rfl) rfl rfl rfl [] fun d => by kernel_rfl

@[reducible] def pi_octets_Put_u64 : PSh := ⟨[], [.mk false [.v (.sl (.int .u8))], .mk false [.v (.sl (.int .u64))]]⟩
@[reducible] def po_octets_Put_u64 : PSh := ⟨[.row 5 (.int .u8)], [.mk false [.osl 0]]⟩
@[reducible] def TT_octets_Put_u64 : Type := (((((List Int) × Unit) × ((Int × Unit) × (Unit × (((List Int) × Unit) × ((Int × Unit) × ((Int × Unit) × Unit)))))) → Option (((List Int) × Unit) × (Unit × Unit))) × (((((List Int) × Unit) × ((Int × Unit) × (Unit × ((Int × Unit) × ((Int × Unit) × (((List Int) × Unit) × ((Int × Unit) × ((Int × Unit) × Unit)))))))) → Option (((List Int) × Unit) × (Unit × Unit))) × Unit))
@[reducible] def sh_octets_Put_u64_5 : PSh := ⟨[.row 5 (.int .u8)], [.any, .any, .any, .any, .any, .mk false [vI], .mk false [.osl 0], .any, .any, .any, .any, .any, .any, .mk false [.v (.sl (.int .u64))], .mk false [vI], .mk false [vI], .any, .any, .any, .any, .any, .any, .any, .any, .any, .any, .any, .any, .any, .any, .any, .any, .any, .any, .any]⟩
@[reducible] def sh_octets_Put_u64_11 : PSh := ⟨[.row 5 (.int .u8)], [.any, .any, .any, .any, .any, .mk false [vI], .mk false [.osl 0], .any, .mk false [.v (.int .u64)], .mk false [vI], .any, .any, .any, .mk false [.v (.sl (.int .u64))], .mk false [vI], .mk false [vI], .any, .any, .any, .any, .any, .any, .any, .any, .any, .any, .any, .any, .any, .any, .any, .any, .any, .any, .any]⟩
def f_octets_Put_u64_p5 (T : TT_octets_Put_u64) (d : ((List Int) × Unit) × ((Int × Unit) × (Unit × (((List Int) × Unit) × ((Int × Unit) × ((Int × Unit) × Unit)))))) : Option (((List Int) × Unit) × (Unit × Unit)) :=
  let x4 : Bool := (decide (d.2.2.2.2.2.1.1 < d.2.2.2.2.1.1))
  bif x4 then (
  bif decide ((0 : Int) ≤ d.2.2.2.2.2.1.1) && decide (d.2.2.2.2.2.1.1 < (d.2.2.2.1.1.length : Int)) then (
  let x5 : Int := (isub .i64 d.2.1.1 (1 : Int))
  (T.2.1 (d.1, (d.2.1, ((), (((gd (.int .u64) d.2.2.2.1.1 d.2.2.2.2.2.1.1), ()), ((x5, ()), d.2.2.2)))))))
  else none)
  else (
  some (d.1, ((), ())))
def f_octets_Put_u64_p11 (T : TT_octets_Put_u64) (d : ((List Int) × Unit) × ((Int × Unit) × (Unit × ((Int × Unit) × ((Int × Unit) × (((List Int) × Unit) × ((Int × Unit) × ((Int × Unit) × Unit)))))))) : Option (((List Int) × Unit) × (Unit × Unit)) :=
  let x6 : Bool := (decide (d.2.2.2.2.1.1 ≥ (0 : Int)))
  bif x6 then (
  let x7 : Int := (imul .i64 (8 : Int) d.2.2.2.2.1.1)
  bif decide (x7 < 0) then (
  none)
  else (
  let x8 : Int := (ishr .u64 d.2.2.2.1.1 x7)
  let x9 : Int := (iconv .u8 x8)
  let x10 : (List Int) := ([x9] : List Int)
  bif decide (((d.1.1.length + x10.length) * 1 : Nat) ≤ 140737488355328) && decide (d.1.1.length + x10.length ≤ 9223372036854775807) then (
  let x11 : (List Int) := (d.1.1 ++ x10)
  let x12 : Int := (isub .i64 d.2.2.2.2.1.1 (1 : Int))
  (T.2.1 ((x11, ()), (d.2.1, ((), (d.2.2.2.1, ((x12, ()), d.2.2.2.2.2)))))))
  else none))
  else (
  let x13 : Int := (iadd .i64 d.2.2.2.2.2.2.2.1.1 (1 : Int))
  (T.1 (d.1, (d.2.1, ((), (d.2.2.2.2.2.1, (d.2.2.2.2.2.2.1, ((x13, ()), ()))))))))
def f_octets_Put_u64_t : Nat → TT_octets_Put_u64
  | 0 => (fun _ => none, (fun _ => none, ()))
  | k + 1 => (f_octets_Put_u64_p5 (f_octets_Put_u64_t k), (f_octets_Put_u64_p11 (f_octets_Put_u64_t k), ()))
theorem t_octets_Put_u64 (k : Nat) : f_octets_Put_u64_t (k + 1) = (f_octets_Put_u64_p5 (f_octets_Put_u64_t k), (f_octets_Put_u64_p11 (f_octets_Put_u64_t k), ())) := rfl
def f_octets_Put_u64_m (T : TT_octets_Put_u64) (d : Unit × (((List Int) × Unit) × (((List Int) × Unit) × Unit))) : Option (((List Int) × Unit) × (Unit × Unit)) :=
  (g_octets_Size_u64 ((), ())).bind fun x1 =>
  (g_slices_Clone_byte_byte ((), (d.2.1, ()))).bind fun x2 =>
  let x3 : Int := (d.2.2.1.1.length : Int)
  (T.1 (x2.1, (x1.2.1, ((), (d.2.2.1, ((x3, ()), (((0 : Int), ()), ())))))))
def c_octets_Put_u64 : List Nat := []
def L_octets_Put_u64 (k : Nat) : Pts po_octets_Put_u64.den := [(5, ⟨sh_octets_Put_u64_5, (f_octets_Put_u64_t k).1⟩), (11, ⟨sh_octets_Put_u64_11, (f_octets_Put_u64_t k).2.1⟩)]
def R_octets_Put_u64 (_ : Nat) : PtsR po_octets_Put_u64.den := []
def E_octets_Put_u64 : Env := ((E0.add 21 (typedSem pi_octets_Size_u64 po_octets_Size_u64 g_octets_Size_u64)).add 51 (typedSem pi_slices_Clone_byte_byte po_slices_Clone_byte_byte g_slices_Clone_byte_byte))
theorem q_octets_Put_u64_5 (k : Nat) (d : sh_octets_Put_u64_5.den) : evAt E_octets_Put_u64 (tb (L_octets_Put_u64 k) (R_octets_Put_u64 k)) c_octets_Put_u64 5 (bodyOf Try.f40) 0 (finK E_octets_Put_u64 po_octets_Put_u64 [.tmp 4]) (ptSt sh_octets_Put_u64_5 d) = f_octets_Put_u64_p5 (f_octets_Put_u64_t k) d := by kernel_rfl
theorem q_octets_Put_u64_11 (k : Nat) (d : sh_octets_Put_u64_11.den) : evAt E_octets_Put_u64 (tb (L_octets_Put_u64 k) (R_octets_Put_u64 k)) c_octets_Put_u64 11 (bodyOf Try.f40) 0 (finK E_octets_Put_u64 po_octets_Put_u64 [.tmp 4]) (ptSt sh_octets_Put_u64_11 d) = f_octets_Put_u64_p11 (f_octets_Put_u64_t k) d := by kernel_rfl
theorem q_octets_Put_u64_m (k : Nat) (d : pi_octets_Put_u64.den) : evCode E_octets_Put_u64 (tb (L_octets_Put_u64 k) (R_octets_Put_u64 k)) c_octets_Put_u64 (bodyOf Try.f40) 0 (finK E_octets_Put_u64 po_octets_Put_u64 [.tmp 4]) (startSt pi_octets_Put_u64 35 d) = f_octets_Put_u64_m (f_octets_Put_u64_t k) d := by kernel_rfl
def g_octets_Put_u64 (d : Unit × (((List Int) × Unit) × (((List Int) × Unit) × Unit))) : Option (((List Int) × Unit) × (Unit × Unit)) := lim fun k => f_octets_Put_u64_m (f_octets_Put_u64_t k) d
theorem ok_octets_Put_u64 : FnOk Try.prog ET0 40 pi_octets_Put_u64 po_octets_Put_u64 g_octets_Put_u64 :=
  fn_of_body (E := E_octets_Put_u64) (envOk_add (envOk_add e0_ok (typed_ok ok_octets_Size_u64)) (typed_ok ok_slices_Clone_byte_byte)) (fn := Try.f40) Try.func40 (by kernel_rfl) (by kernel_rfl) [.tmp 4] (by kernel_rfl) (by kernel_rfl) (by decide) rfl c_octets_Put_u64 L_octets_Put_u64 R_octets_Put_u64
    (by intro x hx d; simp only [L_octets_Put_u64, List.mem_cons, List.not_mem_nil, or_false] at hx; rcases hx with rfl | rfl; rfl; rfl)
    (by intro k x hx d out h; simp only [L_octets_Put_u64, List.mem_cons, List.not_mem_nil, or_false] at hx; rcases hx with rfl | rfl; exact (q_octets_Put_u64_5 k d).trans h; exact (q_octets_Put_u64_11 k d).trans h)
    (by intro x hx; cases hx)
    (by intro k x hx; cases hx)
    (by intro d out h; obtain ⟨k, hk⟩ := lim_some h; exact ⟨k, (q_octets_Put_u64_m k d).trans hk⟩)

@[reducible] def pi_octets_Set_u64 : PSh := ⟨[], [.mk false [.v (.sl (.int .u8))], .mk false [vI], .mk false [.v (.int .u64)]]⟩
@[reducible] def po_octets_Set_u64 : PSh := ⟨[.row 5 (.int .u8)], [.mk false [.osl 0], .mk false [vE]]⟩
def f_octets_Set_u64_m (T : Unit) (d : Unit × (((List Int) × Unit) × ((Int × Unit) × ((Int × Unit) × Unit)))) : Option (((List Int) × Unit) × (Unit × (((Option Int) × Unit) × Unit))) :=
  (g_octets_Get_u64 ((), (d.2.1, (d.2.2.1, ())))).bind fun x1 =>
  let x2 : Bool := (!x1.2.2.1.1.isNone)
  bif x2 then (
  some ((([] : List Int), ()), ((), x1.2.2)))
  else (
  (g_slices_Clone_byte_byte ((), (d.2.1, ()))).bind fun x3 =>
  bif decide ((0 : Int) ≤ d.2.2.1.1) && decide (d.2.2.1.1 < (x3.1.1.length : Int)) then (
  let x4 : (List Int) := ([d.2.2.2.1.1] : List Int)
  (g_octets_Put_u64 ((), ((([] : List Int), ()), ((x4, ()), ())))).bind fun x5 =>
  let x6 : (List Int) := (cpL x3.1.1 (Int.toNat d.2.2.1.1) x5.1.1)
  let x7 : Int := ((min x5.1.1.length (x3.1.1.length - (Int.toNat d.2.2.1.1)) : Nat) : Int)
  some ((x6, ()), ((), (((none : Option Int), ()), ()))))
  else none)
def g_octets_Set_u64 (d : Unit × (((List Int) × Unit) × ((Int × Unit) × ((Int × Unit) × Unit)))) : Option (((List Int) × Unit) × (Unit × (((Option Int) × Unit) × Unit))) := f_octets_Set_u64_m () d
theorem ok_octets_Set_u64 : FnOk Try.prog ET0 39 pi_octets_Set_u64 po_octets_Set_u64 g_octets_Set_u64 :=
  fn0 (E := (((E0.add 38 (typedSem pi_octets_Get_u64 po_octets_Get_u64 g_octets_Get_u64)).add 40 (typedSem pi_octets_Put_u64 po_octets_Put_u64 g_octets_Put_u64)).add 51 (typedSem pi_slices_Clone_byte_byte po_slices_Clone_byte_byte g_slices_Clone_byte_byte))) (envOk_add (envOk_add (envOk_add e0_ok (typed_ok ok_octets_Get_u64)) (typed_ok ok_octets_Put_u64)) (typed_ok ok_slices_Clone_byte_byte)) (fn := Try.f39) Try.func39 (by kernel_rfl) (by kernel_rfl) [.tmp 6, .tmp 7] (by kernel_rfl) rfl rfl rfl [] fun d => by kernel_rfl

@[reducible] def pi_octets_List_u64 : PSh := ⟨[], [.mk false [.v (.sl (.int .u8))], .mk false [vI], .mk false [vI]]⟩
@[reducible] def po_octets_List_u64 : PSh := ⟨[.row 24 (.int .u64)], [.mk false [.osl 0], .mk false [vE]]⟩
@[reducible] def TT_octets_List_u64 : Type := ((List (List Int) → ((Unit × ((List Int) × Unit)) × (Unit × Unit)) → Option (((List Int) × Unit) × (Unit × (((Option Int) × Unit) × Unit)))) × Unit)
@[reducible] def sh_octets_List_u64_10 : PSh := ⟨[.var 112 [.osl 1], .row 24 (.int .u64)], [.any, .any, .any, .any, .any, .any, .any, .any, .any, .mk false [.ref 0 0], .any, .any, .any, .any, .any, .any, .any, .any, .any, .any, .any, .any, .any, .any, .any, .any, .any, .any, .any, .any, .any, .any, .any, .any, .any, .any, .any, .any, .any, .any, .any, .any, .any, .any, .any, .any, .any, .any, .any, .any, .any, .any, .any]⟩
def f_octets_List_u64_p10 (T : TT_octets_List_u64) (l : List (List Int)) (d : (Unit × ((List Int) × Unit)) × (Unit × Unit)) : Option (((List Int) × Unit) × (Unit × (((Option Int) × Unit) × Unit))) :=
  bif l.isEmpty then (
  some (d.1.2, ((), (((none : Option Int), ()), ()))))
  else (
  let x19 : (List Int) := (gd (.sl (.int .u8)) l (0 : Int))
  (g_octets_word_u64 ((), ((x19, ()), ()))).bind fun x20 =>
  let x21 : (List Int) := ([x20.2.1.1] : List Int)
  bif decide (((d.1.2.1.length + x21.length) * 8 : Nat) ≤ 140737488355328) && decide (d.1.2.1.length + x21.length ≤ 9223372036854775807) then (
  let x22 : (List Int) := (d.1.2.1 ++ x21)
  (T.1 (List.drop 1 l) (((), (x22, ())), ((), ()))))
  else none)
def f_octets_List_u64_t : Nat → TT_octets_List_u64
  | 0 => (fun _ _ => none, ())
  | k + 1 => (f_octets_List_u64_p10 (f_octets_List_u64_t k), ())
theorem t_octets_List_u64 (k : Nat) : f_octets_List_u64_t (k + 1) = (f_octets_List_u64_p10 (f_octets_List_u64_t k), ()) := rfl
def f_octets_List_u64_m (T : TT_octets_List_u64) (d : Unit × (((List Int) × Unit) × ((Int × Unit) × ((Int × Unit) × Unit)))) : Option (((List Int) × Unit) × (Unit × (((Option Int) × Unit) × Unit))) :=
  (g_octets_Size_u64 ((), ())).bind fun x1 =>
  let x2 : Bool := (decide (d.2.2.1.1 < (0 : Int)))
  bif x2 then (
  let x3 : (Option Int) := (some (1 : Int))
  some ((([] : List Int), ()), ((), ((x3, ()), ()))))
  else (
  let x4 : Int := (d.2.1.1.length : Int)
  let x5 : Bool := (decide (d.2.2.1.1 > x4))
  bif x5 then (
  let x6 : (Option Int) := (some (1 : Int))
  some ((([] : List Int), ()), ((), ((x6, ()), ()))))
  else (
  let x7 : Bool := (decide (d.2.2.2.1.1 < (0 : Int)))
  bif x7 then (
  let x8 : (Option Int) := (some (1 : Int))
  some ((([] : List Int), ()), ((), ((x8, ()), ()))))
  else (
  let x9 : Int := (d.2.1.1.length : Int)
  let x10 : Int := (isub .i64 x9 d.2.2.1.1)
  bif (x1.2.1.1 == 0) then (
  none)
  else (
  let x11 : Int := (iquo .i64 x10 x1.2.1.1)
  let x12 : Bool := (decide (d.2.2.2.1.1 > x11))
  bif x12 then (
  let x13 : (Option Int) := (some (4 : Int))
  some ((([] : List Int), ()), ((), ((x13, ()), ()))))
  else (
  let x14 : Int := (imul .i64 d.2.2.2.1.1 x1.2.1.1)
  let x15 : Int := (iadd .i64 d.2.2.1.1 x14)
  bif decide ((0 : Int) ≤ d.2.2.1.1) && decide (d.2.2.1.1 ≤ x15) && decide (x15 ≤ (d.2.1.1.length : Int)) then (
  let x16 : (List Int) := (List.drop (Int.toNat d.2.2.1.1) (List.take (Int.toNat x15) d.2.1.1))
  (g_slices_Chunk_byte_byte ((), ((x16, ()), x1.2))).bind fun x17 =>
  (F_slices_Chunk_byte_byte_1 (x17.1.1.1, (x17.1.2.1.1, ()))).bind fun x18 =>
  (T.1 x18 (((), (([] : List Int), ())), ((), ()))))
  else none)))))
def c_octets_List_u64 : List Nat := []
def L_octets_List_u64 (_ : Nat) : Pts po_octets_List_u64.den := []
def R_octets_List_u64 (k : Nat) : PtsR po_octets_List_u64.den := [(10, ⟨(sh_octets_List_u64_10, (.sl (.int .u8))), (f_octets_List_u64_t k).1⟩)]
def E_octets_List_u64 : Env := ((((E0.add 21 (typedSem pi_octets_Size_u64 po_octets_Size_u64 g_octets_Size_u64)).add 61 (typedSem pi_octets_word_u64 po_octets_word_u64 g_octets_word_u64)).add 78 (typedSem pi_slices_Chunk_byte_byte po_slices_Chunk_byte_byte g_slices_Chunk_byte_byte)).sq 92 sq_slices_Chunk_byte_byte_1)
theorem q_octets_List_u64_10 (k : Nat) (l : List (List Int)) (d : sh_octets_List_u64_10.den) : evAtR E_octets_List_u64 (tb (L_octets_List_u64 k) (R_octets_List_u64 k)) c_octets_List_u64 10 (bodyOf Try.f62) 0 (finK E_octets_List_u64 po_octets_List_u64 [.tmp 6, .tmp 7]) (.sl (.int .u8)) l (ptSt sh_octets_List_u64_10 d) = f_octets_List_u64_p10 (f_octets_List_u64_t k) l d := by kernel_rfl
theorem q_octets_List_u64_m (k : Nat) (d : pi_octets_List_u64.den) : evCode E_octets_List_u64 (tb (L_octets_List_u64 k) (R_octets_List_u64 k)) c_octets_List_u64 (bodyOf Try.f62) 0 (finK E_octets_List_u64 po_octets_List_u64 [.tmp 6, .tmp 7]) (startSt pi_octets_List_u64 53 d) = f_octets_List_u64_m (f_octets_List_u64_t k) d := by kernel_rfl
def g_octets_List_u64 (d : Unit × (((List Int) × Unit) × ((Int × Unit) × ((Int × Unit) × Unit)))) : Option (((List Int) × Unit) × (Unit × (((Option Int) × Unit) × Unit))) := lim fun k => f_octets_List_u64_m (f_octets_List_u64_t k) d
theorem ok_octets_List_u64 : FnOk Try.prog ET0 62 pi_octets_List_u64 po_octets_List_u64 g_octets_List_u64 :=
  fn_of_body (E := E_octets_List_u64) (envOk_sq (envOk_add (envOk_add (envOk_add e0_ok (typed_ok ok_octets_Size_u64)) (typed_ok ok_octets_word_u64)) (typed_ok ok_slices_Chunk_byte_byte)) okq_slices_Chunk_byte_byte_1) (fn := Try.f62) Try.func62 (by kernel_rfl) (by kernel_rfl) [.tmp 6, .tmp 7] (by kernel_rfl) (by kernel_rfl) (by decide) rfl c_octets_List_u64 L_octets_List_u64 R_octets_List_u64
    (by intro x hx; cases hx)
    (by intro k x hx; cases hx)
    (by intro x hx l d; simp only [R_octets_List_u64, List.mem_cons, List.not_mem_nil, or_false] at hx; subst hx; rfl)
    (by intro k x hx l d out h; simp only [R_octets_List_u64, List.mem_cons, List.not_mem_nil, or_false] at hx; subst hx; exact (q_octets_List_u64_10 k l d).trans h)
    (by intro d out h; obtain ⟨k, hk⟩ := lim_some h; exact ⟨k, (q_octets_List_u64_m k d).trans hk⟩)

@[reducible] def pi_law03_lists_u64 : PSh := ⟨[], [.mk false [.v (.sl (.int .u8))], .mk false [vI], .mk false [vI], .mk false [vI]]⟩
@[reducible] def po_law03_lists_u64 : PSh := ⟨[], [.mk false [vB]]⟩
@[reducible] def TT_law03_lists_u64 : Type := (((((List Int) × Unit) × (((List Int) × Unit) × ((Int × Unit) × ((Int × Unit) × (Unit × ((Int × Unit) × ((Int × Unit) × Unit))))))) → Option (Unit × ((Bool × Unit) × Unit))) × Unit)
@[reducible] def sh_law03_lists_u64_13 : PSh := ⟨[.row 24 (.int .u64)], [.mk false [.v (.sl (.int .u8))], .mk false [vI], .any, .mk false [vI], .any, .any, .any, .any, .any, .any, .any, .any, .any, .any, .any, .any, .any, .any, .any, .any, .any, .any, .any, .any, .any, .any, .any, .any, .any, .any, .any, .any, .any, .any, .any, .any, .any, .any, .any, .any, .any, .any, .any, .any, .any, .any, .any, .any, .any, .any, .any, .any, .any, .any, .any, .any, .any, .any, .any, .any, .any, .any, .any, .any, .any, .any, .any, .any, .any, .any, .mk false [.osl 0], .mk false [vI], .mk false [vI], .any, .any, .any, .any, .any, .any, .any, .any, .any, .any, .any, .any, .any, .any, .any, .any, .any, .any, .any]⟩
def f_law03_lists_u64_p13 (T : TT_law03_lists_u64) (d : ((List Int) × Unit) × (((List Int) × Unit) × ((Int × Unit) × ((Int × Unit) × (Unit × ((Int × Unit) × ((Int × Unit) × Unit))))))) : Option (Unit × ((Bool × Unit) × Unit)) :=
  let x31 : Bool := (decide (d.2.2.2.2.2.2.1.1 < d.2.2.2.2.2.1.1))
  bif x31 then (
  bif decide ((0 : Int) ≤ d.2.2.2.2.2.2.1.1) && decide (d.2.2.2.2.2.2.1.1 < (d.1.1.length : Int)) then (
  let x32 : Int := (imul .i64 d.2.2.2.2.2.2.1.1 d.2.2.2.1.1)
  let x33 : Int := (iadd .i64 d.2.2.1.1 x32)
  (g_ref03_Get ((), (d.2.1, ((x33, ()), (d.2.2.2.1, ()))))).bind fun x34 =>
  let x35 : Bool := ((gd (.int .u64) d.1.1 d.2.2.2.2.2.2.1.1) != x34.2.1.1)
  bif x35 then (
  some ((), ((false, ()), ())))
  else (
  let x36 : Int := (iadd .i64 d.2.2.2.2.2.2.1.1 (1 : Int))
  (T.1 (d.1, (d.2.1, (d.2.2.1, (d.2.2.2.1, ((), (d.2.2.2.2.2.1, ((x36, ()), ()))))))))))
  else none)
  else (
  some ((), ((true, ()), ())))
def f_law03_lists_u64_t : Nat → TT_law03_lists_u64
  | 0 => (fun _ => none, ())
  | k + 1 => (f_law03_lists_u64_p13 (f_law03_lists_u64_t k), ())
theorem t_law03_lists_u64 (k : Nat) : f_law03_lists_u64_t (k + 1) = (f_law03_lists_u64_p13 (f_law03_lists_u64_t k), ()) := rfl
def f_law03_lists_u64_m (T : TT_law03_lists_u64) (d : Unit × (((List Int) × Unit) × ((Int × Unit) × ((Int × Unit) × ((Int × Unit) × Unit))))) : Option (Unit × ((Bool × Unit) × Unit)) :=
  (g_octets_List_u64 ((), (d.2.1, (d.2.2.1, (d.2.2.2.1, ()))))).bind fun x1 =>
  let x2 : Bool := (decide (d.2.2.1.1 < (0 : Int)))
  bif x2 then (
  let x3 : Int := (x1.1.1.length : Int)
  let x4 : Bool := (x3 == (0 : Int))
  bif x4 then (
  (g_hnum_Is ((), (x1.2.2.1, (((1 : Int), ()), ())))).bind fun x5 =>
  some ((), x5.2))
  else (
  some ((), ((false, ()), ()))))
  else (
  let x6 : Int := (d.2.1.1.length : Int)
  let x7 : Bool := (decide (d.2.2.1.1 > x6))
  bif x7 then (
  let x8 : Int := (x1.1.1.length : Int)
  let x9 : Bool := (x8 == (0 : Int))
  bif x9 then (
  (g_hnum_Is ((), (x1.2.2.1, (((1 : Int), ()), ())))).bind fun x10 =>
  some ((), x10.2))
  else (
  some ((), ((false, ()), ()))))
  else (
  let x11 : Bool := (decide (d.2.2.2.1.1 < (0 : Int)))
  bif x11 then (
  let x12 : Int := (x1.1.1.length : Int)
  let x13 : Bool := (x12 == (0 : Int))
  bif x13 then (
  (g_hnum_Is ((), (x1.2.2.1, (((1 : Int), ()), ())))).bind fun x14 =>
  some ((), x14.2))
  else (
  some ((), ((false, ()), ()))))
  else (
  let x15 : Int := (d.2.1.1.length : Int)
  let x16 : Bool := (decide (d.2.2.2.1.1 > x15))
  bif x16 then (
  let x17 : Int := (x1.1.1.length : Int)
  let x18 : Bool := (x17 == (0 : Int))
  bif x18 then (
  (g_hnum_Is ((), (x1.2.2.1, (((4 : Int), ()), ())))).bind fun x19 =>
  some ((), x19.2))
  else (
  some ((), ((false, ()), ()))))
  else (
  let x20 : Int := (imul .i64 d.2.2.2.1.1 d.2.2.2.2.1.1)
  let x21 : Int := (d.2.1.1.length : Int)
  let x22 : Int := (isub .i64 x21 d.2.2.1.1)
  let x23 : Bool := (decide (x20 > x22))
  bif x23 then (
  let x24 : Int := (x1.1.1.length : Int)
  let x25 : Bool := (x24 == (0 : Int))
  bif x25 then (
  (g_hnum_Is ((), (x1.2.2.1, (((4 : Int), ()), ())))).bind fun x26 =>
  some ((), x26.2))
  else (
  some ((), ((false, ()), ()))))
  else (
  let x27 : Bool := (!x1.2.2.1.1.isNone)
  bif x27 then (
  some ((), ((false, ()), ())))
  else (
  let x28 : Int := (x1.1.1.length : Int)
  let x29 : Bool := (x28 != d.2.2.2.1.1)
  bif x29 then (
  some ((), ((false, ()), ())))
  else (
  let x30 : Int := (x1.1.1.length : Int)
  (T.1 (x1.1, (d.2.1, (d.2.2.1, (d.2.2.2.2.1, ((), ((x30, ()), (((0 : Int), ()), ())))))))))))))))
def c_law03_lists_u64 : List Nat := []
def L_law03_lists_u64 (k : Nat) : Pts po_law03_lists_u64.den := [(13, ⟨sh_law03_lists_u64_13, (f_law03_lists_u64_t k).1⟩)]
def R_law03_lists_u64 (_ : Nat) : PtsR po_law03_lists_u64.den := []
def E_law03_lists_u64 : Env := (((E0.add 24 (typedSem pi_ref03_Get po_ref03_Get g_ref03_Get)).add 56 (typedSem pi_hnum_Is po_hnum_Is g_hnum_Is)).add 62 (typedSem pi_octets_List_u64 po_octets_List_u64 g_octets_List_u64))
theorem q_law03_lists_u64_13 (k : Nat) (d : sh_law03_lists_u64_13.den) : evAt E_law03_lists_u64 (tb (L_law03_lists_u64 k) (R_law03_lists_u64 k)) c_law03_lists_u64 13 (bodyOf Try.f41) 0 (finK E_law03_lists_u64 po_law03_lists_u64 [.tmp 8]) (ptSt sh_law03_lists_u64_13 d) = f_law03_lists_u64_p13 (f_law03_lists_u64_t k) d := by kernel_rfl
theorem q_law03_lists_u64_m (k : Nat) (d : pi_law03_lists_u64.den) : evCode E_law03_lists_u64 (tb (L_law03_lists_u64 k) (R_law03_lists_u64 k)) c_law03_lists_u64 (bodyOf Try.f41) 0 (finK E_law03_lists_u64 po_law03_lists_u64 [.tmp 8]) (startSt pi_law03_lists_u64 92 d) = f_law03_lists_u64_m (f_law03_lists_u64_t k) d := by kernel_rfl
def g_law03_lists_u64 (d : Unit × (((List Int) × Unit) × ((Int × Unit) × ((Int × Unit) × ((Int × Unit) × Unit))))) : Option (Unit × ((Bool × Unit) × Unit)) := lim fun k => f_law03_lists_u64_m (f_law03_lists_u64_t k) d
theorem ok_law03_lists_u64 : FnOk Try.prog ET0 41 pi_law03_lists_u64 po_law03_lists_u64 g_law03_lists_u64 :=
  fn_of_body (E := E_law03_lists_u64) (envOk_add (envOk_add (envOk_add e0_ok (typed_ok ok_ref03_Get)) (typed_ok ok_hnum_Is)) (typed_ok ok_octets_List_u64)) (fn := Try.f41) Try.func41 (by kernel_rfl) (by kernel_rfl) [.tmp 8] (by kernel_rfl) (by kernel_rfl) (by decide) rfl c_law03_lists_u64 L_law03_lists_u64 R_law03_lists_u64
    (by intro x hx d; simp only [L_law03_lists_u64, List.mem_cons, List.not_mem_nil, or_false] at hx; subst hx; rfl)
    (by intro k x hx d out h; simp only [L_law03_lists_u64, List.mem_cons, List.not_mem_nil, or_false] at hx; subst hx; exact (q_law03_lists_u64_13 k d).trans h)
    (by intro x hx; cases hx)
    (by intro k x hx; cases hx)
    (by intro d out h; obtain ⟨k, hk⟩ := lim_some h; exact ⟨k, (q_law03_lists_u64_m k d).trans hk⟩)

@[reducible] def pi_law03_one_u64 : PSh := ⟨[], [.mk false [.v (.sl (.int .u8))], .mk false [vI], .mk false [vI], .mk false [.v (.int .u64)], .mk false [vI]]⟩
@[reducible] def po_law03_one_u64 : PSh := ⟨[], [.mk false [vB]]⟩
@[reducible] def TT_law03_one_u64 : Type := (((((List Int) × ((List Int) × Unit)) × (((List Int) × Unit) × ((Int × Unit) × ((Int × Unit) × ((Int × Unit) × ((Int × Unit) × (Unit × ((Int × Unit) × ((Int × Unit) × ((Int × Unit) × (Unit × ((Bool × Unit) × Unit)))))))))))) → Option (Unit × ((Bool × Unit) × Unit))) × Unit)
@[reducible] def sh_law03_one_u64_12 : PSh := ⟨[.row 5 (.int .u8), .row 5 (.int .u8)], [.mk false [.v (.sl (.int .u8))], .mk false [vI], .mk false [vI], .mk false [.v (.int .u64)], .mk false [vI], .any, .any, .any, .any, .any, .any, .mk false [.osl 0], .mk false [.v (.int .u64)], .any, .mk false [.v (.int .u64)], .mk false [vI], .mk false [.osl 1], .any, .any, .any, .any, .any, .any, .any, .any, .any, .any, .any, .any, .any, .any, .any, .any, .any, .any, .any, .any, .any, .any, .any, .any, .any, .any, .any, .any, .any, .any, .any, .any, .any, .any, .any, .any, .any, .any, .any, .any, .any, .any, .any, .any, .any, .any, .any, .any, .mk false [vB], .any, .any, .any, .any, .any, .any, .any, .any, .any, .any, .any, .any, .any, .any, .any, .any, .any, .any, .any, .any, .any, .any, .any, .any, .any, .any, .any, .any, .any, .any, .any, .any, .any, .any, .any, .any, .any, .any, .any, .any, .any, .any, .any, .any, .any, .any, .any, .any, .any, .any, .any]⟩
def f_law03_one_u64_p12 (T : TT_law03_one_u64) (d : ((List Int) × ((List Int) × Unit)) × (((List Int) × Unit) × ((Int × Unit) × ((Int × Unit) × ((Int × Unit) × ((Int × Unit) × (Unit × ((Int × Unit) × ((Int × Unit) × ((Int × Unit) × (Unit × ((Bool × Unit) × Unit)))))))))))) : Option (Unit × ((Bool × Unit) × Unit)) :=
  bif d.2.2.2.2.2.2.2.2.2.2.2.1.1 then (
  some ((), ((false, ()), ())))
  else (
  let x16 : Bool := (d.2.2.2.2.2.2.2.2.2.1.1 == (0 : Int))
  bif x16 then (
  let x17 : (List Int) := ([] : List Int)
  bif decide ((0 : Int) ≤ (0 : Int)) && decide ((0 : Int) ≤ d.2.2.1.1) && decide (d.2.2.1.1 ≤ (d.2.1.1.length : Int)) then (
  let x18 : (List Int) := (List.drop (Int.toNat (0 : Int)) (List.take (Int.toNat d.2.2.1.1) d.2.1.1))
  bif decide (((x17.length + x18.length) * 1 : Nat) ≤ 140737488355328) && decide (x17.length + x18.length ≤ 9223372036854775807) then (
  let x19 : (List Int) := (x17 ++ x18)
  (g_ref03_Number ((), (d.2.2.2.2.1, (d.2.2.2.2.2.1, ())))).bind fun x20 =>
  bif decide (((x19.length + x20.1.1.length) * 1 : Nat) ≤ 140737488355328) && decide (x19.length + x20.1.1.length ≤ 9223372036854775807) then (
  let x21 : (List Int) := (x19 ++ x20.1.1)
  let x22 : Int := (iadd .i64 d.2.2.1.1 d.2.2.2.2.2.1.1)
  bif decide ((0 : Int) ≤ x22) && decide (x22 ≤ (d.2.1.1.length : Int)) && decide ((d.2.1.1.length : Int) ≤ (d.2.1.1.length : Int)) then (
  let x23 : (List Int) := (List.drop (Int.toNat x22) (List.take (Int.toNat (d.2.1.1.length : Int)) d.2.1.1))
  bif decide (((x21.length + x23.length) * 1 : Nat) ≤ 140737488355328) && decide (x21.length + x23.length ≤ 9223372036854775807) then (
  let x24 : (List Int) := (x21 ++ x23)
  (g_hnum_Bytes ((), (d.1.2, ((x24, ()), ())))).bind fun x25 =>
  let x26 : Bool := (!x25.2.1.1)
  bif x26 then (
  some ((), ((false, ()), ())))
  else (
  let x27 : (List Int) := ([d.2.2.2.2.1.1, d.2.2.2.2.2.2.2.1.1] : List Int)
  (g_octets_Put_u64 ((), ((d.1.1, ()), ((x27, ()), ())))).bind fun x28 =>
  let x29 : (List Int) := ([] : List Int)
  bif decide (((x29.length + d.2.1.1.length) * 1 : Nat) ≤ 140737488355328) && decide (x29.length + d.2.1.1.length ≤ 9223372036854775807) then (
  let x30 : (List Int) := (x29 ++ d.2.1.1)
  (g_ref03_Number ((), (d.2.2.2.2.1, (d.2.2.2.2.2.1, ())))).bind fun x31 =>
  bif decide (((x30.length + x31.1.1.length) * 1 : Nat) ≤ 140737488355328) && decide (x30.length + x31.1.1.length ≤ 9223372036854775807) then (
  let x32 : (List Int) := (x30 ++ x31.1.1)
  (g_ref03_Number ((), (d.2.2.2.2.2.2.2.2.1, (d.2.2.2.2.2.1, ())))).bind fun x33 =>
  bif decide (((x32.length + x33.1.1.length) * 1 : Nat) ≤ 140737488355328) && decide (x32.length + x33.1.1.length ≤ 9223372036854775807) then (
  let x34 : (List Int) := (x32 ++ x33.1.1)
  (g_hnum_Bytes ((), (x28.1, ((x34, ()), ())))).bind fun x35 =>
  let x36 : Bool := (!x35.2.1.1)
  bif x36 then (
  some ((), ((false, ()), ())))
  else (
  (g_law03_lists_u64 ((), ((d.1.1, ()), (d.2.2.1, (d.2.2.2.1, (d.2.2.2.2.2.1, ())))))).bind fun x37 =>
  bif x37.2.1.1 then (
  (g_hnum_Bytes ((), ((d.1.1, ()), (d.2.1, ())))).bind fun x38 =>
  some ((), x38.2))
  else (
  some ((), ((false, ()), ())))))
  else none)
  else none)
  else none))
  else none)
  else none)
  else none)
  else none)
  else none)
  else (
  let x39 : (List Int) := ([d.2.2.2.2.1.1, d.2.2.2.2.2.2.2.1.1] : List Int)
  (g_octets_Put_u64 ((), ((d.1.1, ()), ((x39, ()), ())))).bind fun x40 =>
  let x41 : (List Int) := ([] : List Int)
  bif decide (((x41.length + d.2.1.1.length) * 1 : Nat) ≤ 140737488355328) && decide (x41.length + d.2.1.1.length ≤ 9223372036854775807) then (
  let x42 : (List Int) := (x41 ++ d.2.1.1)
  (g_ref03_Number ((), (d.2.2.2.2.1, (d.2.2.2.2.2.1, ())))).bind fun x43 =>
  bif decide (((x42.length + x43.1.1.length) * 1 : Nat) ≤ 140737488355328) && decide (x42.length + x43.1.1.length ≤ 9223372036854775807) then (
  let x44 : (List Int) := (x42 ++ x43.1.1)
  (g_ref03_Number ((), (d.2.2.2.2.2.2.2.2.1, (d.2.2.2.2.2.1, ())))).bind fun x45 =>
  bif decide (((x44.length + x45.1.1.length) * 1 : Nat) ≤ 140737488355328) && decide (x44.length + x45.1.1.length ≤ 9223372036854775807) then (
  let x46 : (List Int) := (x44 ++ x45.1.1)
  (g_hnum_Bytes ((), (x40.1, ((x46, ()), ())))).bind fun x47 =>
  let x48 : Bool := (!x47.2.1.1)
  bif x48 then (
  some ((), ((false, ()), ())))
  else (
  (g_law03_lists_u64 ((), ((d.1.1, ()), (d.2.2.1, (d.2.2.2.1, (d.2.2.2.2.2.1, ())))))).bind fun x49 =>
  bif x49.2.1.1 then (
  (g_hnum_Bytes ((), ((d.1.1, ()), (d.2.1, ())))).bind fun x50 =>
  some ((), x50.2))
  else (
  some ((), ((false, ()), ())))))
  else none)
  else none)
  else none))
def f_law03_one_u64_t : Nat → TT_law03_one_u64
  | 0 => (fun _ => none, ())
  | k + 1 => (f_law03_one_u64_p12 (f_law03_one_u64_t k), ())
theorem t_law03_one_u64 (k : Nat) : f_law03_one_u64_t (k + 1) = (f_law03_one_u64_p12 (f_law03_one_u64_t k), ()) := rfl
def f_law03_one_u64_m (T : TT_law03_one_u64) (d : Unit × (((List Int) × Unit) × ((Int × Unit) × ((Int × Unit) × ((Int × Unit) × ((Int × Unit) × Unit)))))) : Option (Unit × ((Bool × Unit) × Unit)) :=
  let x1 : (List Int) := ([] : List Int)
  bif decide (((x1.length + d.2.1.1.length) * 1 : Nat) ≤ 140737488355328) && decide (x1.length + d.2.1.1.length ≤ 9223372036854775807) then (
  let x2 : (List Int) := (x1 ++ d.2.1.1)
  (g_octets_Size_u64 ((), ())).bind fun x3 =>
  let x4 : Bool := (x3.2.1.1 != d.2.2.2.2.2.1.1)
  bif x4 then (
  some ((), ((false, ()), ())))
  else (
  (g_octets_Get_u64 ((), ((x2, ()), (d.2.2.1, ())))).bind fun x5 =>
  (g_ref03_Get ((), (d.2.1, (d.2.2.1, d.2.2.2.2.2)))).bind fun x6 =>
  let x7 : Bool := (x5.2.1.1 != x6.2.1.1)
  bif x7 then (
  some ((), ((false, ()), ())))
  else (
  (g_hnum_Num ((), x5.2.2)).bind fun x8 =>
  let x9 : Bool := (x8.2.1.1 != x6.2.2.1.1)
  bif x9 then (
  some ((), ((false, ()), ())))
  else (
  (g_octets_Set_u64 ((), ((x2, ()), (d.2.2.1, (d.2.2.2.2.1, ()))))).bind fun x10 =>
  (g_hnum_Num ((), x10.2.2)).bind fun x11 =>
  let x12 : Bool := (x11.2.1.1 != x6.2.2.1.1)
  bif x12 then (
  (T.1 ((x2, x10.1), (d.2.1, (d.2.2.1, (d.2.2.2.1, (d.2.2.2.2.1, (d.2.2.2.2.2.1, ((), (x5.2.1, (x6.2.1, (x6.2.2.1, ((), ((true, ()), ()))))))))))))))
  else (
  let x13 : Bool := (x6.2.2.1.1 != (0 : Int))
  bif x13 then (
  let x14 : Int := (x10.1.1.length : Int)
  let x15 : Bool := (decide (x14 > (0 : Int)))
  (T.1 ((x2, x10.1), (d.2.1, (d.2.2.1, (d.2.2.2.1, (d.2.2.2.2.1, (d.2.2.2.2.2.1, ((), (x5.2.1, (x6.2.1, (x6.2.2.1, ((), ((x15, ()), ()))))))))))))))
  else (
  (T.1 ((x2, x10.1), (d.2.1, (d.2.2.1, (d.2.2.2.1, (d.2.2.2.2.1, (d.2.2.2.2.2.1, ((), (x5.2.1, (x6.2.1, (x6.2.2.1, ((), ((false, ()), ())))))))))))))))))))
  else none
def c_law03_one_u64 : List Nat := [12]
def L_law03_one_u64 (k : Nat) : Pts po_law03_one_u64.den := [(12, ⟨sh_law03_one_u64_12, (f_law03_one_u64_t k).1⟩)]
def R_law03_one_u64 (_ : Nat) : PtsR po_law03_one_u64.den := []
def E_law03_one_u64 : Env := (((((((((E0.add 18 (typedSem pi_hnum_Num po_hnum_Num g_hnum_Num)).add 19 (typedSem pi_hnum_Bytes po_hnum_Bytes g_hnum_Bytes)).add 21 (typedSem pi_octets_Size_u64 po_octets_Size_u64 g_octets_Size_u64)).add 24 (typedSem pi_ref03_Get po_ref03_Get g_ref03_Get)).add 26 (typedSem pi_ref03_Number po_ref03_Number g_ref03_Number)).add 38 (typedSem pi_octets_Get_u64 po_octets_Get_u64 g_octets_Get_u64)).add 39 (typedSem pi_octets_Set_u64 po_octets_Set_u64 g_octets_Set_u64)).add 40 (typedSem pi_octets_Put_u64 po_octets_Put_u64 g_octets_Put_u64)).add 41 (typedSem pi_law03_lists_u64 po_law03_lists_u64 g_law03_lists_u64))
theorem q_law03_one_u64_12 (k : Nat) (d : sh_law03_one_u64_12.den) : evAt E_law03_one_u64 (tb (L_law03_one_u64 k) (R_law03_one_u64 k)) c_law03_one_u64 12 (bodyOf Try.f9) 0 (finK E_law03_one_u64 po_law03_one_u64 [.tmp 10]) (ptSt sh_law03_one_u64_12 d) = f_law03_one_u64_p12 (f_law03_one_u64_t k) d := by kernel_rfl
theorem q_law03_one_u64_m (k : Nat) (d : pi_law03_one_u64.den) : evCode E_law03_one_u64 (tb (L_law03_one_u64 k) (R_law03_one_u64 k)) c_law03_one_u64 (bodyOf Try.f9) 0 (finK E_law03_one_u64 po_law03_one_u64 [.tmp 10]) (startSt pi_law03_one_u64 117 d) = f_law03_one_u64_m (f_law03_one_u64_t k) d := by kernel_rfl
def g_law03_one_u64 (d : Unit × (((List Int) × Unit) × ((Int × Unit) × ((Int × Unit) × ((Int × Unit) × ((Int × Unit) × Unit)))))) : Option (Unit × ((Bool × Unit) × Unit)) := lim fun k => f_law03_one_u64_m (f_law03_one_u64_t k) d
theorem ok_law03_one_u64 : FnOk Try.prog ET0 9 pi_law03_one_u64 po_law03_one_u64 g_law03_one_u64 :=
  fn_of_body (E := E_law03_one_u64) (envOk_add (envOk_add (envOk_add (envOk_add (envOk_add (envOk_add (envOk_add (envOk_add (envOk_add e0_ok (typed_ok ok_hnum_Num)) (typed_ok ok_hnum_Bytes)) (typed_ok ok_octets_Size_u64)) (typed_ok ok_ref03_Get)) (typed_ok ok_ref03_Number)) (typed_ok ok_octets_Get_u64)) (typed_ok ok_octets_Set_u64)) (typed_ok ok_octets_Put_u64)) (typed_ok ok_law03_lists_u64)) (fn := Try.f9) Try.func9 (by kernel_rfl) (by kernel_rfl) [.tmp 10] (by kernel_rfl) (by kernel_rfl) (by decide) rfl c_law03_one_u64 L_law03_one_u64 R_law03_one_u64
    (by intro x hx d; simp only [L_law03_one_u64, List.mem_cons, List.not_mem_nil, or_false] at hx; subst hx; rfl)
    (by intro k x hx d out h; simp only [L_law03_one_u64, List.mem_cons, List.not_mem_nil, or_false] at hx; subst hx; exact (q_law03_one_u64_12 k d).trans h)
    (by intro x hx; cases hx)
    (by intro k x hx; cases hx)
    (by intro d out h; obtain ⟨k, hk⟩ := lim_some h; exact ⟨k, (q_law03_one_u64_m k d).trans hk⟩)

@[reducible] def pi_law03_OctetsWords : PSh := ⟨[], [.mk false [.v (.sl (.int .u8))], .mk true [vI, vI], .mk false [.v (.int .u64)]]⟩
@[reducible] def po_law03_OctetsWords : PSh := ⟨[], [.mk false [vB]]⟩
def f_law03_OctetsWords_m (T : Unit) (d : Unit × (((List Int) × Unit) × ((Int × (Int × Unit)) × ((Int × Unit) × Unit)))) : Option (Unit × ((Bool × Unit) × Unit)) :=
  (g_law03_alive ((), ())).bind fun x1 =>
  let x2 : Bool := (!x1.2.1.1)
  bif x2 then (
  some ((), ((false, ()), ())))
  else (
  let x3 : Int := (d.2.1.1.length : Int)
  let x4 : Bool := (decide (x3 > (300 : Int)))
  bif x4 then (
  some ((), ((true, ()), ())))
  else (
  let x5 : Int := (iconv .u8 d.2.2.2.1.1)
  (g_law03_one_u8 ((), (d.2.1, ((d.2.2.1.1, ()), (d.2.2.1.2, ((x5, ()), (((1 : Int), ()), ()))))))).bind fun x6 =>
  bif x6.2.1.1 then (
  let x7 : Int := (iconv .u16 d.2.2.2.1.1)
  (g_law03_one_u16 ((), (d.2.1, ((d.2.2.1.1, ()), (d.2.2.1.2, ((x7, ()), (((2 : Int), ()), ()))))))).bind fun x8 =>
  bif x8.2.1.1 then (
  let x9 : Int := (iconv .u32 d.2.2.2.1.1)
  (g_law03_one_u32 ((), (d.2.1, ((d.2.2.1.1, ()), (d.2.2.1.2, ((x9, ()), (((4 : Int), ()), ()))))))).bind fun x10 =>
  bif x10.2.1.1 then (
  (g_law03_one_u64 ((), (d.2.1, ((d.2.2.1.1, ()), (d.2.2.1.2, (d.2.2.2.1, (((8 : Int), ()), ()))))))).bind fun x11 =>
  some ((), x11.2))
  else (
  some ((), ((false, ()), ()))))
  else (
  some ((), ((false, ()), ()))))
  else (
  some ((), ((false, ()), ())))))
def g_law03_OctetsWords (d : Unit × (((List Int) × Unit) × ((Int × (Int × Unit)) × ((Int × Unit) × Unit)))) : Option (Unit × ((Bool × Unit) × Unit)) := f_law03_OctetsWords_m () d
theorem ok_law03_OctetsWords : FnOk Try.prog ET0 3 pi_law03_OctetsWords po_law03_OctetsWords g_law03_OctetsWords :=
  fn0 (E := (((((E0.add 5 (typedSem pi_law03_alive po_law03_alive g_law03_alive)).add 6 (typedSem pi_law03_one_u8 po_law03_one_u8 g_law03_one_u8)).add 7 (typedSem pi_law03_one_u16 po_law03_one_u16 g_law03_one_u16)).add 8 (typedSem pi_law03_one_u32 po_law03_one_u32 g_law03_one_u32)).add 9 (typedSem pi_law03_one_u64 po_law03_one_u64 g_law03_one_u64))) (envOk_add (envOk_add (envOk_add (envOk_add (envOk_add e0_ok (typed_ok ok_law03_alive)) (typed_ok ok_law03_one_u8)) (typed_ok ok_law03_one_u16)) (typed_ok ok_law03_one_u32)) (typed_ok ok_law03_one_u64)) (fn := Try.f3) Try.func3 (by kernel_rfl) (by kernel_rfl) [.tmp 6] (by kernel_rfl) rfl rfl rfl [] fun d => by kernel_rfl
end
end Go.Proofs.Ytodnllhjikeafaa.Ev
