/- Printed by wip/tools/evgen.py. -/
import Derived.Test.YtddnfappkfiidaaEvE
import Derived.Test.YtddnfappkfiidaaProg
import Derived.KernelRfl
set_option maxRecDepth 100000
set_option maxHeartbeats 2000000
set_option linter.unusedVariables false
namespace Go.Proofs.Ytddnfappkfiidaa.Ev
open Go
noncomputable section
def rows0 : List (TypeId × Row) := [
  (2, ⟨.int .i64, 1, 8, (.int .i64), [AV.val (.int .i64) (0 : Int)], none⟩),
  (3, ⟨.int .i64, 1, 8, (.int .i64), [AV.val (.int .i64) (0 : Int)], none⟩),
  (4, ⟨.bool, 1, 1, .bool, [AV.val .bool false], none⟩),
  (5, ⟨.int .u8, 1, 1, (.int .u8), [AV.val (.int .u8) (0 : Int)], none⟩),
  (9, ⟨.str, 1, 16, .str, [AV.val .str ByteArray.empty], none⟩),
  (28, ⟨.iface, 1, 16, .err, [AV.val .err (none : Option Int)], none⟩),
  (46, ⟨.slice 5, 1, 24, (.sl (.int .u8)), [AV.nilS], none⟩),
  (47, ⟨.int .u32, 1, 4, (.int .u32), [AV.val (.int .u32) (0 : Int)], none⟩),
  (51, ⟨.int .i64, 1, 8, (.int .i64), [AV.val (.int .i64) (0 : Int)], none⟩),
  (52, ⟨.int .u64, 1, 8, (.int .u64), [AV.val (.int .u64) (0 : Int)], none⟩),
  (57, ⟨.struct [(0, 1, false), (1, 1, false), (2, 1, false), (3, 1, false), (4, 1, false), (5, 1, false), (6, 1, false), (7, 1, false)], 8, 64, (.pair (.int .i64) (.pair (.int .i64) (.pair (.int .i64) (.pair (.int .i64) (.pair (.int .i64) (.pair (.int .i64) (.pair (.int .i64) (.int .i64)))))))), [AV.val (.int .i64) (0 : Int), AV.val (.int .i64) (0 : Int), AV.val (.int .i64) (0 : Int), AV.val (.int .i64) (0 : Int), AV.val (.int .i64) (0 : Int), AV.val (.int .i64) (0 : Int), AV.val (.int .i64) (0 : Int), AV.val (.int .i64) (0 : Int)], some [.int .i64, .int .i64, .int .i64, .int .i64, .int .i64, .int .i64, .int .i64, .int .i64]⟩),
  (64, ⟨.struct [(0, 1, false), (1, 1, false), (2, 1, false), (3, 1, false), (4, 1, false), (5, 1, false), (6, 1, false), (7, 1, false)], 8, 64, (.pair (.int .i64) (.pair (.int .i64) (.pair (.int .i64) (.pair (.int .i64) (.pair (.int .i64) (.pair (.int .i64) (.pair (.int .i64) (.int .i64)))))))), [AV.val (.int .i64) (0 : Int), AV.val (.int .i64) (0 : Int), AV.val (.int .i64) (0 : Int), AV.val (.int .i64) (0 : Int), AV.val (.int .i64) (0 : Int), AV.val (.int .i64) (0 : Int), AV.val (.int .i64) (0 : Int), AV.val (.int .i64) (0 : Int)], some [.int .i64, .int .i64, .int .i64, .int .i64, .int .i64, .int .i64, .int .i64, .int .i64]⟩),
  (106, ⟨.int .u64, 1, 8, (.int .u64), [AV.val (.int .u64) (0 : Int)], none⟩),
  (116, ⟨.slice 52, 1, 24, (.sl (.int .u64)), [AV.nilS], none⟩),
  (118, ⟨.struct [(0, 1, false), (1, 1, false)], 2, 32, (.pair .bool (.sl (.int .u64))), [AV.val .bool false, AV.nilS], none⟩),
  (130, ⟨.slice 3, 1, 24, (.sl (.int .i64)), [AV.nilS], none⟩),
  (131, ⟨.slice 47, 1, 24, (.sl (.int .u32)), [AV.nilS], none⟩),
  (139, ⟨.struct [(0, 1, false), (1, 1, false)], 2, 40, (.pair (.sl (.int .u8)) .err), [AV.nilS, AV.val .err (none : Option Int)], none⟩)]
def ET0 : TypeId := 51
def E0 : Env := ⟨rows0, [], ET0, 0, [], [], []⟩
theorem e0_ok : EnvOk Try.prog E0 := envOk_rows (by kernel_rfl) (by kernel_rfl) 0

/- horologe/horologenum.Num -/
@[reducible] def pi_hnum_Num : PSh := ⟨[], [.mk false [.v .err]]⟩
@[reducible] def po_hnum_Num : PSh := ⟨[], [.mk false [.v (.int .i64)]]⟩
def f_hnum_Num_m (T : Unit) (d : Unit × (((Option Int) × Unit) × Unit)) : Option (Unit × ((Int × Unit) × Unit)) :=
  bif d.2.1.1.isNone then (
  some ((), (((0 : Int), ()), ())))
  else (
  bif d.2.1.1.isSome then (
  let x1 : Bool := ((d.2.1.1.getD 0) != (0 : Int))
  bif x1 then (
  some ((), (((d.2.1.1.getD 0), ()), ())))
  else (
  some ((), (((-1 : Int), ()), ()))))
  else (
  some ((), (((-1 : Int), ()), ()))))
def c_hnum_Num : List Nat := []
def L_hnum_Num (_ : Nat) : Pts po_hnum_Num.den := []
def R_hnum_Num (_ : Nat) : PtsR po_hnum_Num.den := []
def E_hnum_Num : Env := E0
theorem q_hnum_Num_m (k : Nat) (d : Unit × (((Option Int) × Unit) × Unit)) : evCode E_hnum_Num (tb (L_hnum_Num k) (R_hnum_Num k)) c_hnum_Num (bodyOf Try.f9) 0 (finK E_hnum_Num po_hnum_Num [.tmp 2]) (startSt pi_hnum_Num 18 d) = f_hnum_Num_m () d := by kernel_rfl
def g_hnum_Num (d : Unit × (((Option Int) × Unit) × Unit)) : Option (Unit × ((Int × Unit) × Unit)) := f_hnum_Num_m () d
theorem ok_hnum_Num : FnOk Try.prog ET0 9 pi_hnum_Num po_hnum_Num g_hnum_Num :=
  fn_of_body (E := E_hnum_Num) e0_ok (fn := Try.f9) Try.func9 (by kernel_rfl) (by kernel_rfl) [.tmp 2] (by kernel_rfl) (by kernel_rfl) (by decide) rfl c_hnum_Num L_hnum_Num R_hnum_Num
    (by intro x hx; cases hx) (by intro k x hx; cases hx) (by intro x hx; cases hx) (by intro k x hx; cases hx) (fun d out h => ⟨0, (q_hnum_Num_m 0 d).trans h⟩)

/- horologe/num.Add -/
@[reducible] def pi_num_Add : PSh := ⟨[], [.mk false [.v (.int .i64)], .mk false [.v (.int .i64)]]⟩
@[reducible] def po_num_Add : PSh := ⟨[], [.mk false [.v (.int .i64)], .mk false [.v .err]]⟩
def f_num_Add_m (T : Unit) (d : Unit × ((Int × Unit) × ((Int × Unit) × Unit))) : Option (Unit × ((Int × Unit) × (((Option Int) × Unit) × Unit))) :=
  let x1 : Int := (iadd .i64 d.2.1.1 d.2.2.1.1)
  let x2 : Bool := (decide (d.2.2.1.1 > (0 : Int)))
  bif x2 then (
  let x3 : Bool := (decide (x1 < d.2.1.1))
  bif x3 then (
  let x4 : (Option Int) := (some (5 : Int))
  some ((), (((0 : Int), ()), ((x4, ()), ()))))
  else (
  let x5 : Bool := (decide (d.2.2.1.1 < (0 : Int)))
  bif x5 then (
  let x6 : Bool := (decide (x1 > d.2.1.1))
  bif x6 then (
  let x7 : (Option Int) := (some (5 : Int))
  some ((), (((0 : Int), ()), ((x7, ()), ()))))
  else (
  some ((), ((x1, ()), (((none : Option Int), ()), ())))))
  else (
  some ((), ((x1, ()), (((none : Option Int), ()), ()))))))
  else (
  let x8 : Bool := (decide (d.2.2.1.1 < (0 : Int)))
  bif x8 then (
  let x9 : Bool := (decide (x1 > d.2.1.1))
  bif x9 then (
  let x10 : (Option Int) := (some (5 : Int))
  some ((), (((0 : Int), ()), ((x10, ()), ()))))
  else (
  some ((), ((x1, ()), (((none : Option Int), ()), ())))))
  else (
  some ((), ((x1, ()), (((none : Option Int), ()), ())))))
def c_num_Add : List Nat := []
def L_num_Add (_ : Nat) : Pts po_num_Add.den := []
def R_num_Add (_ : Nat) : PtsR po_num_Add.den := []
def E_num_Add : Env := E0
theorem q_num_Add_m (k : Nat) (d : Unit × ((Int × Unit) × ((Int × Unit) × Unit))) : evCode E_num_Add (tb (L_num_Add k) (R_num_Add k)) c_num_Add (bodyOf Try.f65) 0 (finK E_num_Add po_num_Add [.tmp 4, .tmp 5]) (startSt pi_num_Add 28 d) = f_num_Add_m () d := by kernel_rfl
def g_num_Add (d : Unit × ((Int × Unit) × ((Int × Unit) × Unit))) : Option (Unit × ((Int × Unit) × (((Option Int) × Unit) × Unit))) := f_num_Add_m () d
theorem ok_num_Add : FnOk Try.prog ET0 65 pi_num_Add po_num_Add g_num_Add :=
  fn_of_body (E := E_num_Add) e0_ok (fn := Try.f65) Try.func65 (by kernel_rfl) (by kernel_rfl) [.tmp 4, .tmp 5] (by kernel_rfl) (by kernel_rfl) (by decide) rfl c_num_Add L_num_Add R_num_Add
    (by intro x hx; cases hx) (by intro k x hx; cases hx) (by intro x hx; cases hx) (by intro k x hx; cases hx) (fun d out h => ⟨0, (q_num_Add_m 0 d).trans h⟩)

/- horologe/stamp.FromPosix -/
@[reducible] def pi_stamp_FromPosix : PSh := ⟨[], [.mk false [.v (.int .i64)]]⟩
@[reducible] def po_stamp_FromPosix : PSh := ⟨[], [.mk false [.v (.int .i64)], .mk false [.v .err]]⟩
def f_stamp_FromPosix_m (T : Unit) (d : Unit × ((Int × Unit) × Unit)) : Option (Unit × ((Int × Unit) × (((Option Int) × Unit) × Unit))) :=
  (g_num_Add ((), ((d.2.1.1, ()), (((2208988800 : Int), ()), ())))).bind fun x1 =>
  some ((), ((x1.2.1.1, ()), ((x1.2.2.1.1, ()), ())))
def c_stamp_FromPosix : List Nat := []
def L_stamp_FromPosix (_ : Nat) : Pts po_stamp_FromPosix.den := []
def R_stamp_FromPosix (_ : Nat) : PtsR po_stamp_FromPosix.den := []
def E_stamp_FromPosix : Env := (E0.add 65 (typedSem pi_num_Add po_num_Add g_num_Add))
theorem q_stamp_FromPosix_m (k : Nat) (d : Unit × ((Int × Unit) × Unit)) : evCode E_stamp_FromPosix (tb (L_stamp_FromPosix k) (R_stamp_FromPosix k)) c_stamp_FromPosix (bodyOf Try.f45) 0 (finK E_stamp_FromPosix po_stamp_FromPosix [.tmp 2, .tmp 3]) (startSt pi_stamp_FromPosix 8 d) = f_stamp_FromPosix_m () d := by kernel_rfl
def g_stamp_FromPosix (d : Unit × ((Int × Unit) × Unit)) : Option (Unit × ((Int × Unit) × (((Option Int) × Unit) × Unit))) := f_stamp_FromPosix_m () d
theorem ok_stamp_FromPosix : FnOk Try.prog ET0 45 pi_stamp_FromPosix po_stamp_FromPosix g_stamp_FromPosix :=
  fn_of_body (E := E_stamp_FromPosix) (envOk_add e0_ok (typed_ok ok_num_Add)) (fn := Try.f45) Try.func45 (by kernel_rfl) (by kernel_rfl) [.tmp 2, .tmp 3] (by kernel_rfl) (by kernel_rfl) (by decide) rfl c_stamp_FromPosix L_stamp_FromPosix R_stamp_FromPosix
    (by intro x hx; cases hx) (by intro k x hx; cases hx) (by intro x hx; cases hx) (by intro k x hx; cases hx) (fun d out h => ⟨0, (q_stamp_FromPosix_m 0 d).trans h⟩)

/- horologe/octets.Size[uint32] -/
@[reducible] def pi_octets_Size_u32 : PSh := ⟨[], []⟩
@[reducible] def po_octets_Size_u32 : PSh := ⟨[], [.mk false [.v (.int .i64)]]⟩
@[reducible] def TT_octets_Size_u32 : Type := (((Unit × ((Int × Unit) × ((Int × Unit) × Unit))) → Option (Unit × ((Int × Unit) × Unit))) × Unit)
@[reducible] def sh_octets_Size_u32_4 : PSh := ⟨[], [.any, .mk false [.v (.int .i64)], .mk false [.v (.int .u32)], .any, .any, .any, .any, .any, .any, .any, .any, .any, .any, .any]⟩
def f_octets_Size_u32_p4 (T : TT_octets_Size_u32) (d : Unit × ((Int × Unit) × ((Int × Unit) × Unit))) : Option (Unit × ((Int × Unit) × Unit)) :=
  let x3 : Bool := (decide (d.2.2.1.1 > (0 : Int)))
  bif x3 then (
  let x4 : Int := (iadd .i64 d.2.1.1 (1 : Int))
  let x5 : Int := (iconv .u64 d.2.2.1.1)
  let x6 : Int := (ishr .u64 x5 (8 : Int))
  let x7 : Int := (iconv .u32 x6)
  (T.1 ((), ((x4, ()), ((x7, ()), ())))))
  else (
  some ((), ((d.2.1.1, ()), ())))
def f_octets_Size_u32_t : Nat → TT_octets_Size_u32
  | 0 => (fun _ => none, ())
  | k + 1 => (f_octets_Size_u32_p4 (f_octets_Size_u32_t k), ())
theorem t_octets_Size_u32 (k : Nat) : f_octets_Size_u32_t (k + 1) = (f_octets_Size_u32_p4 (f_octets_Size_u32_t k), ()) := rfl
def f_octets_Size_u32_m (T : TT_octets_Size_u32) (d : Unit × Unit) : Option (Unit × ((Int × Unit) × Unit)) :=
  let x1 : Int := (iconv .u32 (0 : Int))
  let x2 : Int := (inot .u32 x1)
  (T.1 ((), (((0 : Int), ()), ((x2, ()), ()))))
def c_octets_Size_u32 : List Nat := []
def L_octets_Size_u32 (k : Nat) : Pts po_octets_Size_u32.den := [(4, ⟨sh_octets_Size_u32_4, (f_octets_Size_u32_t k).1⟩)]
def R_octets_Size_u32 (_ : Nat) : PtsR po_octets_Size_u32.den := []
def E_octets_Size_u32 : Env := E0
theorem q_octets_Size_u32_4 (k : Nat) (d : Unit × ((Int × Unit) × ((Int × Unit) × Unit))) : evAt E_octets_Size_u32 (tb (L_octets_Size_u32 k) (R_octets_Size_u32 k)) c_octets_Size_u32 4 (bodyOf Try.f44) 0 (finK E_octets_Size_u32 po_octets_Size_u32 [.tmp 0]) (ptSt sh_octets_Size_u32_4 d) = f_octets_Size_u32_p4 (f_octets_Size_u32_t k) d := by kernel_rfl
theorem q_octets_Size_u32_m (k : Nat) (d : Unit × Unit) : evCode E_octets_Size_u32 (tb (L_octets_Size_u32 k) (R_octets_Size_u32 k)) c_octets_Size_u32 (bodyOf Try.f44) 0 (finK E_octets_Size_u32 po_octets_Size_u32 [.tmp 0]) (startSt pi_octets_Size_u32 14 d) = f_octets_Size_u32_m (f_octets_Size_u32_t k) d := by kernel_rfl
theorem go_octets_Size_u32 (F : Unit × Unit → Option (Unit × ((Int × Unit) × Unit))) (hF : ∀ d out, F d = some out → ∃ k, f_octets_Size_u32_m (f_octets_Size_u32_t k) d = some out) : FnOk Try.prog ET0 44 pi_octets_Size_u32 po_octets_Size_u32 F :=
  fn_of_body (E := E_octets_Size_u32) e0_ok (fn := Try.f44) Try.func44 (by kernel_rfl) (by kernel_rfl) [.tmp 0] (by kernel_rfl) (by kernel_rfl) (by decide) rfl c_octets_Size_u32 L_octets_Size_u32 R_octets_Size_u32
    (by intro x hx d; simp only [L_octets_Size_u32, List.mem_cons, List.not_mem_nil, or_false] at hx; subst hx; rfl)
    (by intro k x hx d out h; simp only [L_octets_Size_u32, List.mem_cons, List.not_mem_nil, or_false] at hx; subst hx; exact (q_octets_Size_u32_4 k d).trans h)
    (by intro x hx; cases hx)
    (by intro k x hx; cases hx)
    (by intro d out h; obtain ⟨k, hk⟩ := hF d out h; exact ⟨k, (q_octets_Size_u32_m k d).trans hk⟩)
def g_octets_Size_u32 (d : Unit × Unit) : Option (Unit × ((Int × Unit) × Unit)) := lim fun k => f_octets_Size_u32_m (f_octets_Size_u32_t k) d
theorem ok_octets_Size_u32 : FnOk Try.prog ET0 44 pi_octets_Size_u32 po_octets_Size_u32 g_octets_Size_u32 := go_octets_Size_u32 g_octets_Size_u32 fun d out h => lim_some h

/- slices.Clone[[]byte,byte] -/
@[reducible] def pi_slices_Clone_byte_byte : PSh := ⟨[], [.mk false [.v (.sl (.int .u8))]]⟩
@[reducible] def po_slices_Clone_byte_byte : PSh := ⟨[.row 5 (.int .u8)], [.mk false [.osl 0]]⟩
def f_slices_Clone_byte_byte_m (T : Unit) (d : Unit × (((List Int) × Unit) × Unit)) : Option (((List Int) × Unit) × (Unit × Unit)) :=
  bif d.2.1.1.isEmpty then (
  agree (
  some ((([] : List Int), ()), ((), ()))) (
  let x1 : (List Int) := ([] : List Int)
  bif decide (((x1.length + d.2.1.1.length) * 1 : Nat) ≤ 140737488355328) && decide (x1.length + d.2.1.1.length ≤ 9223372036854775807) then (
  let x2 : (List Int) := (x1 ++ d.2.1.1)
  some ((x2, ()), ((), ())))
  else none))
  else (
  let x3 : (List Int) := ([] : List Int)
  bif decide (((x3.length + d.2.1.1.length) * 1 : Nat) ≤ 140737488355328) && decide (x3.length + d.2.1.1.length ≤ 9223372036854775807) then (
  let x4 : (List Int) := (x3 ++ d.2.1.1)
  some ((x4, ()), ((), ())))
  else none)
def c_slices_Clone_byte_byte : List Nat := []
def L_slices_Clone_byte_byte (_ : Nat) : Pts po_slices_Clone_byte_byte.den := []
def R_slices_Clone_byte_byte (_ : Nat) : PtsR po_slices_Clone_byte_byte.den := []
def E_slices_Clone_byte_byte : Env := E0
theorem q_slices_Clone_byte_byte_m (k : Nat) (d : Unit × (((List Int) × Unit) × Unit)) : evCode E_slices_Clone_byte_byte (tb (L_slices_Clone_byte_byte k) (R_slices_Clone_byte_byte k)) c_slices_Clone_byte_byte (bodyOf Try.f90) 0 (finK E_slices_Clone_byte_byte po_slices_Clone_byte_byte [.tmp 2]) (startSt pi_slices_Clone_byte_byte 8 d) = f_slices_Clone_byte_byte_m () d := by kernel_rfl
def g_slices_Clone_byte_byte (d : Unit × (((List Int) × Unit) × Unit)) : Option (((List Int) × Unit) × (Unit × Unit)) := f_slices_Clone_byte_byte_m () d
theorem ok_slices_Clone_byte_byte : FnOk Try.prog ET0 90 pi_slices_Clone_byte_byte po_slices_Clone_byte_byte g_slices_Clone_byte_byte :=
  fn_of_body (E := E_slices_Clone_byte_byte) e0_ok (fn := Try.f90) Try.func90 (by kernel_rfl) (by kernel_rfl) [.tmp 2] (by kernel_rfl) (by kernel_rfl) (by decide) rfl c_slices_Clone_byte_byte L_slices_Clone_byte_byte R_slices_Clone_byte_byte
    (by intro x hx; cases hx) (by intro k x hx; cases hx) (by intro x hx; cases hx) (by intro k x hx; cases hx) (fun d out h => ⟨0, (q_slices_Clone_byte_byte_m 0 d).trans h⟩)

/- horologe/octets.Put[uint32] -/
@[reducible] def pi_octets_Put_u32 : PSh := ⟨[], [.mk false [.v (.sl (.int .u8))], .mk false [.v (.sl (.int .u32))]]⟩
@[reducible] def po_octets_Put_u32 : PSh := ⟨[.row 5 (.int .u8)], [.mk false [.osl 0]]⟩
@[reducible] def TT_octets_Put_u32 : Type := (((((List Int) × Unit) × ((Int × Unit) × (Unit × (((List Int) × Unit) × ((Int × Unit) × ((Int × Unit) × Unit)))))) → Option (((List Int) × Unit) × (Unit × Unit))) × (((((List Int) × Unit) × ((Int × Unit) × (Unit × ((Int × Unit) × ((Int × Unit) × (((List Int) × Unit) × ((Int × Unit) × ((Int × Unit) × Unit)))))))) → Option (((List Int) × Unit) × (Unit × Unit))) × Unit))
@[reducible] def sh_octets_Put_u32_5 : PSh := ⟨[.row 5 (.int .u8)], [.any, .any, .any, .any, .any, .mk false [.v (.int .i64)], .mk false [.osl 0], .any, .any, .any, .any, .any, .any, .mk false [.v (.sl (.int .u32))], .mk false [.v (.int .i64)], .mk false [.v (.int .i64)], .any, .any, .any, .any, .any, .any, .any, .any, .any, .any, .any, .any, .any, .any, .any, .any, .any, .any, .any, .any]⟩
@[reducible] def sh_octets_Put_u32_11 : PSh := ⟨[.row 5 (.int .u8)], [.any, .any, .any, .any, .any, .mk false [.v (.int .i64)], .mk false [.osl 0], .any, .mk false [.v (.int .u32)], .mk false [.v (.int .i64)], .any, .any, .any, .mk false [.v (.sl (.int .u32))], .mk false [.v (.int .i64)], .mk false [.v (.int .i64)], .any, .any, .any, .any, .any, .any, .any, .any, .any, .any, .any, .any, .any, .any, .any, .any, .any, .any, .any, .any]⟩
def f_octets_Put_u32_p5 (T : TT_octets_Put_u32) (d : ((List Int) × Unit) × ((Int × Unit) × (Unit × (((List Int) × Unit) × ((Int × Unit) × ((Int × Unit) × Unit)))))) : Option (((List Int) × Unit) × (Unit × Unit)) :=
  let x4 : Bool := (decide (d.2.2.2.2.2.1.1 < d.2.2.2.2.1.1))
  bif x4 then (
  bif decide ((0 : Int) ≤ d.2.2.2.2.2.1.1) && decide (d.2.2.2.2.2.1.1 < (d.2.2.2.1.1.length : Int)) then (
  let x5 : Int := (isub .i64 d.2.1.1 (1 : Int))
  (T.2.1 ((d.1.1, ()), ((d.2.1.1, ()), ((), (((gd (.int .u32) d.2.2.2.1.1 d.2.2.2.2.2.1.1), ()), ((x5, ()), ((d.2.2.2.1.1, ()), ((d.2.2.2.2.1.1, ()), ((d.2.2.2.2.2.1.1, ()), ()))))))))))
  else none)
  else (
  some ((d.1.1, ()), ((), ())))
def f_octets_Put_u32_p11 (T : TT_octets_Put_u32) (d : ((List Int) × Unit) × ((Int × Unit) × (Unit × ((Int × Unit) × ((Int × Unit) × (((List Int) × Unit) × ((Int × Unit) × ((Int × Unit) × Unit)))))))) : Option (((List Int) × Unit) × (Unit × Unit)) :=
  let x6 : Bool := (decide (d.2.2.2.2.1.1 ≥ (0 : Int)))
  bif x6 then (
  let x7 : Int := (iconv .u64 d.2.2.2.1.1)
  let x8 : Int := (imul .i64 (8 : Int) d.2.2.2.2.1.1)
  bif decide (x8 < 0) then (
  none)
  else (
  let x9 : Int := (ishr .u64 x7 x8)
  let x10 : Int := (iconv .u8 x9)
  let x11 : (List Int) := ([x10] : List Int)
  bif decide (((d.1.1.length + x11.length) * 1 : Nat) ≤ 140737488355328) && decide (d.1.1.length + x11.length ≤ 9223372036854775807) then (
  let x12 : (List Int) := (d.1.1 ++ x11)
  let x13 : Int := (isub .i64 d.2.2.2.2.1.1 (1 : Int))
  (T.2.1 ((x12, ()), ((d.2.1.1, ()), ((), ((d.2.2.2.1.1, ()), ((x13, ()), ((d.2.2.2.2.2.1.1, ()), ((d.2.2.2.2.2.2.1.1, ()), ((d.2.2.2.2.2.2.2.1.1, ()), ()))))))))))
  else none))
  else (
  let x14 : Int := (iadd .i64 d.2.2.2.2.2.2.2.1.1 (1 : Int))
  (T.1 ((d.1.1, ()), ((d.2.1.1, ()), ((), ((d.2.2.2.2.2.1.1, ()), ((d.2.2.2.2.2.2.1.1, ()), ((x14, ()), ()))))))))
def f_octets_Put_u32_t : Nat → TT_octets_Put_u32
  | 0 => (fun _ => none, (fun _ => none, ()))
  | k + 1 => (f_octets_Put_u32_p5 (f_octets_Put_u32_t k), (f_octets_Put_u32_p11 (f_octets_Put_u32_t k), ()))
theorem t_octets_Put_u32 (k : Nat) : f_octets_Put_u32_t (k + 1) = (f_octets_Put_u32_p5 (f_octets_Put_u32_t k), (f_octets_Put_u32_p11 (f_octets_Put_u32_t k), ())) := rfl
def f_octets_Put_u32_m (T : TT_octets_Put_u32) (d : Unit × (((List Int) × Unit) × (((List Int) × Unit) × Unit))) : Option (((List Int) × Unit) × (Unit × Unit)) :=
  (g_octets_Size_u32 ((), ())).bind fun x1 =>
  (g_slices_Clone_byte_byte ((), ((d.2.1.1, ()), ()))).bind fun x2 =>
  let x3 : Int := (d.2.2.1.1.length : Int)
  (T.1 ((x2.1.1, ()), ((x1.2.1.1, ()), ((), ((d.2.2.1.1, ()), ((x3, ()), (((0 : Int), ()), ())))))))
def c_octets_Put_u32 : List Nat := []
def L_octets_Put_u32 (k : Nat) : Pts po_octets_Put_u32.den := [(5, ⟨sh_octets_Put_u32_5, (f_octets_Put_u32_t k).1⟩), (11, ⟨sh_octets_Put_u32_11, (f_octets_Put_u32_t k).2.1⟩)]
def R_octets_Put_u32 (_ : Nat) : PtsR po_octets_Put_u32.den := []
def E_octets_Put_u32 : Env := ((E0.add 44 (typedSem pi_octets_Size_u32 po_octets_Size_u32 g_octets_Size_u32)).add 90 (typedSem pi_slices_Clone_byte_byte po_slices_Clone_byte_byte g_slices_Clone_byte_byte))
theorem q_octets_Put_u32_5 (k : Nat) (d : ((List Int) × Unit) × ((Int × Unit) × (Unit × (((List Int) × Unit) × ((Int × Unit) × ((Int × Unit) × Unit)))))) : evAt E_octets_Put_u32 (tb (L_octets_Put_u32 k) (R_octets_Put_u32 k)) c_octets_Put_u32 5 (bodyOf Try.f61) 0 (finK E_octets_Put_u32 po_octets_Put_u32 [.tmp 4]) (ptSt sh_octets_Put_u32_5 d) = f_octets_Put_u32_p5 (f_octets_Put_u32_t k) d := by kernel_rfl
theorem q_octets_Put_u32_11 (k : Nat) (d : ((List Int) × Unit) × ((Int × Unit) × (Unit × ((Int × Unit) × ((Int × Unit) × (((List Int) × Unit) × ((Int × Unit) × ((Int × Unit) × Unit)))))))) : evAt E_octets_Put_u32 (tb (L_octets_Put_u32 k) (R_octets_Put_u32 k)) c_octets_Put_u32 11 (bodyOf Try.f61) 0 (finK E_octets_Put_u32 po_octets_Put_u32 [.tmp 4]) (ptSt sh_octets_Put_u32_11 d) = f_octets_Put_u32_p11 (f_octets_Put_u32_t k) d := by kernel_rfl
theorem q_octets_Put_u32_m (k : Nat) (d : Unit × (((List Int) × Unit) × (((List Int) × Unit) × Unit))) : evCode E_octets_Put_u32 (tb (L_octets_Put_u32 k) (R_octets_Put_u32 k)) c_octets_Put_u32 (bodyOf Try.f61) 0 (finK E_octets_Put_u32 po_octets_Put_u32 [.tmp 4]) (startSt pi_octets_Put_u32 36 d) = f_octets_Put_u32_m (f_octets_Put_u32_t k) d := by kernel_rfl
theorem go_octets_Put_u32 (F : Unit × (((List Int) × Unit) × (((List Int) × Unit) × Unit)) → Option (((List Int) × Unit) × (Unit × Unit))) (hF : ∀ d out, F d = some out → ∃ k, f_octets_Put_u32_m (f_octets_Put_u32_t k) d = some out) : FnOk Try.prog ET0 61 pi_octets_Put_u32 po_octets_Put_u32 F :=
  fn_of_body (E := E_octets_Put_u32) (envOk_add (envOk_add e0_ok (typed_ok ok_octets_Size_u32)) (typed_ok ok_slices_Clone_byte_byte)) (fn := Try.f61) Try.func61 (by kernel_rfl) (by kernel_rfl) [.tmp 4] (by kernel_rfl) (by kernel_rfl) (by decide) rfl c_octets_Put_u32 L_octets_Put_u32 R_octets_Put_u32
    (by intro x hx d; simp only [L_octets_Put_u32, List.mem_cons, List.not_mem_nil, or_false] at hx; rcases hx with rfl | rfl; rfl; rfl)
    (by intro k x hx d out h; simp only [L_octets_Put_u32, List.mem_cons, List.not_mem_nil, or_false] at hx; rcases hx with rfl | rfl; exact (q_octets_Put_u32_5 k d).trans h; exact (q_octets_Put_u32_11 k d).trans h)
    (by intro x hx; cases hx)
    (by intro k x hx; cases hx)
    (by intro d out h; obtain ⟨k, hk⟩ := hF d out h; exact ⟨k, (q_octets_Put_u32_m k d).trans hk⟩)
def g_octets_Put_u32 (d : Unit × (((List Int) × Unit) × (((List Int) × Unit) × Unit))) : Option (((List Int) × Unit) × (Unit × Unit)) := lim fun k => f_octets_Put_u32_m (f_octets_Put_u32_t k) d
theorem ok_octets_Put_u32 : FnOk Try.prog ET0 61 pi_octets_Put_u32 po_octets_Put_u32 g_octets_Put_u32 := go_octets_Put_u32 g_octets_Put_u32 fun d out h => lim_some h

/- horologe/era.Fold[uint32] -/
@[reducible] def pi_era_Fold_u32 : PSh := ⟨[], [.mk false [.v (.int .i64)]]⟩
@[reducible] def po_era_Fold_u32 : PSh := ⟨[], [.mk false [.v (.int .u32)]]⟩
def f_era_Fold_u32_m (T : Unit) (d : Unit × ((Int × Unit) × Unit)) : Option (Unit × ((Int × Unit) × Unit)) :=
  let x1 : Int := (iconv .u32 d.2.1.1)
  some ((), ((x1, ()), ()))
def c_era_Fold_u32 : List Nat := []
def L_era_Fold_u32 (_ : Nat) : Pts po_era_Fold_u32.den := []
def R_era_Fold_u32 (_ : Nat) : PtsR po_era_Fold_u32.den := []
def E_era_Fold_u32 : Env := E0
theorem q_era_Fold_u32_m (k : Nat) (d : Unit × ((Int × Unit) × Unit)) : evCode E_era_Fold_u32 (tb (L_era_Fold_u32 k) (R_era_Fold_u32 k)) c_era_Fold_u32 (bodyOf Try.f62) 0 (finK E_era_Fold_u32 po_era_Fold_u32 [.tmp 2]) (startSt pi_era_Fold_u32 5 d) = f_era_Fold_u32_m () d := by kernel_rfl
def g_era_Fold_u32 (d : Unit × ((Int × Unit) × Unit)) : Option (Unit × ((Int × Unit) × Unit)) := f_era_Fold_u32_m () d
theorem ok_era_Fold_u32 : FnOk Try.prog ET0 62 pi_era_Fold_u32 po_era_Fold_u32 g_era_Fold_u32 :=
  fn_of_body (E := E_era_Fold_u32) e0_ok (fn := Try.f62) Try.func62 (by kernel_rfl) (by kernel_rfl) [.tmp 2] (by kernel_rfl) (by kernel_rfl) (by decide) rfl c_era_Fold_u32 L_era_Fold_u32 R_era_Fold_u32
    (by intro x hx; cases hx) (by intro k x hx; cases hx) (by intro x hx; cases hx) (by intro k x hx; cases hx) (fun d out h => ⟨0, (q_era_Fold_u32_m 0 d).trans h⟩)

/- horologe/word.Put -/
@[reducible] def pi_word_Put : PSh := ⟨[], [.mk false [.v (.int .i64)]]⟩
@[reducible] def po_word_Put : PSh := ⟨[.row 5 (.int .u8)], [.mk false [.osl 0], .mk false [.v .err]]⟩
def f_word_Put_m (T : Unit) (d : Unit × ((Int × Unit) × Unit)) : Option (((List Int) × Unit) × (Unit × (((Option Int) × Unit) × Unit))) :=
  (g_stamp_FromPosix ((), ((d.2.1.1, ()), ()))).bind fun x1 =>
  let x2 : Bool := (!x1.2.2.1.1.isNone)
  bif x2 then (
  some ((([] : List Int), ()), ((), ((x1.2.2.1.1, ()), ()))))
  else (
  (g_era_Fold_u32 ((), ((x1.2.1.1, ()), ()))).bind fun x3 =>
  let x4 : (List Int) := ([x3.2.1.1] : List Int)
  (g_octets_Put_u32 ((), ((([] : List Int), ()), ((x4, ()), ())))).bind fun x5 =>
  some ((x5.1.1, ()), ((), (((none : Option Int), ()), ()))))
def c_word_Put : List Nat := []
def L_word_Put (_ : Nat) : Pts po_word_Put.den := []
def R_word_Put (_ : Nat) : PtsR po_word_Put.den := []
def E_word_Put : Env := (((E0.add 45 (typedSem pi_stamp_FromPosix po_stamp_FromPosix g_stamp_FromPosix)).add 61 (typedSem pi_octets_Put_u32 po_octets_Put_u32 g_octets_Put_u32)).add 62 (typedSem pi_era_Fold_u32 po_era_Fold_u32 g_era_Fold_u32))
theorem q_word_Put_m (k : Nat) (d : Unit × ((Int × Unit) × Unit)) : evCode E_word_Put (tb (L_word_Put k) (R_word_Put k)) c_word_Put (bodyOf Try.f42) 0 (finK E_word_Put po_word_Put [.tmp 2, .tmp 3]) (startSt pi_word_Put 18 d) = f_word_Put_m () d := by kernel_rfl
def g_word_Put (d : Unit × ((Int × Unit) × Unit)) : Option (((List Int) × Unit) × (Unit × (((Option Int) × Unit) × Unit))) := f_word_Put_m () d
theorem ok_word_Put : FnOk Try.prog ET0 42 pi_word_Put po_word_Put g_word_Put :=
  fn_of_body (E := E_word_Put) (envOk_add (envOk_add (envOk_add e0_ok (typed_ok ok_stamp_FromPosix)) (typed_ok ok_octets_Put_u32)) (typed_ok ok_era_Fold_u32)) (fn := Try.f42) Try.func42 (by kernel_rfl) (by kernel_rfl) [.tmp 2, .tmp 3] (by kernel_rfl) (by kernel_rfl) (by decide) rfl c_word_Put L_word_Put R_word_Put
    (by intro x hx; cases hx) (by intro k x hx; cases hx) (by intro x hx; cases hx) (by intro k x hx; cases hx) (fun d out h => ⟨0, (q_word_Put_m 0 d).trans h⟩)

/- horologe/horologelaw27.alive -/
@[reducible] def pi_law27_alive : PSh := ⟨[], []⟩
@[reducible] def po_law27_alive : PSh := ⟨[], [.mk false [.v .bool]]⟩
def f_law27_alive_m (T : Unit) (d : Unit × Unit) : Option (Unit × ((Bool × Unit) × Unit)) :=
  (g_word_Put ((), (((0 : Int), ()), ()))).bind fun x1 =>
  bif x1.2.2.1.1.isNone then (
  let x2 : Int := (x1.1.1.length : Int)
  let x3 : Bool := (x2 == (4 : Int))
  bif x3 then (
  bif decide ((0 : Int) ≤ (0 : Int)) && decide ((0 : Int) < (x1.1.1.length : Int)) then (
  let x4 : Bool := ((gd (.int .u8) x1.1.1 (0 : Int)) == (131 : Int))
  bif x4 then (
  bif decide ((0 : Int) ≤ (1 : Int)) && decide ((1 : Int) < (x1.1.1.length : Int)) then (
  let x5 : Bool := ((gd (.int .u8) x1.1.1 (1 : Int)) == (170 : Int))
  bif x5 then (
  bif decide ((0 : Int) ≤ (2 : Int)) && decide ((2 : Int) < (x1.1.1.length : Int)) then (
  let x6 : Bool := ((gd (.int .u8) x1.1.1 (2 : Int)) == (126 : Int))
  bif x6 then (
  bif decide ((0 : Int) ≤ (3 : Int)) && decide ((3 : Int) < (x1.1.1.length : Int)) then (
  let x7 : Bool := ((gd (.int .u8) x1.1.1 (3 : Int)) == (128 : Int))
  some ((), ((x7, ()), ())))
  else none)
  else (
  some ((), ((false, ()), ()))))
  else none)
  else (
  some ((), ((false, ()), ()))))
  else none)
  else (
  some ((), ((false, ()), ()))))
  else none)
  else (
  some ((), ((false, ()), ()))))
  else (
  some ((), ((false, ()), ())))
def c_law27_alive : List Nat := []
def L_law27_alive (_ : Nat) : Pts po_law27_alive.den := []
def R_law27_alive (_ : Nat) : PtsR po_law27_alive.den := []
def E_law27_alive : Env := (E0.add 42 (typedSem pi_word_Put po_word_Put g_word_Put))
theorem q_law27_alive_m (k : Nat) (d : Unit × Unit) : evCode E_law27_alive (tb (L_law27_alive k) (R_law27_alive k)) c_law27_alive (bodyOf Try.f14) 0 (finK E_law27_alive po_law27_alive [.tmp 0]) (startSt pi_law27_alive 38 d) = f_law27_alive_m () d := by kernel_rfl
def g_law27_alive (d : Unit × Unit) : Option (Unit × ((Bool × Unit) × Unit)) := f_law27_alive_m () d
theorem ok_law27_alive : FnOk Try.prog ET0 14 pi_law27_alive po_law27_alive g_law27_alive :=
  fn_of_body (E := E_law27_alive) (envOk_add e0_ok (typed_ok ok_word_Put)) (fn := Try.f14) Try.func14 (by kernel_rfl) (by kernel_rfl) [.tmp 0] (by kernel_rfl) (by kernel_rfl) (by decide) rfl c_law27_alive L_law27_alive R_law27_alive
    (by intro x hx; cases hx) (by intro k x hx; cases hx) (by intro x hx; cases hx) (by intro k x hx; cases hx) (fun d out h => ⟨0, (q_law27_alive_m 0 d).trans h⟩)

/- horologe/octets.from -/
@[reducible] def pi_octets_from : PSh := ⟨[], [.mk false [.v (.sl (.int .u8))], .mk false [.v (.int .i64)], .mk false [.v (.int .i64)]]⟩
@[reducible] def po_octets_from : PSh := ⟨[], [.mk false [.v (.sl (.int .u8))], .mk false [.v .err]]⟩
def f_octets_from_m (T : Unit) (d : Unit × (((List Int) × Unit) × ((Int × Unit) × ((Int × Unit) × Unit)))) : Option (Unit × (((List Int) × Unit) × (((Option Int) × Unit) × Unit))) :=
  let x1 : Bool := (decide (d.2.2.1.1 < (0 : Int)))
  bif x1 then (
  let x2 : (Option Int) := (some (1 : Int))
  some ((), ((([] : List Int), ()), ((x2, ()), ()))))
  else (
  let x3 : Int := (d.2.1.1.length : Int)
  let x4 : Bool := (decide (d.2.2.1.1 > x3))
  bif x4 then (
  let x5 : (Option Int) := (some (1 : Int))
  some ((), ((([] : List Int), ()), ((x5, ()), ()))))
  else (
  let x6 : Bool := (decide (d.2.2.2.1.1 < (0 : Int)))
  bif x6 then (
  let x7 : (Option Int) := (some (1 : Int))
  some ((), ((([] : List Int), ()), ((x7, ()), ()))))
  else (
  let x8 : Int := (d.2.1.1.length : Int)
  let x9 : Int := (isub .i64 x8 d.2.2.1.1)
  let x10 : Bool := (decide (d.2.2.2.1.1 > x9))
  bif x10 then (
  let x11 : (Option Int) := (some (4 : Int))
  some ((), ((([] : List Int), ()), ((x11, ()), ()))))
  else (
  let x12 : Int := (iadd .i64 d.2.2.1.1 d.2.2.2.1.1)
  bif decide ((0 : Int) ≤ d.2.2.1.1) && decide (d.2.2.1.1 ≤ x12) && decide (x12 ≤ (d.2.1.1.length : Int)) then (
  let x13 : (List Int) := (List.drop (Int.toNat d.2.2.1.1) (List.take (Int.toNat x12) d.2.1.1))
  some ((), ((x13, ()), (((none : Option Int), ()), ()))))
  else none))))
def c_octets_from : List Nat := []
def L_octets_from (_ : Nat) : Pts po_octets_from.den := []
def R_octets_from (_ : Nat) : PtsR po_octets_from.den := []
def E_octets_from : Env := E0
theorem q_octets_from_m (k : Nat) (d : Unit × (((List Int) × Unit) × ((Int × Unit) × ((Int × Unit) × Unit)))) : evCode E_octets_from (tb (L_octets_from k) (R_octets_from k)) c_octets_from (bodyOf Try.f63) 0 (finK E_octets_from po_octets_from [.tmp 6, .tmp 7]) (startSt pi_octets_from 36 d) = f_octets_from_m () d := by kernel_rfl
def g_octets_from (d : Unit × (((List Int) × Unit) × ((Int × Unit) × ((Int × Unit) × Unit)))) : Option (Unit × (((List Int) × Unit) × (((Option Int) × Unit) × Unit))) := f_octets_from_m () d
theorem ok_octets_from : FnOk Try.prog ET0 63 pi_octets_from po_octets_from g_octets_from :=
  fn_of_body (E := E_octets_from) e0_ok (fn := Try.f63) Try.func63 (by kernel_rfl) (by kernel_rfl) [.tmp 6, .tmp 7] (by kernel_rfl) (by kernel_rfl) (by decide) rfl c_octets_from L_octets_from R_octets_from
    (by intro x hx; cases hx) (by intro k x hx; cases hx) (by intro x hx; cases hx) (by intro k x hx; cases hx) (fun d out h => ⟨0, (q_octets_from_m 0 d).trans h⟩)

/- horologe/octets.word[uint32] -/
@[reducible] def pi_octets_word_u32 : PSh := ⟨[], [.mk false [.v (.sl (.int .u8))]]⟩
@[reducible] def po_octets_word_u32 : PSh := ⟨[], [.mk false [.v (.int .u32)]]⟩
@[reducible] def TT_octets_word_u32 : Type := (((Unit × ((Int × Unit) × (((List Int) × Unit) × ((Int × Unit) × ((Int × Unit) × Unit))))) → Option (Unit × ((Int × Unit) × Unit))) × Unit)
@[reducible] def sh_octets_word_u32_4 : PSh := ⟨[], [.any, .any, .any, .mk false [.v (.int .u64)], .any, .any, .mk false [.v (.sl (.int .u8))], .mk false [.v (.int .i64)], .mk false [.v (.int .i64)], .any, .any, .any, .any, .any, .any, .any, .any, .any, .any, .any]⟩
def f_octets_word_u32_p4 (T : TT_octets_word_u32) (d : Unit × ((Int × Unit) × (((List Int) × Unit) × ((Int × Unit) × ((Int × Unit) × Unit))))) : Option (Unit × ((Int × Unit) × Unit)) :=
  let x2 : Bool := (decide (d.2.2.2.2.1.1 < d.2.2.2.1.1))
  bif x2 then (
  bif decide ((0 : Int) ≤ d.2.2.2.2.1.1) && decide (d.2.2.2.2.1.1 < (d.2.2.1.1.length : Int)) then (
  let x3 : Int := (ishl .u64 d.2.1.1 (8 : Int))
  let x4 : Int := (iconv .u64 (gd (.int .u8) d.2.2.1.1 d.2.2.2.2.1.1))
  let x5 : Int := (ior .u64 x3 x4)
  let x6 : Int := (iadd .i64 d.2.2.2.2.1.1 (1 : Int))
  (T.1 ((), ((x5, ()), ((d.2.2.1.1, ()), ((d.2.2.2.1.1, ()), ((x6, ()), ())))))))
  else none)
  else (
  let x7 : Int := (iconv .u32 d.2.1.1)
  some ((), ((x7, ()), ())))
def f_octets_word_u32_t : Nat → TT_octets_word_u32
  | 0 => (fun _ => none, ())
  | k + 1 => (f_octets_word_u32_p4 (f_octets_word_u32_t k), ())
theorem t_octets_word_u32 (k : Nat) : f_octets_word_u32_t (k + 1) = (f_octets_word_u32_p4 (f_octets_word_u32_t k), ()) := rfl
def f_octets_word_u32_m (T : TT_octets_word_u32) (d : Unit × (((List Int) × Unit) × Unit)) : Option (Unit × ((Int × Unit) × Unit)) :=
  let x1 : Int := (d.2.1.1.length : Int)
  (T.1 ((), (((0 : Int), ()), ((d.2.1.1, ()), ((x1, ()), (((0 : Int), ()), ()))))))
def c_octets_word_u32 : List Nat := []
def L_octets_word_u32 (k : Nat) : Pts po_octets_word_u32.den := [(4, ⟨sh_octets_word_u32_4, (f_octets_word_u32_t k).1⟩)]
def R_octets_word_u32 (_ : Nat) : PtsR po_octets_word_u32.den := []
def E_octets_word_u32 : Env := E0
theorem q_octets_word_u32_4 (k : Nat) (d : Unit × ((Int × Unit) × (((List Int) × Unit) × ((Int × Unit) × ((Int × Unit) × Unit))))) : evAt E_octets_word_u32 (tb (L_octets_word_u32 k) (R_octets_word_u32 k)) c_octets_word_u32 4 (bodyOf Try.f64) 0 (finK E_octets_word_u32 po_octets_word_u32 [.tmp 2]) (ptSt sh_octets_word_u32_4 d) = f_octets_word_u32_p4 (f_octets_word_u32_t k) d := by kernel_rfl
theorem q_octets_word_u32_m (k : Nat) (d : Unit × (((List Int) × Unit) × Unit)) : evCode E_octets_word_u32 (tb (L_octets_word_u32 k) (R_octets_word_u32 k)) c_octets_word_u32 (bodyOf Try.f64) 0 (finK E_octets_word_u32 po_octets_word_u32 [.tmp 2]) (startSt pi_octets_word_u32 20 d) = f_octets_word_u32_m (f_octets_word_u32_t k) d := by kernel_rfl
theorem go_octets_word_u32 (F : Unit × (((List Int) × Unit) × Unit) → Option (Unit × ((Int × Unit) × Unit))) (hF : ∀ d out, F d = some out → ∃ k, f_octets_word_u32_m (f_octets_word_u32_t k) d = some out) : FnOk Try.prog ET0 64 pi_octets_word_u32 po_octets_word_u32 F :=
  fn_of_body (E := E_octets_word_u32) e0_ok (fn := Try.f64) Try.func64 (by kernel_rfl) (by kernel_rfl) [.tmp 2] (by kernel_rfl) (by kernel_rfl) (by decide) rfl c_octets_word_u32 L_octets_word_u32 R_octets_word_u32
    (by intro x hx d; simp only [L_octets_word_u32, List.mem_cons, List.not_mem_nil, or_false] at hx; subst hx; rfl)
    (by intro k x hx d out h; simp only [L_octets_word_u32, List.mem_cons, List.not_mem_nil, or_false] at hx; subst hx; exact (q_octets_word_u32_4 k d).trans h)
    (by intro x hx; cases hx)
    (by intro k x hx; cases hx)
    (by intro d out h; obtain ⟨k, hk⟩ := hF d out h; exact ⟨k, (q_octets_word_u32_m k d).trans hk⟩)
def g_octets_word_u32 (d : Unit × (((List Int) × Unit) × Unit)) : Option (Unit × ((Int × Unit) × Unit)) := lim fun k => f_octets_word_u32_m (f_octets_word_u32_t k) d
theorem ok_octets_word_u32 : FnOk Try.prog ET0 64 pi_octets_word_u32 po_octets_word_u32 g_octets_word_u32 := go_octets_word_u32 g_octets_word_u32 fun d out h => lim_some h

/- horologe/octets.Get[uint32] -/
@[reducible] def pi_octets_Get_u32 : PSh := ⟨[], [.mk false [.v (.sl (.int .u8))], .mk false [.v (.int .i64)]]⟩
@[reducible] def po_octets_Get_u32 : PSh := ⟨[], [.mk false [.v (.int .u32)], .mk false [.v .err]]⟩
def f_octets_Get_u32_m (T : Unit) (d : Unit × (((List Int) × Unit) × ((Int × Unit) × Unit))) : Option (Unit × ((Int × Unit) × (((Option Int) × Unit) × Unit))) :=
  (g_octets_Size_u32 ((), ())).bind fun x1 =>
  (g_octets_from ((), ((d.2.1.1, ()), ((d.2.2.1.1, ()), ((x1.2.1.1, ()), ()))))).bind fun x2 =>
  let x3 : Bool := (!x2.2.2.1.1.isNone)
  bif x3 then (
  some ((), (((0 : Int), ()), ((x2.2.2.1.1, ()), ()))))
  else (
  (g_octets_word_u32 ((), ((x2.2.1.1, ()), ()))).bind fun x4 =>
  some ((), ((x4.2.1.1, ()), (((none : Option Int), ()), ()))))
def c_octets_Get_u32 : List Nat := []
def L_octets_Get_u32 (_ : Nat) : Pts po_octets_Get_u32.den := []
def R_octets_Get_u32 (_ : Nat) : PtsR po_octets_Get_u32.den := []
def E_octets_Get_u32 : Env := (((E0.add 44 (typedSem pi_octets_Size_u32 po_octets_Size_u32 g_octets_Size_u32)).add 63 (typedSem pi_octets_from po_octets_from g_octets_from)).add 64 (typedSem pi_octets_word_u32 po_octets_word_u32 g_octets_word_u32))
theorem q_octets_Get_u32_m (k : Nat) (d : Unit × (((List Int) × Unit) × ((Int × Unit) × Unit))) : evCode E_octets_Get_u32 (tb (L_octets_Get_u32 k) (R_octets_Get_u32 k)) c_octets_Get_u32 (bodyOf Try.f43) 0 (finK E_octets_Get_u32 po_octets_Get_u32 [.tmp 4, .tmp 5]) (startSt pi_octets_Get_u32 20 d) = f_octets_Get_u32_m () d := by kernel_rfl
def g_octets_Get_u32 (d : Unit × (((List Int) × Unit) × ((Int × Unit) × Unit))) : Option (Unit × ((Int × Unit) × (((Option Int) × Unit) × Unit))) := f_octets_Get_u32_m () d
theorem ok_octets_Get_u32 : FnOk Try.prog ET0 43 pi_octets_Get_u32 po_octets_Get_u32 g_octets_Get_u32 :=
  fn_of_body (E := E_octets_Get_u32) (envOk_add (envOk_add (envOk_add e0_ok (typed_ok ok_octets_Size_u32)) (typed_ok ok_octets_from)) (typed_ok ok_octets_word_u32)) (fn := Try.f43) Try.func43 (by kernel_rfl) (by kernel_rfl) [.tmp 4, .tmp 5] (by kernel_rfl) (by kernel_rfl) (by decide) rfl c_octets_Get_u32 L_octets_Get_u32 R_octets_Get_u32
    (by intro x hx; cases hx) (by intro k x hx; cases hx) (by intro x hx; cases hx) (by intro k x hx; cases hx) (fun d out h => ⟨0, (q_octets_Get_u32_m 0 d).trans h⟩)

/- horologe/word.Parse -/
@[reducible] def pi_word_Parse : PSh := ⟨[], [.mk false [.v (.sl (.int .u8))]]⟩
@[reducible] def po_word_Parse : PSh := ⟨[], [.mk false [.v (.int .u32)], .mk false [.v .err]]⟩
def f_word_Parse_m (T : Unit) (d : Unit × (((List Int) × Unit) × Unit)) : Option (Unit × ((Int × Unit) × (((Option Int) × Unit) × Unit))) :=
  (g_octets_Get_u32 ((), ((d.2.1.1, ()), (((0 : Int), ()), ())))).bind fun x1 =>
  let x2 : Bool := (!x1.2.2.1.1.isNone)
  bif x2 then (
  let x3 : (Option Int) := (some (2 : Int))
  some ((), (((0 : Int), ()), ((x3, ()), ()))))
  else (
  let x4 : Int := (d.2.1.1.length : Int)
  (g_octets_Size_u32 ((), ())).bind fun x5 =>
  let x6 : Bool := (x4 != x5.2.1.1)
  bif x6 then (
  let x7 : (Option Int) := (some (2 : Int))
  some ((), (((0 : Int), ()), ((x7, ()), ()))))
  else (
  some ((), ((x1.2.1.1, ()), (((none : Option Int), ()), ())))))
def c_word_Parse : List Nat := []
def L_word_Parse (_ : Nat) : Pts po_word_Parse.den := []
def R_word_Parse (_ : Nat) : PtsR po_word_Parse.den := []
def E_word_Parse : Env := ((E0.add 43 (typedSem pi_octets_Get_u32 po_octets_Get_u32 g_octets_Get_u32)).add 44 (typedSem pi_octets_Size_u32 po_octets_Size_u32 g_octets_Size_u32))
theorem q_word_Parse_m (k : Nat) (d : Unit × (((List Int) × Unit) × Unit)) : evCode E_word_Parse (tb (L_word_Parse k) (R_word_Parse k)) c_word_Parse (bodyOf Try.f15) 0 (finK E_word_Parse po_word_Parse [.tmp 2, .tmp 3]) (startSt pi_word_Parse 21 d) = f_word_Parse_m () d := by kernel_rfl
def g_word_Parse (d : Unit × (((List Int) × Unit) × Unit)) : Option (Unit × ((Int × Unit) × (((Option Int) × Unit) × Unit))) := f_word_Parse_m () d
theorem ok_word_Parse : FnOk Try.prog ET0 15 pi_word_Parse po_word_Parse g_word_Parse :=
  fn_of_body (E := E_word_Parse) (envOk_add (envOk_add e0_ok (typed_ok ok_octets_Get_u32)) (typed_ok ok_octets_Size_u32)) (fn := Try.f15) Try.func15 (by kernel_rfl) (by kernel_rfl) [.tmp 2, .tmp 3] (by kernel_rfl) (by kernel_rfl) (by decide) rfl c_word_Parse L_word_Parse R_word_Parse
    (by intro x hx; cases hx) (by intro k x hx; cases hx) (by intro x hx; cases hx) (by intro k x hx; cases hx) (fun d out h => ⟨0, (q_word_Parse_m 0 d).trans h⟩)

/- horologe/horologenum.Is -/
@[reducible] def pi_hnum_Is : PSh := ⟨[], [.mk false [.v .err], .mk false [.v (.int .i64)]]⟩
@[reducible] def po_hnum_Is : PSh := ⟨[], [.mk false [.v .bool]]⟩
def f_hnum_Is_m (T : Unit) (d : Unit × (((Option Int) × Unit) × ((Int × Unit) × Unit))) : Option (Unit × ((Bool × Unit) × Unit)) :=
  (g_hnum_Num ((), ((d.2.1.1, ()), ()))).bind fun x1 =>
  let x2 : Bool := (x1.2.1.1 == d.2.2.1.1)
  some ((), ((x2, ()), ()))
def c_hnum_Is : List Nat := []
def L_hnum_Is (_ : Nat) : Pts po_hnum_Is.den := []
def R_hnum_Is (_ : Nat) : PtsR po_hnum_Is.den := []
def E_hnum_Is : Env := (E0.add 9 (typedSem pi_hnum_Num po_hnum_Num g_hnum_Num))
theorem q_hnum_Is_m (k : Nat) (d : Unit × (((Option Int) × Unit) × ((Int × Unit) × Unit))) : evCode E_hnum_Is (tb (L_hnum_Is k) (R_hnum_Is k)) c_hnum_Is (bodyOf Try.f16) 0 (finK E_hnum_Is po_hnum_Is [.tmp 4]) (startSt pi_hnum_Is 9 d) = f_hnum_Is_m () d := by kernel_rfl
def g_hnum_Is (d : Unit × (((Option Int) × Unit) × ((Int × Unit) × Unit))) : Option (Unit × ((Bool × Unit) × Unit)) := f_hnum_Is_m () d
theorem ok_hnum_Is : FnOk Try.prog ET0 16 pi_hnum_Is po_hnum_Is g_hnum_Is :=
  fn_of_body (E := E_hnum_Is) (envOk_add e0_ok (typed_ok ok_hnum_Num)) (fn := Try.f16) Try.func16 (by kernel_rfl) (by kernel_rfl) [.tmp 4] (by kernel_rfl) (by kernel_rfl) (by decide) rfl c_hnum_Is L_hnum_Is R_hnum_Is
    (by intro x hx; cases hx) (by intro k x hx; cases hx) (by intro x hx; cases hx) (by intro k x hx; cases hx) (fun d out h => ⟨0, (q_hnum_Is_m 0 d).trans h⟩)

/- horologe/horologeref03.Value -/
@[reducible] def pi_ref03_Value : PSh := ⟨[], [.mk false [.v (.sl (.int .u8))]]⟩
@[reducible] def po_ref03_Value : PSh := ⟨[], [.mk false [.v (.int .u64)]]⟩
@[reducible] def TT_ref03_Value : Type := (((Unit × (((List Int) × Unit) × ((Int × Unit) × ((Int × Unit) × Unit)))) → Option (Unit × ((Int × Unit) × Unit))) × Unit)
@[reducible] def sh_ref03_Value_4 : PSh := ⟨[], [.mk false [.v (.sl (.int .u8))], .any, .any, .mk false [.v (.int .u64)], .mk false [.v (.int .i64)], .any, .any, .any, .any, .any, .any, .any, .any, .any, .any, .any, .any, .any, .any, .any]⟩
def f_ref03_Value_p4 (T : TT_ref03_Value) (d : Unit × (((List Int) × Unit) × ((Int × Unit) × ((Int × Unit) × Unit)))) : Option (Unit × ((Int × Unit) × Unit)) :=
  let x1 : Int := (d.2.1.1.length : Int)
  let x2 : Bool := (decide (d.2.2.2.1.1 < x1))
  bif x2 then (
  let x3 : Int := (imul .u64 d.2.2.1.1 (256 : Int))
  bif decide ((0 : Int) ≤ d.2.2.2.1.1) && decide (d.2.2.2.1.1 < (d.2.1.1.length : Int)) then (
  let x4 : Int := (iconv .u64 (gd (.int .u8) d.2.1.1 d.2.2.2.1.1))
  let x5 : Int := (iadd .u64 x3 x4)
  let x6 : Int := (iadd .i64 d.2.2.2.1.1 (1 : Int))
  (T.1 ((), ((d.2.1.1, ()), ((x5, ()), ((x6, ()), ()))))))
  else none)
  else (
  some ((), ((d.2.2.1.1, ()), ())))
def f_ref03_Value_t : Nat → TT_ref03_Value
  | 0 => (fun _ => none, ())
  | k + 1 => (f_ref03_Value_p4 (f_ref03_Value_t k), ())
theorem t_ref03_Value (k : Nat) : f_ref03_Value_t (k + 1) = (f_ref03_Value_p4 (f_ref03_Value_t k), ()) := rfl
def f_ref03_Value_m (T : TT_ref03_Value) (d : Unit × (((List Int) × Unit) × Unit)) : Option (Unit × ((Int × Unit) × Unit)) :=
  (T.1 ((), ((d.2.1.1, ()), (((0 : Int), ()), (((0 : Int), ()), ())))))
def c_ref03_Value : List Nat := []
def L_ref03_Value (k : Nat) : Pts po_ref03_Value.den := [(4, ⟨sh_ref03_Value_4, (f_ref03_Value_t k).1⟩)]
def R_ref03_Value (_ : Nat) : PtsR po_ref03_Value.den := []
def E_ref03_Value : Env := E0
theorem q_ref03_Value_4 (k : Nat) (d : Unit × (((List Int) × Unit) × ((Int × Unit) × ((Int × Unit) × Unit)))) : evAt E_ref03_Value (tb (L_ref03_Value k) (R_ref03_Value k)) c_ref03_Value 4 (bodyOf Try.f17) 0 (finK E_ref03_Value po_ref03_Value [.tmp 2]) (ptSt sh_ref03_Value_4 d) = f_ref03_Value_p4 (f_ref03_Value_t k) d := by kernel_rfl
theorem q_ref03_Value_m (k : Nat) (d : Unit × (((List Int) × Unit) × Unit)) : evCode E_ref03_Value (tb (L_ref03_Value k) (R_ref03_Value k)) c_ref03_Value (bodyOf Try.f17) 0 (finK E_ref03_Value po_ref03_Value [.tmp 2]) (startSt pi_ref03_Value 20 d) = f_ref03_Value_m (f_ref03_Value_t k) d := by kernel_rfl
theorem go_ref03_Value (F : Unit × (((List Int) × Unit) × Unit) → Option (Unit × ((Int × Unit) × Unit))) (hF : ∀ d out, F d = some out → ∃ k, f_ref03_Value_m (f_ref03_Value_t k) d = some out) : FnOk Try.prog ET0 17 pi_ref03_Value po_ref03_Value F :=
  fn_of_body (E := E_ref03_Value) e0_ok (fn := Try.f17) Try.func17 (by kernel_rfl) (by kernel_rfl) [.tmp 2] (by kernel_rfl) (by kernel_rfl) (by decide) rfl c_ref03_Value L_ref03_Value R_ref03_Value
    (by intro x hx d; simp only [L_ref03_Value, List.mem_cons, List.not_mem_nil, or_false] at hx; subst hx; rfl)
    (by intro k x hx d out h; simp only [L_ref03_Value, List.mem_cons, List.not_mem_nil, or_false] at hx; subst hx; exact (q_ref03_Value_4 k d).trans h)
    (by intro x hx; cases hx)
    (by intro k x hx; cases hx)
    (by intro d out h; obtain ⟨k, hk⟩ := hF d out h; exact ⟨k, (q_ref03_Value_m k d).trans hk⟩)
def g_ref03_Value (d : Unit × (((List Int) × Unit) × Unit)) : Option (Unit × ((Int × Unit) × Unit)) := lim fun k => f_ref03_Value_m (f_ref03_Value_t k) d
theorem ok_ref03_Value : FnOk Try.prog ET0 17 pi_ref03_Value po_ref03_Value g_ref03_Value := go_ref03_Value g_ref03_Value fun d out h => lim_some h

/- horologe/era.right -/
@[reducible] def pi_era_right : PSh := ⟨[], [.mk false [.v (.int .i64)]]⟩
@[reducible] def po_era_right : PSh := ⟨[], [.mk false [.v .bool]]⟩
def f_era_right_m (T : Unit) (d : Unit × ((Int × Unit) × Unit)) : Option (Unit × ((Bool × Unit) × Unit)) :=
  let x1 : Bool := (decide (d.2.1.1 ≥ (1 : Int)))
  bif x1 then (
  let x2 : Bool := (decide (d.2.1.1 ≤ (62 : Int)))
  some ((), ((x2, ()), ())))
  else (
  some ((), ((false, ()), ())))
def c_era_right : List Nat := []
def L_era_right (_ : Nat) : Pts po_era_right.den := []
def R_era_right (_ : Nat) : PtsR po_era_right.den := []
def E_era_right : Env := E0
theorem q_era_right_m (k : Nat) (d : Unit × ((Int × Unit) × Unit)) : evCode E_era_right (tb (L_era_right k) (R_era_right k)) c_era_right (bodyOf Try.f91) 0 (finK E_era_right po_era_right [.tmp 2]) (startSt pi_era_right 9 d) = f_era_right_m () d := by kernel_rfl
def g_era_right (d : Unit × ((Int × Unit) × Unit)) : Option (Unit × ((Bool × Unit) × Unit)) := f_era_right_m () d
theorem ok_era_right : FnOk Try.prog ET0 91 pi_era_right po_era_right g_era_right :=
  fn_of_body (E := E_era_right) e0_ok (fn := Try.f91) Try.func91 (by kernel_rfl) (by kernel_rfl) [.tmp 2] (by kernel_rfl) (by kernel_rfl) (by decide) rfl c_era_right L_era_right R_era_right
    (by intro x hx; cases hx) (by intro k x hx; cases hx) (by intro x hx; cases hx) (by intro k x hx; cases hx) (fun d out h => ⟨0, (q_era_right_m 0 d).trans h⟩)

/- horologe/era.mask -/
@[reducible] def pi_era_mask : PSh := ⟨[], [.mk false [.v (.int .i64)]]⟩
@[reducible] def po_era_mask : PSh := ⟨[], [.mk false [.v (.int .u64)]]⟩
def f_era_mask_m (T : Unit) (d : Unit × ((Int × Unit) × Unit)) : Option (Unit × ((Int × Unit) × Unit)) :=
  bif decide (d.2.1.1 < 0) then (
  none)
  else (
  let x1 : Int := (ishl .u64 (1 : Int) d.2.1.1)
  let x2 : Int := (isub .u64 x1 (1 : Int))
  some ((), ((x2, ()), ())))
def c_era_mask : List Nat := []
def L_era_mask (_ : Nat) : Pts po_era_mask.den := []
def R_era_mask (_ : Nat) : PtsR po_era_mask.den := []
def E_era_mask : Env := E0
theorem q_era_mask_m (k : Nat) (d : Unit × ((Int × Unit) × Unit)) : evCode E_era_mask (tb (L_era_mask k) (R_era_mask k)) c_era_mask (bodyOf Try.f92) 0 (finK E_era_mask po_era_mask [.tmp 2]) (startSt pi_era_mask 6 d) = f_era_mask_m () d := by kernel_rfl
def g_era_mask (d : Unit × ((Int × Unit) × Unit)) : Option (Unit × ((Int × Unit) × Unit)) := f_era_mask_m () d
theorem ok_era_mask : FnOk Try.prog ET0 92 pi_era_mask po_era_mask g_era_mask :=
  fn_of_body (E := E_era_mask) e0_ok (fn := Try.f92) Try.func92 (by kernel_rfl) (by kernel_rfl) [.tmp 2] (by kernel_rfl) (by kernel_rfl) (by decide) rfl c_era_mask L_era_mask R_era_mask
    (by intro x hx; cases hx) (by intro k x hx; cases hx) (by intro x hx; cases hx) (by intro k x hx; cases hx) (fun d out h => ⟨0, (q_era_mask_m 0 d).trans h⟩)

/- horologe/era.Bits -/
@[reducible] def pi_era_Bits : PSh := ⟨[], [.mk false [.v (.int .u64)], .mk false [.v (.int .i64)], .mk false [.v (.int .i64)]]⟩
@[reducible] def po_era_Bits : PSh := ⟨[], [.mk false [.v (.int .i64)], .mk false [.v .err]]⟩
def f_era_Bits_m (T : Unit) (d : Unit × ((Int × Unit) × ((Int × Unit) × ((Int × Unit) × Unit)))) : Option (Unit × ((Int × Unit) × (((Option Int) × Unit) × Unit))) :=
  (g_era_right ((), ((d.2.2.1.1, ()), ()))).bind fun x1 =>
  let x2 : Bool := (!x1.2.1.1)
  bif x2 then (
  let x3 : (Option Int) := (some (1 : Int))
  some ((), (((0 : Int), ()), ((x3, ()), ()))))
  else (
  (g_era_mask ((), ((d.2.2.1.1, ()), ()))).bind fun x4 =>
  let x5 : Bool := (decide (d.2.1.1 > x4.2.1.1))
  bif x5 then (
  let x6 : (Option Int) := (some (1 : Int))
  some ((), (((0 : Int), ()), ((x6, ()), ()))))
  else (
  let x7 : Int := (iconv .u64 d.2.2.2.1.1)
  let x8 : Int := (isub .u64 d.2.1.1 x7)
  (g_era_mask ((), ((d.2.2.1.1, ()), ()))).bind fun x9 =>
  let x10 : Int := (iand .u64 x8 x9.2.1.1)
  let x11 : Int := (iconv .i64 x10)
  let x12 : Int := (isub .i64 d.2.2.1.1 (1 : Int))
  bif decide (x12 < 0) then (
  none)
  else (
  let x13 : Int := (ishl .i64 (1 : Int) x12)
  let x14 : Bool := (decide (x11 ≥ x13))
  bif x14 then (
  bif decide (d.2.2.1.1 < 0) then (
  none)
  else (
  let x15 : Int := (ishl .i64 (1 : Int) d.2.2.1.1)
  let x16 : Int := (isub .i64 x11 x15)
  (g_num_Add ((), ((d.2.2.2.1.1, ()), ((x16, ()), ())))).bind fun x17 =>
  some ((), ((x17.2.1.1, ()), ((x17.2.2.1.1, ()), ())))))
  else (
  (g_num_Add ((), ((d.2.2.2.1.1, ()), ((x11, ()), ())))).bind fun x18 =>
  some ((), ((x18.2.1.1, ()), ((x18.2.2.1.1, ()), ())))))))
def c_era_Bits : List Nat := []
def L_era_Bits (_ : Nat) : Pts po_era_Bits.den := []
def R_era_Bits (_ : Nat) : PtsR po_era_Bits.den := []
def E_era_Bits : Env := (((E0.add 65 (typedSem pi_num_Add po_num_Add g_num_Add)).add 91 (typedSem pi_era_right po_era_right g_era_right)).add 92 (typedSem pi_era_mask po_era_mask g_era_mask))
theorem q_era_Bits_m (k : Nat) (d : Unit × ((Int × Unit) × ((Int × Unit) × ((Int × Unit) × Unit)))) : evCode E_era_Bits (tb (L_era_Bits k) (R_era_Bits k)) c_era_Bits (bodyOf Try.f66) 0 (finK E_era_Bits po_era_Bits [.tmp 6, .tmp 7]) (startSt pi_era_Bits 41 d) = f_era_Bits_m () d := by kernel_rfl
def g_era_Bits (d : Unit × ((Int × Unit) × ((Int × Unit) × ((Int × Unit) × Unit)))) : Option (Unit × ((Int × Unit) × (((Option Int) × Unit) × Unit))) := f_era_Bits_m () d
theorem ok_era_Bits : FnOk Try.prog ET0 66 pi_era_Bits po_era_Bits g_era_Bits :=
  fn_of_body (E := E_era_Bits) (envOk_add (envOk_add (envOk_add e0_ok (typed_ok ok_num_Add)) (typed_ok ok_era_right)) (typed_ok ok_era_mask)) (fn := Try.f66) Try.func66 (by kernel_rfl) (by kernel_rfl) [.tmp 6, .tmp 7] (by kernel_rfl) (by kernel_rfl) (by decide) rfl c_era_Bits L_era_Bits R_era_Bits
    (by intro x hx; cases hx) (by intro k x hx; cases hx) (by intro x hx; cases hx) (by intro k x hx; cases hx) (fun d out h => ⟨0, (q_era_Bits_m 0 d).trans h⟩)

/- horologe/era.Unfold[uint32] -/
@[reducible] def pi_era_Unfold_u32 : PSh := ⟨[], [.mk false [.v (.int .u32)], .mk false [.v (.int .i64)]]⟩
@[reducible] def po_era_Unfold_u32 : PSh := ⟨[], [.mk false [.v (.int .i64)], .mk false [.v .err]]⟩
def f_era_Unfold_u32_m (T : Unit) (d : Unit × ((Int × Unit) × ((Int × Unit) × Unit))) : Option (Unit × ((Int × Unit) × (((Option Int) × Unit) × Unit))) :=
  let x1 : Int := (iconv .u64 d.2.1.1)
  (g_octets_Size_u32 ((), ())).bind fun x2 =>
  let x3 : Int := (imul .i64 x2.2.1.1 (8 : Int))
  (g_era_Bits ((), ((x1, ()), ((x3, ()), ((d.2.2.1.1, ()), ()))))).bind fun x4 =>
  some ((), ((x4.2.1.1, ()), ((x4.2.2.1.1, ()), ())))
def c_era_Unfold_u32 : List Nat := []
def L_era_Unfold_u32 (_ : Nat) : Pts po_era_Unfold_u32.den := []
def R_era_Unfold_u32 (_ : Nat) : PtsR po_era_Unfold_u32.den := []
def E_era_Unfold_u32 : Env := ((E0.add 44 (typedSem pi_octets_Size_u32 po_octets_Size_u32 g_octets_Size_u32)).add 66 (typedSem pi_era_Bits po_era_Bits g_era_Bits))
theorem q_era_Unfold_u32_m (k : Nat) (d : Unit × ((Int × Unit) × ((Int × Unit) × Unit))) : evCode E_era_Unfold_u32 (tb (L_era_Unfold_u32 k) (R_era_Unfold_u32 k)) c_era_Unfold_u32 (bodyOf Try.f46) 0 (finK E_era_Unfold_u32 po_era_Unfold_u32 [.tmp 4, .tmp 5]) (startSt pi_era_Unfold_u32 14 d) = f_era_Unfold_u32_m () d := by kernel_rfl
def g_era_Unfold_u32 (d : Unit × ((Int × Unit) × ((Int × Unit) × Unit))) : Option (Unit × ((Int × Unit) × (((Option Int) × Unit) × Unit))) := f_era_Unfold_u32_m () d
theorem ok_era_Unfold_u32 : FnOk Try.prog ET0 46 pi_era_Unfold_u32 po_era_Unfold_u32 g_era_Unfold_u32 :=
  fn_of_body (E := E_era_Unfold_u32) (envOk_add (envOk_add e0_ok (typed_ok ok_octets_Size_u32)) (typed_ok ok_era_Bits)) (fn := Try.f46) Try.func46 (by kernel_rfl) (by kernel_rfl) [.tmp 4, .tmp 5] (by kernel_rfl) (by kernel_rfl) (by decide) rfl c_era_Unfold_u32 L_era_Unfold_u32 R_era_Unfold_u32
    (by intro x hx; cases hx) (by intro k x hx; cases hx) (by intro x hx; cases hx) (by intro k x hx; cases hx) (fun d out h => ⟨0, (q_era_Unfold_u32_m 0 d).trans h⟩)

/- horologe/num.Sub -/
@[reducible] def pi_num_Sub : PSh := ⟨[], [.mk false [.v (.int .i64)], .mk false [.v (.int .i64)]]⟩
@[reducible] def po_num_Sub : PSh := ⟨[], [.mk false [.v (.int .i64)], .mk false [.v .err]]⟩
def f_num_Sub_m (T : Unit) (d : Unit × ((Int × Unit) × ((Int × Unit) × Unit))) : Option (Unit × ((Int × Unit) × (((Option Int) × Unit) × Unit))) :=
  let x1 : Int := (isub .i64 d.2.1.1 d.2.2.1.1)
  let x2 : Bool := (decide (d.2.2.1.1 > (0 : Int)))
  bif x2 then (
  let x3 : Bool := (decide (x1 > d.2.1.1))
  bif x3 then (
  let x4 : (Option Int) := (some (5 : Int))
  some ((), (((0 : Int), ()), ((x4, ()), ()))))
  else (
  let x5 : Bool := (decide (d.2.2.1.1 < (0 : Int)))
  bif x5 then (
  let x6 : Bool := (decide (x1 < d.2.1.1))
  bif x6 then (
  let x7 : (Option Int) := (some (5 : Int))
  some ((), (((0 : Int), ()), ((x7, ()), ()))))
  else (
  some ((), ((x1, ()), (((none : Option Int), ()), ())))))
  else (
  some ((), ((x1, ()), (((none : Option Int), ()), ()))))))
  else (
  let x8 : Bool := (decide (d.2.2.1.1 < (0 : Int)))
  bif x8 then (
  let x9 : Bool := (decide (x1 < d.2.1.1))
  bif x9 then (
  let x10 : (Option Int) := (some (5 : Int))
  some ((), (((0 : Int), ()), ((x10, ()), ()))))
  else (
  some ((), ((x1, ()), (((none : Option Int), ()), ())))))
  else (
  some ((), ((x1, ()), (((none : Option Int), ()), ())))))
def c_num_Sub : List Nat := []
def L_num_Sub (_ : Nat) : Pts po_num_Sub.den := []
def R_num_Sub (_ : Nat) : PtsR po_num_Sub.den := []
def E_num_Sub : Env := E0
theorem q_num_Sub_m (k : Nat) (d : Unit × ((Int × Unit) × ((Int × Unit) × Unit))) : evCode E_num_Sub (tb (L_num_Sub k) (R_num_Sub k)) c_num_Sub (bodyOf Try.f67) 0 (finK E_num_Sub po_num_Sub [.tmp 4, .tmp 5]) (startSt pi_num_Sub 28 d) = f_num_Sub_m () d := by kernel_rfl
def g_num_Sub (d : Unit × ((Int × Unit) × ((Int × Unit) × Unit))) : Option (Unit × ((Int × Unit) × (((Option Int) × Unit) × Unit))) := f_num_Sub_m () d
theorem ok_num_Sub : FnOk Try.prog ET0 67 pi_num_Sub po_num_Sub g_num_Sub :=
  fn_of_body (E := E_num_Sub) e0_ok (fn := Try.f67) Try.func67 (by kernel_rfl) (by kernel_rfl) [.tmp 4, .tmp 5] (by kernel_rfl) (by kernel_rfl) (by decide) rfl c_num_Sub L_num_Sub R_num_Sub
    (by intro x hx; cases hx) (by intro k x hx; cases hx) (by intro x hx; cases hx) (by intro k x hx; cases hx) (fun d out h => ⟨0, (q_num_Sub_m 0 d).trans h⟩)

/- horologe/stamp.ToPosix -/
@[reducible] def pi_stamp_ToPosix : PSh := ⟨[], [.mk false [.v (.int .i64)]]⟩
@[reducible] def po_stamp_ToPosix : PSh := ⟨[], [.mk false [.v (.int .i64)], .mk false [.v .err]]⟩
def f_stamp_ToPosix_m (T : Unit) (d : Unit × ((Int × Unit) × Unit)) : Option (Unit × ((Int × Unit) × (((Option Int) × Unit) × Unit))) :=
  (g_num_Sub ((), ((d.2.1.1, ()), (((2208988800 : Int), ()), ())))).bind fun x1 =>
  some ((), ((x1.2.1.1, ()), ((x1.2.2.1.1, ()), ())))
def c_stamp_ToPosix : List Nat := []
def L_stamp_ToPosix (_ : Nat) : Pts po_stamp_ToPosix.den := []
def R_stamp_ToPosix (_ : Nat) : PtsR po_stamp_ToPosix.den := []
def E_stamp_ToPosix : Env := (E0.add 67 (typedSem pi_num_Sub po_num_Sub g_num_Sub))
theorem q_stamp_ToPosix_m (k : Nat) (d : Unit × ((Int × Unit) × Unit)) : evCode E_stamp_ToPosix (tb (L_stamp_ToPosix k) (R_stamp_ToPosix k)) c_stamp_ToPosix (bodyOf Try.f47) 0 (finK E_stamp_ToPosix po_stamp_ToPosix [.tmp 2, .tmp 3]) (startSt pi_stamp_ToPosix 8 d) = f_stamp_ToPosix_m () d := by kernel_rfl
def g_stamp_ToPosix (d : Unit × ((Int × Unit) × Unit)) : Option (Unit × ((Int × Unit) × (((Option Int) × Unit) × Unit))) := f_stamp_ToPosix_m () d
theorem ok_stamp_ToPosix : FnOk Try.prog ET0 47 pi_stamp_ToPosix po_stamp_ToPosix g_stamp_ToPosix :=
  fn_of_body (E := E_stamp_ToPosix) (envOk_add e0_ok (typed_ok ok_num_Sub)) (fn := Try.f47) Try.func47 (by kernel_rfl) (by kernel_rfl) [.tmp 2, .tmp 3] (by kernel_rfl) (by kernel_rfl) (by decide) rfl c_stamp_ToPosix L_stamp_ToPosix R_stamp_ToPosix
    (by intro x hx; cases hx) (by intro k x hx; cases hx) (by intro x hx; cases hx) (by intro k x hx; cases hx) (fun d out h => ⟨0, (q_stamp_ToPosix_m 0 d).trans h⟩)

/- horologe/word.Near -/
@[reducible] def pi_word_Near : PSh := ⟨[], [.mk false [.v (.sl (.int .u8))], .mk false [.v (.int .i64)]]⟩
@[reducible] def po_word_Near : PSh := ⟨[], [.mk false [.v (.int .i64)], .mk false [.v .err]]⟩
def f_word_Near_m (T : Unit) (d : Unit × (((List Int) × Unit) × ((Int × Unit) × Unit))) : Option (Unit × ((Int × Unit) × (((Option Int) × Unit) × Unit))) :=
  (g_word_Parse ((), ((d.2.1.1, ()), ()))).bind fun x1 =>
  let x2 : Bool := (!x1.2.2.1.1.isNone)
  bif x2 then (
  some ((), (((0 : Int), ()), ((x1.2.2.1.1, ()), ()))))
  else (
  (g_stamp_FromPosix ((), ((d.2.2.1.1, ()), ()))).bind fun x3 =>
  let x4 : Bool := (!x3.2.2.1.1.isNone)
  bif x4 then (
  some ((), (((0 : Int), ()), ((x3.2.2.1.1, ()), ()))))
  else (
  (g_era_Unfold_u32 ((), ((x1.2.1.1, ()), ((x3.2.1.1, ()), ())))).bind fun x5 =>
  let x6 : Bool := (!x5.2.2.1.1.isNone)
  bif x6 then (
  some ((), (((0 : Int), ()), ((x5.2.2.1.1, ()), ()))))
  else (
  (g_stamp_ToPosix ((), ((x5.2.1.1, ()), ()))).bind fun x7 =>
  some ((), ((x7.2.1.1, ()), ((x7.2.2.1.1, ()), ()))))))
def c_word_Near : List Nat := []
def L_word_Near (_ : Nat) : Pts po_word_Near.den := []
def R_word_Near (_ : Nat) : PtsR po_word_Near.den := []
def E_word_Near : Env := ((((E0.add 15 (typedSem pi_word_Parse po_word_Parse g_word_Parse)).add 45 (typedSem pi_stamp_FromPosix po_stamp_FromPosix g_stamp_FromPosix)).add 46 (typedSem pi_era_Unfold_u32 po_era_Unfold_u32 g_era_Unfold_u32)).add 47 (typedSem pi_stamp_ToPosix po_stamp_ToPosix g_stamp_ToPosix))
theorem q_word_Near_m (k : Nat) (d : Unit × (((List Int) × Unit) × ((Int × Unit) × Unit))) : evCode E_word_Near (tb (L_word_Near k) (R_word_Near k)) c_word_Near (bodyOf Try.f18) 0 (finK E_word_Near po_word_Near [.tmp 4, .tmp 5]) (startSt pi_word_Near 39 d) = f_word_Near_m () d := by kernel_rfl
def g_word_Near (d : Unit × (((List Int) × Unit) × ((Int × Unit) × Unit))) : Option (Unit × ((Int × Unit) × (((Option Int) × Unit) × Unit))) := f_word_Near_m () d
theorem ok_word_Near : FnOk Try.prog ET0 18 pi_word_Near po_word_Near g_word_Near :=
  fn_of_body (E := E_word_Near) (envOk_add (envOk_add (envOk_add (envOk_add e0_ok (typed_ok ok_word_Parse)) (typed_ok ok_stamp_FromPosix)) (typed_ok ok_era_Unfold_u32)) (typed_ok ok_stamp_ToPosix)) (fn := Try.f18) Try.func18 (by kernel_rfl) (by kernel_rfl) [.tmp 4, .tmp 5] (by kernel_rfl) (by kernel_rfl) (by decide) rfl c_word_Near L_word_Near R_word_Near
    (by intro x hx; cases hx) (by intro k x hx; cases hx) (by intro x hx; cases hx) (by intro k x hx; cases hx) (fun d out h => ⟨0, (q_word_Near_m 0 d).trans h⟩)

/- horologe/num.Div -/
@[reducible] def pi_num_Div : PSh := ⟨[], [.mk false [.v (.int .i64)], .mk false [.v (.int .i64)]]⟩
@[reducible] def po_num_Div : PSh := ⟨[], [.mk false [.v (.int .i64)], .mk false [.v .err]]⟩
def f_num_Div_m (T : Unit) (d : Unit × ((Int × Unit) × ((Int × Unit) × Unit))) : Option (Unit × ((Int × Unit) × (((Option Int) × Unit) × Unit))) :=
  let x1 : Bool := (d.2.2.1.1 == (0 : Int))
  bif x1 then (
  let x2 : (Option Int) := (some (1 : Int))
  some ((), (((0 : Int), ()), ((x2, ()), ()))))
  else (
  let x3 : Bool := (d.2.1.1 == (-9223372036854775808 : Int))
  bif x3 then (
  let x4 : Bool := (d.2.2.1.1 == (-1 : Int))
  bif x4 then (
  let x5 : (Option Int) := (some (5 : Int))
  some ((), (((0 : Int), ()), ((x5, ()), ()))))
  else (
  bif (d.2.2.1.1 == 0) then (
  none)
  else (
  let x6 : Int := (iquo .i64 d.2.1.1 d.2.2.1.1)
  bif (d.2.2.1.1 == 0) then (
  none)
  else (
  let x7 : Int := (Int.tmod d.2.1.1 d.2.2.1.1)
  let x8 : Bool := (x7 != (0 : Int))
  bif x8 then (
  let x9 : Bool := (decide (d.2.1.1 < (0 : Int)))
  let x10 : Bool := (decide (d.2.2.1.1 < (0 : Int)))
  let x11 : Bool := (!(x9 == x10))
  bif x11 then (
  let x12 : Int := (isub .i64 x6 (1 : Int))
  some ((), ((x12, ()), (((none : Option Int), ()), ()))))
  else (
  some ((), ((x6, ()), (((none : Option Int), ()), ())))))
  else (
  some ((), ((x6, ()), (((none : Option Int), ()), ()))))))))
  else (
  bif (d.2.2.1.1 == 0) then (
  none)
  else (
  let x13 : Int := (iquo .i64 d.2.1.1 d.2.2.1.1)
  bif (d.2.2.1.1 == 0) then (
  none)
  else (
  let x14 : Int := (Int.tmod d.2.1.1 d.2.2.1.1)
  let x15 : Bool := (x14 != (0 : Int))
  bif x15 then (
  let x16 : Bool := (decide (d.2.1.1 < (0 : Int)))
  let x17 : Bool := (decide (d.2.2.1.1 < (0 : Int)))
  let x18 : Bool := (!(x16 == x17))
  bif x18 then (
  let x19 : Int := (isub .i64 x13 (1 : Int))
  some ((), ((x19, ()), (((none : Option Int), ()), ()))))
  else (
  some ((), ((x13, ()), (((none : Option Int), ()), ())))))
  else (
  some ((), ((x13, ()), (((none : Option Int), ()), ()))))))))
def c_num_Div : List Nat := []
def L_num_Div (_ : Nat) : Pts po_num_Div.den := []
def R_num_Div (_ : Nat) : PtsR po_num_Div.den := []
def E_num_Div : Env := E0
theorem q_num_Div_m (k : Nat) (d : Unit × ((Int × Unit) × ((Int × Unit) × Unit))) : evCode E_num_Div (tb (L_num_Div k) (R_num_Div k)) c_num_Div (bodyOf Try.f93) 0 (finK E_num_Div po_num_Div [.tmp 4, .tmp 5]) (startSt pi_num_Div 36 d) = f_num_Div_m () d := by kernel_rfl
def g_num_Div (d : Unit × ((Int × Unit) × ((Int × Unit) × Unit))) : Option (Unit × ((Int × Unit) × (((Option Int) × Unit) × Unit))) := f_num_Div_m () d
theorem ok_num_Div : FnOk Try.prog ET0 93 pi_num_Div po_num_Div g_num_Div :=
  fn_of_body (E := E_num_Div) e0_ok (fn := Try.f93) Try.func93 (by kernel_rfl) (by kernel_rfl) [.tmp 4, .tmp 5] (by kernel_rfl) (by kernel_rfl) (by decide) rfl c_num_Div L_num_Div R_num_Div
    (by intro x hx; cases hx) (by intro k x hx; cases hx) (by intro x hx; cases hx) (by intro k x hx; cases hx) (fun d out h => ⟨0, (q_num_Div_m 0 d).trans h⟩)

/- horologe/num.Mod -/
@[reducible] def pi_num_Mod : PSh := ⟨[], [.mk false [.v (.int .i64)], .mk false [.v (.int .i64)]]⟩
@[reducible] def po_num_Mod : PSh := ⟨[], [.mk false [.v (.int .i64)], .mk false [.v .err]]⟩
def f_num_Mod_m (T : Unit) (d : Unit × ((Int × Unit) × ((Int × Unit) × Unit))) : Option (Unit × ((Int × Unit) × (((Option Int) × Unit) × Unit))) :=
  let x1 : Bool := (d.2.2.1.1 == (0 : Int))
  bif x1 then (
  let x2 : (Option Int) := (some (1 : Int))
  some ((), (((0 : Int), ()), ((x2, ()), ()))))
  else (
  let x3 : Bool := (d.2.2.1.1 == (-1 : Int))
  bif x3 then (
  some ((), (((0 : Int), ()), (((none : Option Int), ()), ()))))
  else (
  bif (d.2.2.1.1 == 0) then (
  none)
  else (
  let x4 : Int := (Int.tmod d.2.1.1 d.2.2.1.1)
  let x5 : Bool := (x4 != (0 : Int))
  bif x5 then (
  let x6 : Bool := (decide (x4 < (0 : Int)))
  let x7 : Bool := (decide (d.2.2.1.1 < (0 : Int)))
  let x8 : Bool := (!(x6 == x7))
  bif x8 then (
  let x9 : Int := (iadd .i64 x4 d.2.2.1.1)
  some ((), ((x9, ()), (((none : Option Int), ()), ()))))
  else (
  some ((), ((x4, ()), (((none : Option Int), ()), ())))))
  else (
  some ((), ((x4, ()), (((none : Option Int), ()), ())))))))
def c_num_Mod : List Nat := []
def L_num_Mod (_ : Nat) : Pts po_num_Mod.den := []
def R_num_Mod (_ : Nat) : PtsR po_num_Mod.den := []
def E_num_Mod : Env := E0
theorem q_num_Mod_m (k : Nat) (d : Unit × ((Int × Unit) × ((Int × Unit) × Unit))) : evCode E_num_Mod (tb (L_num_Mod k) (R_num_Mod k)) c_num_Mod (bodyOf Try.f94) 0 (finK E_num_Mod po_num_Mod [.tmp 4, .tmp 5]) (startSt pi_num_Mod 29 d) = f_num_Mod_m () d := by kernel_rfl
def g_num_Mod (d : Unit × ((Int × Unit) × ((Int × Unit) × Unit))) : Option (Unit × ((Int × Unit) × (((Option Int) × Unit) × Unit))) := f_num_Mod_m () d
theorem ok_num_Mod : FnOk Try.prog ET0 94 pi_num_Mod po_num_Mod g_num_Mod :=
  fn_of_body (E := E_num_Mod) e0_ok (fn := Try.f94) Try.func94 (by kernel_rfl) (by kernel_rfl) [.tmp 4, .tmp 5] (by kernel_rfl) (by kernel_rfl) (by decide) rfl c_num_Mod L_num_Mod R_num_Mod
    (by intro x hx; cases hx) (by intro k x hx; cases hx) (by intro x hx; cases hx) (by intro k x hx; cases hx) (fun d out h => ⟨0, (q_num_Mod_m 0 d).trans h⟩)

/- horologe/num.Split -/
@[reducible] def pi_num_Split : PSh := ⟨[], [.mk false [.v (.int .i64)], .mk false [.v (.int .i64)]]⟩
@[reducible] def po_num_Split : PSh := ⟨[], [.mk false [.v (.int .i64)], .mk false [.v (.int .i64)], .mk false [.v .err]]⟩
def f_num_Split_m (T : Unit) (d : Unit × ((Int × Unit) × ((Int × Unit) × Unit))) : Option (Unit × ((Int × Unit) × ((Int × Unit) × (((Option Int) × Unit) × Unit)))) :=
  let x1 : Bool := (decide (d.2.2.1.1 < (1 : Int)))
  bif x1 then (
  let x2 : (Option Int) := (some (1 : Int))
  some ((), (((0 : Int), ()), (((0 : Int), ()), ((x2, ()), ())))))
  else (
  (g_num_Div ((), ((d.2.1.1, ()), ((d.2.2.1.1, ()), ())))).bind fun x3 =>
  let x4 : Bool := (!x3.2.2.1.1.isNone)
  bif x4 then (
  some ((), (((0 : Int), ()), (((0 : Int), ()), ((x3.2.2.1.1, ()), ())))))
  else (
  (g_num_Mod ((), ((d.2.1.1, ()), ((d.2.2.1.1, ()), ())))).bind fun x5 =>
  let x6 : Bool := (!x5.2.2.1.1.isNone)
  bif x6 then (
  some ((), (((0 : Int), ()), (((0 : Int), ()), ((x5.2.2.1.1, ()), ())))))
  else (
  some ((), ((x3.2.1.1, ()), ((x5.2.1.1, ()), (((none : Option Int), ()), ())))))))
def c_num_Split : List Nat := []
def L_num_Split (_ : Nat) : Pts po_num_Split.den := []
def R_num_Split (_ : Nat) : PtsR po_num_Split.den := []
def E_num_Split : Env := ((E0.add 93 (typedSem pi_num_Div po_num_Div g_num_Div)).add 94 (typedSem pi_num_Mod po_num_Mod g_num_Mod))
theorem q_num_Split_m (k : Nat) (d : Unit × ((Int × Unit) × ((Int × Unit) × Unit))) : evCode E_num_Split (tb (L_num_Split k) (R_num_Split k)) c_num_Split (bodyOf Try.f68) 0 (finK E_num_Split po_num_Split [.tmp 4, .tmp 5, .tmp 6]) (startSt pi_num_Split 33 d) = f_num_Split_m () d := by kernel_rfl
def g_num_Split (d : Unit × ((Int × Unit) × ((Int × Unit) × Unit))) : Option (Unit × ((Int × Unit) × ((Int × Unit) × (((Option Int) × Unit) × Unit)))) := f_num_Split_m () d
theorem ok_num_Split : FnOk Try.prog ET0 68 pi_num_Split po_num_Split g_num_Split :=
  fn_of_body (E := E_num_Split) (envOk_add (envOk_add e0_ok (typed_ok ok_num_Div)) (typed_ok ok_num_Mod)) (fn := Try.f68) Try.func68 (by kernel_rfl) (by kernel_rfl) [.tmp 4, .tmp 5, .tmp 6] (by kernel_rfl) (by kernel_rfl) (by decide) rfl c_num_Split L_num_Split R_num_Split
    (by intro x hx; cases hx) (by intro k x hx; cases hx) (by intro x hx; cases hx) (by intro k x hx; cases hx) (fun d out h => ⟨0, (q_num_Split_m 0 d).trans h⟩)

/- horologe/day.floor -/
@[reducible] def pi_day_floor : PSh := ⟨[], [.mk false [.v (.int .i64)], .mk false [.v (.int .i64)]]⟩
@[reducible] def po_day_floor : PSh := ⟨[], [.mk false [.v (.int .i64)]]⟩
def f_day_floor_m (T : Unit) (d : Unit × ((Int × Unit) × ((Int × Unit) × Unit))) : Option (Unit × ((Int × Unit) × Unit)) :=
  bif (d.2.2.1.1 == 0) then (
  none)
  else (
  let x1 : Int := (iquo .i64 d.2.1.1 d.2.2.1.1)
  bif (d.2.2.1.1 == 0) then (
  none)
  else (
  let x2 : Int := (Int.tmod d.2.1.1 d.2.2.1.1)
  let x3 : Bool := (decide (x2 < (0 : Int)))
  bif x3 then (
  let x4 : Int := (isub .i64 x1 (1 : Int))
  some ((), ((x4, ()), ())))
  else (
  some ((), ((x1, ()), ())))))
def c_day_floor : List Nat := []
def L_day_floor (_ : Nat) : Pts po_day_floor.den := []
def R_day_floor (_ : Nat) : PtsR po_day_floor.den := []
def E_day_floor : Env := E0
theorem q_day_floor_m (k : Nat) (d : Unit × ((Int × Unit) × ((Int × Unit) × Unit))) : evCode E_day_floor (tb (L_day_floor k) (R_day_floor k)) c_day_floor (bodyOf Try.f88) 0 (finK E_day_floor po_day_floor [.tmp 4]) (startSt pi_day_floor 16 d) = f_day_floor_m () d := by kernel_rfl
def g_day_floor (d : Unit × ((Int × Unit) × ((Int × Unit) × Unit))) : Option (Unit × ((Int × Unit) × Unit)) := f_day_floor_m () d
theorem ok_day_floor : FnOk Try.prog ET0 88 pi_day_floor po_day_floor g_day_floor :=
  fn_of_body (E := E_day_floor) e0_ok (fn := Try.f88) Try.func88 (by kernel_rfl) (by kernel_rfl) [.tmp 4] (by kernel_rfl) (by kernel_rfl) (by decide) rfl c_day_floor L_day_floor R_day_floor
    (by intro x hx; cases hx) (by intro k x hx; cases hx) (by intro x hx; cases hx) (by intro k x hx; cases hx) (fun d out h => ⟨0, (q_day_floor_m 0 d).trans h⟩)

/- horologe/day.number -/
@[reducible] def pi_day_number : PSh := ⟨[], [.mk false [.v (.int .i64)], .mk false [.v (.int .i64)], .mk false [.v (.int .i64)]]⟩
@[reducible] def po_day_number : PSh := ⟨[], [.mk false [.v (.int .i64)]]⟩
def f_day_number_m (T : Unit) (d : Unit × ((Int × Unit) × ((Int × Unit) × ((Int × Unit) × Unit)))) : Option (Unit × ((Int × Unit) × Unit)) :=
  let x1 : Bool := (decide (d.2.2.1.1 ≤ (2 : Int)))
  bif x1 then (
  let x2 : Int := (isub .i64 d.2.1.1 (1 : Int))
  let x3 : Int := (iadd .i64 d.2.2.1.1 (12 : Int))
  (g_day_floor ((), ((x2, ()), (((400 : Int), ()), ())))).bind fun x4 =>
  let x5 : Int := (imul .i64 x4.2.1.1 (400 : Int))
  let x6 : Int := (isub .i64 x2 x5)
  let x7 : Int := (isub .i64 x3 (3 : Int))
  let x8 : Int := (imul .i64 (153 : Int) x7)
  let x9 : Int := (iadd .i64 x8 (2 : Int))
  let x10 : Int := (iquo .i64 x9 (5 : Int))
  let x11 : Int := (iadd .i64 x10 d.2.2.2.1.1)
  let x12 : Int := (isub .i64 x11 (1 : Int))
  let x13 : Int := (imul .i64 x4.2.1.1 (146097 : Int))
  let x14 : Int := (imul .i64 x6 (365 : Int))
  let x15 : Int := (iadd .i64 x13 x14)
  let x16 : Int := (iquo .i64 x6 (4 : Int))
  let x17 : Int := (iadd .i64 x15 x16)
  let x18 : Int := (iquo .i64 x6 (100 : Int))
  let x19 : Int := (isub .i64 x17 x18)
  let x20 : Int := (iadd .i64 x19 x12)
  let x21 : Int := (isub .i64 x20 (719468 : Int))
  some ((), ((x21, ()), ())))
  else (
  (g_day_floor ((), ((d.2.1.1, ()), (((400 : Int), ()), ())))).bind fun x22 =>
  let x23 : Int := (imul .i64 x22.2.1.1 (400 : Int))
  let x24 : Int := (isub .i64 d.2.1.1 x23)
  let x25 : Int := (isub .i64 d.2.2.1.1 (3 : Int))
  let x26 : Int := (imul .i64 (153 : Int) x25)
  let x27 : Int := (iadd .i64 x26 (2 : Int))
  let x28 : Int := (iquo .i64 x27 (5 : Int))
  let x29 : Int := (iadd .i64 x28 d.2.2.2.1.1)
  let x30 : Int := (isub .i64 x29 (1 : Int))
  let x31 : Int := (imul .i64 x22.2.1.1 (146097 : Int))
  let x32 : Int := (imul .i64 x24 (365 : Int))
  let x33 : Int := (iadd .i64 x31 x32)
  let x34 : Int := (iquo .i64 x24 (4 : Int))
  let x35 : Int := (iadd .i64 x33 x34)
  let x36 : Int := (iquo .i64 x24 (100 : Int))
  let x37 : Int := (isub .i64 x35 x36)
  let x38 : Int := (iadd .i64 x37 x30)
  let x39 : Int := (isub .i64 x38 (719468 : Int))
  some ((), ((x39, ()), ())))
def c_day_number : List Nat := []
def L_day_number (_ : Nat) : Pts po_day_number.den := []
def R_day_number (_ : Nat) : PtsR po_day_number.den := []
def E_day_number : Env := (E0.add 88 (typedSem pi_day_floor po_day_floor g_day_floor))
theorem q_day_number_m (k : Nat) (d : Unit × ((Int × Unit) × ((Int × Unit) × ((Int × Unit) × Unit)))) : evCode E_day_number (tb (L_day_number k) (R_day_number k)) c_day_number (bodyOf Try.f112) 0 (finK E_day_number po_day_number [.tmp 6]) (startSt pi_day_number 44 d) = f_day_number_m () d := by kernel_rfl
def g_day_number (d : Unit × ((Int × Unit) × ((Int × Unit) × ((Int × Unit) × Unit)))) : Option (Unit × ((Int × Unit) × Unit)) := f_day_number_m () d
theorem ok_day_number : FnOk Try.prog ET0 112 pi_day_number po_day_number g_day_number :=
  fn_of_body (E := E_day_number) (envOk_add e0_ok (typed_ok ok_day_floor)) (fn := Try.f112) Try.func112 (by kernel_rfl) (by kernel_rfl) [.tmp 6] (by kernel_rfl) (by kernel_rfl) (by decide) rfl c_day_number L_day_number R_day_number
    (by intro x hx; cases hx) (by intro k x hx; cases hx) (by intro x hx; cases hx) (by intro k x hx; cases hx) (fun d out h => ⟨0, (q_day_number_m 0 d).trans h⟩)

/- horologe/day.First -/
@[reducible] def pi_day_First : PSh := ⟨[], []⟩
@[reducible] def po_day_First : PSh := ⟨[], [.mk false [.v (.int .i64)]]⟩
def f_day_First_m (T : Unit) (d : Unit × Unit) : Option (Unit × ((Int × Unit) × Unit)) :=
  (g_day_number ((), (((-9999 : Int), ()), (((1 : Int), ()), (((1 : Int), ()), ()))))).bind fun x1 =>
  some ((), ((x1.2.1.1, ()), ()))
def c_day_First : List Nat := []
def L_day_First (_ : Nat) : Pts po_day_First.den := []
def R_day_First (_ : Nat) : PtsR po_day_First.den := []
def E_day_First : Env := (E0.add 112 (typedSem pi_day_number po_day_number g_day_number))
theorem q_day_First_m (k : Nat) (d : Unit × Unit) : evCode E_day_First (tb (L_day_First k) (R_day_First k)) c_day_First (bodyOf Try.f86) 0 (finK E_day_First po_day_First [.tmp 0]) (startSt pi_day_First 2 d) = f_day_First_m () d := by kernel_rfl
def g_day_First (d : Unit × Unit) : Option (Unit × ((Int × Unit) × Unit)) := f_day_First_m () d
theorem ok_day_First : FnOk Try.prog ET0 86 pi_day_First po_day_First g_day_First :=
  fn_of_body (E := E_day_First) (envOk_add e0_ok (typed_ok ok_day_number)) (fn := Try.f86) Try.func86 (by kernel_rfl) (by kernel_rfl) [.tmp 0] (by kernel_rfl) (by kernel_rfl) (by decide) rfl c_day_First L_day_First R_day_First
    (by intro x hx; cases hx) (by intro k x hx; cases hx) (by intro x hx; cases hx) (by intro k x hx; cases hx) (fun d out h => ⟨0, (q_day_First_m 0 d).trans h⟩)

/- horologe/day.Last -/
@[reducible] def pi_day_Last : PSh := ⟨[], []⟩
@[reducible] def po_day_Last : PSh := ⟨[], [.mk false [.v (.int .i64)]]⟩
def f_day_Last_m (T : Unit) (d : Unit × Unit) : Option (Unit × ((Int × Unit) × Unit)) :=
  (g_day_number ((), (((9999 : Int), ()), (((12 : Int), ()), (((31 : Int), ()), ()))))).bind fun x1 =>
  some ((), ((x1.2.1.1, ()), ()))
def c_day_Last : List Nat := []
def L_day_Last (_ : Nat) : Pts po_day_Last.den := []
def R_day_Last (_ : Nat) : PtsR po_day_Last.den := []
def E_day_Last : Env := (E0.add 112 (typedSem pi_day_number po_day_number g_day_number))
theorem q_day_Last_m (k : Nat) (d : Unit × Unit) : evCode E_day_Last (tb (L_day_Last k) (R_day_Last k)) c_day_Last (bodyOf Try.f87) 0 (finK E_day_Last po_day_Last [.tmp 0]) (startSt pi_day_Last 2 d) = f_day_Last_m () d := by kernel_rfl
def g_day_Last (d : Unit × Unit) : Option (Unit × ((Int × Unit) × Unit)) := f_day_Last_m () d
theorem ok_day_Last : FnOk Try.prog ET0 87 pi_day_Last po_day_Last g_day_Last :=
  fn_of_body (E := E_day_Last) (envOk_add e0_ok (typed_ok ok_day_number)) (fn := Try.f87) Try.func87 (by kernel_rfl) (by kernel_rfl) [.tmp 0] (by kernel_rfl) (by kernel_rfl) (by decide) rfl c_day_Last L_day_Last R_day_Last
    (by intro x hx; cases hx) (by intro k x hx; cases hx) (by intro x hx; cases hx) (by intro k x hx; cases hx) (fun d out h => ⟨0, (q_day_Last_m 0 d).trans h⟩)

/- horologe/day.Date -/
@[reducible] def pi_day_Date : PSh := ⟨[], [.mk false [.v (.int .i64)]]⟩
@[reducible] def po_day_Date : PSh := ⟨[], [.mk false [.v (.int .i64)], .mk false [.v (.int .i64)], .mk false [.v (.int .i64)], .mk false [.v .err]]⟩
def f_day_Date_m (T : Unit) (d : Unit × ((Int × Unit) × Unit)) : Option (Unit × ((Int × Unit) × ((Int × Unit) × ((Int × Unit) × (((Option Int) × Unit) × Unit))))) :=
  (g_day_First ((), ())).bind fun x1 =>
  let x2 : Bool := (decide (d.2.1.1 < x1.2.1.1))
  bif x2 then (
  let x3 : (Option Int) := (some (13 : Int))
  some ((), (((0 : Int), ()), (((0 : Int), ()), (((0 : Int), ()), ((x3, ()), ()))))))
  else (
  (g_day_Last ((), ())).bind fun x4 =>
  let x5 : Bool := (decide (d.2.1.1 > x4.2.1.1))
  bif x5 then (
  let x6 : (Option Int) := (some (13 : Int))
  some ((), (((0 : Int), ()), (((0 : Int), ()), (((0 : Int), ()), ((x6, ()), ()))))))
  else (
  let x7 : Int := (iadd .i64 d.2.1.1 (719468 : Int))
  (g_day_floor ((), ((x7, ()), (((146097 : Int), ()), ())))).bind fun x8 =>
  let x9 : Int := (iadd .i64 d.2.1.1 (719468 : Int))
  let x10 : Int := (imul .i64 x8.2.1.1 (146097 : Int))
  let x11 : Int := (isub .i64 x9 x10)
  let x12 : Int := (iquo .i64 x11 (1460 : Int))
  let x13 : Int := (isub .i64 x11 x12)
  let x14 : Int := (iquo .i64 x11 (36524 : Int))
  let x15 : Int := (iadd .i64 x13 x14)
  let x16 : Int := (iquo .i64 x11 (146096 : Int))
  let x17 : Int := (isub .i64 x15 x16)
  let x18 : Int := (iquo .i64 x17 (365 : Int))
  let x19 : Int := (imul .i64 (365 : Int) x18)
  let x20 : Int := (iquo .i64 x18 (4 : Int))
  let x21 : Int := (iadd .i64 x19 x20)
  let x22 : Int := (iquo .i64 x18 (100 : Int))
  let x23 : Int := (isub .i64 x21 x22)
  let x24 : Int := (isub .i64 x11 x23)
  let x25 : Int := (imul .i64 (5 : Int) x24)
  let x26 : Int := (iadd .i64 x25 (2 : Int))
  let x27 : Int := (iquo .i64 x26 (153 : Int))
  let x28 : Int := (imul .i64 (153 : Int) x27)
  let x29 : Int := (iadd .i64 x28 (2 : Int))
  let x30 : Int := (iquo .i64 x29 (5 : Int))
  let x31 : Int := (isub .i64 x24 x30)
  let x32 : Int := (iadd .i64 x31 (1 : Int))
  let x33 : Int := (imul .i64 x8.2.1.1 (400 : Int))
  let x34 : Int := (iadd .i64 x18 x33)
  let x35 : Int := (iadd .i64 x27 (3 : Int))
  let x36 : Bool := (decide (x35 > (12 : Int)))
  bif x36 then (
  let x37 : Int := (isub .i64 x35 (12 : Int))
  let x38 : Int := (iadd .i64 x34 (1 : Int))
  some ((), ((x38, ()), ((x37, ()), ((x32, ()), (((none : Option Int), ()), ()))))))
  else (
  some ((), ((x34, ()), ((x35, ()), ((x32, ()), (((none : Option Int), ()), ()))))))))
def c_day_Date : List Nat := []
def L_day_Date (_ : Nat) : Pts po_day_Date.den := []
def R_day_Date (_ : Nat) : PtsR po_day_Date.den := []
def E_day_Date : Env := (((E0.add 86 (typedSem pi_day_First po_day_First g_day_First)).add 87 (typedSem pi_day_Last po_day_Last g_day_Last)).add 88 (typedSem pi_day_floor po_day_floor g_day_floor))
theorem q_day_Date_m (k : Nat) (d : Unit × ((Int × Unit) × Unit)) : evCode E_day_Date (tb (L_day_Date k) (R_day_Date k)) c_day_Date (bodyOf Try.f56) 0 (finK E_day_Date po_day_Date [.tmp 2, .tmp 3, .tmp 4, .tmp 5]) (startSt pi_day_Date 77 d) = f_day_Date_m () d := by kernel_rfl
def g_day_Date (d : Unit × ((Int × Unit) × Unit)) : Option (Unit × ((Int × Unit) × ((Int × Unit) × ((Int × Unit) × (((Option Int) × Unit) × Unit))))) := f_day_Date_m () d
theorem ok_day_Date : FnOk Try.prog ET0 56 pi_day_Date po_day_Date g_day_Date :=
  fn_of_body (E := E_day_Date) (envOk_add (envOk_add (envOk_add e0_ok (typed_ok ok_day_First)) (typed_ok ok_day_Last)) (typed_ok ok_day_floor)) (fn := Try.f56) Try.func56 (by kernel_rfl) (by kernel_rfl) [.tmp 2, .tmp 3, .tmp 4, .tmp 5] (by kernel_rfl) (by kernel_rfl) (by decide) rfl c_day_Date L_day_Date R_day_Date
    (by intro x hx; cases hx) (by intro k x hx; cases hx) (by intro x hx; cases hx) (by intro k x hx; cases hx) (fun d out h => ⟨0, (q_day_Date_m 0 d).trans h⟩)

/- horologe/label.there -/
@[reducible] def pi_label_there : PSh := ⟨[], [.mk false [.v (.int .i64)]]⟩
@[reducible] def po_label_there : PSh := ⟨[], [.mk false [.v .bool]]⟩
def f_label_there_m (T : Unit) (d : Unit × ((Int × Unit) × Unit)) : Option (Unit × ((Bool × Unit) × Unit)) :=
  (g_day_First ((), ())).bind fun x1 =>
  let x2 : Bool := (decide (d.2.1.1 ≥ x1.2.1.1))
  bif x2 then (
  (g_day_Last ((), ())).bind fun x3 =>
  let x4 : Bool := (decide (d.2.1.1 ≤ x3.2.1.1))
  some ((), ((x4, ()), ())))
  else (
  some ((), ((false, ()), ())))
def c_label_there : List Nat := []
def L_label_there (_ : Nat) : Pts po_label_there.den := []
def R_label_there (_ : Nat) : PtsR po_label_there.den := []
def E_label_there : Env := ((E0.add 86 (typedSem pi_day_First po_day_First g_day_First)).add 87 (typedSem pi_day_Last po_day_Last g_day_Last))
theorem q_label_there_m (k : Nat) (d : Unit × ((Int × Unit) × Unit)) : evCode E_label_there (tb (L_label_there k) (R_label_there k)) c_label_there (bodyOf Try.f95) 0 (finK E_label_there po_label_there [.tmp 2]) (startSt pi_label_there 11 d) = f_label_there_m () d := by kernel_rfl
def g_label_there (d : Unit × ((Int × Unit) × Unit)) : Option (Unit × ((Bool × Unit) × Unit)) := f_label_there_m () d
theorem ok_label_there : FnOk Try.prog ET0 95 pi_label_there po_label_there g_label_there :=
  fn_of_body (E := E_label_there) (envOk_add (envOk_add e0_ok (typed_ok ok_day_First)) (typed_ok ok_day_Last)) (fn := Try.f95) Try.func95 (by kernel_rfl) (by kernel_rfl) [.tmp 2] (by kernel_rfl) (by kernel_rfl) (by decide) rfl c_label_there L_label_there R_label_there
    (by intro x hx; cases hx) (by intro k x hx; cases hx) (by intro x hx; cases hx) (by intro k x hx; cases hx) (fun d out h => ⟨0, (q_label_there_m 0 d).trans h⟩)

/- horologe/label.in -/
@[reducible] def pi_label_in : PSh := ⟨[], [.mk false [.v (.int .i64)], .mk false [.v (.int .i64)]]⟩
@[reducible] def po_label_in : PSh := ⟨[], [.mk false [.v .bool]]⟩
def f_label_in_m (T : Unit) (d : Unit × ((Int × Unit) × ((Int × Unit) × Unit))) : Option (Unit × ((Bool × Unit) × Unit)) :=
  let x1 : Bool := (decide (d.2.1.1 ≥ (0 : Int)))
  bif x1 then (
  let x2 : Bool := (decide (d.2.1.1 < d.2.2.1.1))
  some ((), ((x2, ()), ())))
  else (
  some ((), ((false, ()), ())))
def c_label_in : List Nat := []
def L_label_in (_ : Nat) : Pts po_label_in.den := []
def R_label_in (_ : Nat) : PtsR po_label_in.den := []
def E_label_in : Env := E0
theorem q_label_in_m (k : Nat) (d : Unit × ((Int × Unit) × ((Int × Unit) × Unit))) : evCode E_label_in (tb (L_label_in k) (R_label_in k)) c_label_in (bodyOf Try.f96) 0 (finK E_label_in po_label_in [.tmp 4]) (startSt pi_label_in 12 d) = f_label_in_m () d := by kernel_rfl
def g_label_in (d : Unit × ((Int × Unit) × ((Int × Unit) × Unit))) : Option (Unit × ((Bool × Unit) × Unit)) := f_label_in_m () d
theorem ok_label_in : FnOk Try.prog ET0 96 pi_label_in po_label_in g_label_in :=
  fn_of_body (E := E_label_in) e0_ok (fn := Try.f96) Try.func96 (by kernel_rfl) (by kernel_rfl) [.tmp 4] (by kernel_rfl) (by kernel_rfl) (by decide) rfl c_label_in L_label_in R_label_in
    (by intro x hx; cases hx) (by intro k x hx; cases hx) (by intro x hx; cases hx) (by intro k x hx; cases hx) (fun d out h => ⟨0, (q_label_in_m 0 d).trans h⟩)

/- horologe/label.shifts -/
@[reducible] def pi_label_shifts : PSh := ⟨[], [.mk false [.v (.int .i64)]]⟩
@[reducible] def po_label_shifts : PSh := ⟨[], [.mk false [.v .bool]]⟩
def f_label_shifts_m (T : Unit) (d : Unit × ((Int × Unit) × Unit)) : Option (Unit × ((Bool × Unit) × Unit)) :=
  let x1 : Bool := (decide (d.2.1.1 > (-1440 : Int)))
  bif x1 then (
  let x2 : Bool := (decide (d.2.1.1 < (1440 : Int)))
  some ((), ((x2, ()), ())))
  else (
  some ((), ((false, ()), ())))
def c_label_shifts : List Nat := []
def L_label_shifts (_ : Nat) : Pts po_label_shifts.den := []
def R_label_shifts (_ : Nat) : PtsR po_label_shifts.den := []
def E_label_shifts : Env := E0
theorem q_label_shifts_m (k : Nat) (d : Unit × ((Int × Unit) × Unit)) : evCode E_label_shifts (tb (L_label_shifts k) (R_label_shifts k)) c_label_shifts (bodyOf Try.f97) 0 (finK E_label_shifts po_label_shifts [.tmp 2]) (startSt pi_label_shifts 9 d) = f_label_shifts_m () d := by kernel_rfl
def g_label_shifts (d : Unit × ((Int × Unit) × Unit)) : Option (Unit × ((Bool × Unit) × Unit)) := f_label_shifts_m () d
theorem ok_label_shifts : FnOk Try.prog ET0 97 pi_label_shifts po_label_shifts g_label_shifts :=
  fn_of_body (E := E_label_shifts) e0_ok (fn := Try.f97) Try.func97 (by kernel_rfl) (by kernel_rfl) [.tmp 2] (by kernel_rfl) (by kernel_rfl) (by decide) rfl c_label_shifts L_label_shifts R_label_shifts
    (by intro x hx; cases hx) (by intro k x hx; cases hx) (by intro x hx; cases hx) (by intro k x hx; cases hx) (fun d out h => ⟨0, (q_label_shifts_m 0 d).trans h⟩)

/- horologe/label.clock -/
@[reducible] def pi_label_clock : PSh := ⟨[], [.mk false [.v (.int .i64)]]⟩
@[reducible] def po_label_clock : PSh := ⟨[], [.mk false [.v (.int .i64)], .mk false [.v (.int .i64)]]⟩
def f_label_clock_m (T : Unit) (d : Unit × ((Int × Unit) × Unit)) : Option (Unit × ((Int × Unit) × ((Int × Unit) × Unit))) :=
  let x1 : Bool := (d.2.1.1 == (86400 : Int))
  bif x1 then (
  some ((), (((1439 : Int), ()), (((60 : Int), ()), ()))))
  else (
  let x2 : Int := (iquo .i64 d.2.1.1 (60 : Int))
  let x3 : Int := (Int.tmod d.2.1.1 (60 : Int))
  some ((), ((x2, ()), ((x3, ()), ()))))
def c_label_clock : List Nat := []
def L_label_clock (_ : Nat) : Pts po_label_clock.den := []
def R_label_clock (_ : Nat) : PtsR po_label_clock.den := []
def E_label_clock : Env := E0
theorem q_label_clock_m (k : Nat) (d : Unit × ((Int × Unit) × Unit)) : evCode E_label_clock (tb (L_label_clock k) (R_label_clock k)) c_label_clock (bodyOf Try.f98) 0 (finK E_label_clock po_label_clock [.tmp 2, .tmp 3]) (startSt pi_label_clock 10 d) = f_label_clock_m () d := by kernel_rfl
def g_label_clock (d : Unit × ((Int × Unit) × Unit)) : Option (Unit × ((Int × Unit) × ((Int × Unit) × Unit))) := f_label_clock_m () d
theorem ok_label_clock : FnOk Try.prog ET0 98 pi_label_clock po_label_clock g_label_clock :=
  fn_of_body (E := E_label_clock) e0_ok (fn := Try.f98) Try.func98 (by kernel_rfl) (by kernel_rfl) [.tmp 2, .tmp 3] (by kernel_rfl) (by kernel_rfl) (by decide) rfl c_label_clock L_label_clock R_label_clock
    (by intro x hx; cases hx) (by intro k x hx; cases hx) (by intro x hx; cases hx) (by intro k x hx; cases hx) (fun d out h => ⟨0, (q_label_clock_m 0 d).trans h⟩)

/- horologe/label.Of -/
@[reducible] def pi_label_Of : PSh := ⟨[], [.mk false [.v (.int .i64)], .mk false [.v (.int .i64)], .mk false [.v (.int .i64)], .mk false [.v (.int .i64)]]⟩
@[reducible] def po_label_Of : PSh := ⟨[], [.mk true [.v (.int .i64), .v (.int .i64), .v (.int .i64), .v (.int .i64), .v (.int .i64), .v (.int .i64), .v (.int .i64), .v (.int .i64)], .mk false [.v .err]]⟩
def f_label_Of_m (T : Unit) (d : Unit × ((Int × Unit) × ((Int × Unit) × ((Int × Unit) × ((Int × Unit) × Unit))))) : Option (Unit × ((Int × (Int × (Int × (Int × (Int × (Int × (Int × (Int × Unit)))))))) × (((Option Int) × Unit) × Unit))) :=
  (g_label_there ((), ((d.2.1.1, ()), ()))).bind fun x1 =>
  let x2 : Bool := (!x1.2.1.1)
  bif x2 then (
  let x3 : (Option Int) := (some (13 : Int))
  some ((), (((0 : Int), ((0 : Int), ((0 : Int), ((0 : Int), ((0 : Int), ((0 : Int), ((0 : Int), ((0 : Int), ())))))))), ((x3, ()), ()))))
  else (
  (g_label_in ((), ((d.2.2.1.1, ()), (((86401 : Int), ()), ())))).bind fun x4 =>
  let x5 : Bool := (!x4.2.1.1)
  bif x5 then (
  let x6 : (Option Int) := (some (1 : Int))
  some ((), (((0 : Int), ((0 : Int), ((0 : Int), ((0 : Int), ((0 : Int), ((0 : Int), ((0 : Int), ((0 : Int), ())))))))), ((x6, ()), ()))))
  else (
  (g_label_in ((), ((d.2.2.2.1.1, ()), (((1000000000 : Int), ()), ())))).bind fun x7 =>
  let x8 : Bool := (!x7.2.1.1)
  bif x8 then (
  let x9 : (Option Int) := (some (1 : Int))
  some ((), (((0 : Int), ((0 : Int), ((0 : Int), ((0 : Int), ((0 : Int), ((0 : Int), ((0 : Int), ((0 : Int), ())))))))), ((x9, ()), ()))))
  else (
  (g_label_shifts ((), ((d.2.2.2.2.1.1, ()), ()))).bind fun x10 =>
  let x11 : Bool := (!x10.2.1.1)
  bif x11 then (
  let x12 : (Option Int) := (some (1 : Int))
  some ((), (((0 : Int), ((0 : Int), ((0 : Int), ((0 : Int), ((0 : Int), ((0 : Int), ((0 : Int), ((0 : Int), ())))))))), ((x12, ()), ()))))
  else (
  (g_label_clock ((), ((d.2.2.1.1, ()), ()))).bind fun x13 =>
  let x14 : Int := (iadd .i64 x13.2.1.1 d.2.2.2.2.1.1)
  (g_num_Split ((), ((x14, ()), (((1440 : Int), ()), ())))).bind fun x15 =>
  let x16 : Bool := (!x15.2.2.2.1.1.isNone)
  bif x16 then (
  some ((), (((0 : Int), ((0 : Int), ((0 : Int), ((0 : Int), ((0 : Int), ((0 : Int), ((0 : Int), ((0 : Int), ())))))))), ((x15.2.2.2.1.1, ()), ()))))
  else (
  let x17 : Int := (iquo .i64 x15.2.2.1.1 (60 : Int))
  let x18 : Int := (Int.tmod x15.2.2.1.1 (60 : Int))
  let x19 : Int := (iadd .i64 d.2.1.1 x15.2.1.1)
  (g_day_Date ((), ((x19, ()), ()))).bind fun x20 =>
  let x21 : Bool := (!x20.2.2.2.2.1.1.isNone)
  bif x21 then (
  some ((), (((0 : Int), ((0 : Int), ((0 : Int), ((0 : Int), ((0 : Int), ((0 : Int), ((0 : Int), ((0 : Int), ())))))))), ((x20.2.2.2.2.1.1, ()), ()))))
  else (
  some ((), ((x20.2.1.1, (x20.2.2.1.1, (x20.2.2.2.1.1, (x17, (x18, (x13.2.2.1.1, (d.2.2.2.1.1, (d.2.2.2.2.1.1, ())))))))), (((none : Option Int), ()), ())))))))))
def c_label_Of : List Nat := []
def L_label_Of (_ : Nat) : Pts po_label_Of.den := []
def R_label_Of (_ : Nat) : PtsR po_label_Of.den := []
def E_label_Of : Env := ((((((E0.add 56 (typedSem pi_day_Date po_day_Date g_day_Date)).add 68 (typedSem pi_num_Split po_num_Split g_num_Split)).add 95 (typedSem pi_label_there po_label_there g_label_there)).add 96 (typedSem pi_label_in po_label_in g_label_in)).add 97 (typedSem pi_label_shifts po_label_shifts g_label_shifts)).add 98 (typedSem pi_label_clock po_label_clock g_label_clock))
theorem q_label_Of_m (k : Nat) (d : Unit × ((Int × Unit) × ((Int × Unit) × ((Int × Unit) × ((Int × Unit) × Unit))))) : evCode E_label_Of (tb (L_label_Of k) (R_label_Of k)) c_label_Of (bodyOf Try.f69) 0 (finK E_label_Of po_label_Of [.cell 8 57, .tmp 9]) (startSt pi_label_Of 80 d) = f_label_Of_m () d := by kernel_rfl
def g_label_Of (d : Unit × ((Int × Unit) × ((Int × Unit) × ((Int × Unit) × ((Int × Unit) × Unit))))) : Option (Unit × ((Int × (Int × (Int × (Int × (Int × (Int × (Int × (Int × Unit)))))))) × (((Option Int) × Unit) × Unit))) := f_label_Of_m () d
theorem ok_label_Of : FnOk Try.prog ET0 69 pi_label_Of po_label_Of g_label_Of :=
  fn_of_body (E := E_label_Of) (envOk_add (envOk_add (envOk_add (envOk_add (envOk_add (envOk_add e0_ok (typed_ok ok_day_Date)) (typed_ok ok_num_Split)) (typed_ok ok_label_there)) (typed_ok ok_label_in)) (typed_ok ok_label_shifts)) (typed_ok ok_label_clock)) (fn := Try.f69) Try.func69 (by kernel_rfl) (by kernel_rfl) [.cell 8 57, .tmp 9] (by kernel_rfl) (by kernel_rfl) (by decide) rfl c_label_Of L_label_Of R_label_Of
    (by intro x hx; cases hx) (by intro k x hx; cases hx) (by intro x hx; cases hx) (by intro k x hx; cases hx) (fun d out h => ⟨0, (q_label_Of_m 0 d).trans h⟩)

/- horologe/scale.FromPosix -/
@[reducible] def pi_scale_FromPosix : PSh := ⟨[], [.mk false [.v (.int .i64)], .mk false [.v (.int .i64)], .mk false [.v (.int .i64)]]⟩
@[reducible] def po_scale_FromPosix : PSh := ⟨[], [.mk true [.v (.int .i64), .v (.int .i64), .v (.int .i64), .v (.int .i64), .v (.int .i64), .v (.int .i64), .v (.int .i64), .v (.int .i64)], .mk false [.v .err]]⟩
def f_scale_FromPosix_m (T : Unit) (d : Unit × ((Int × Unit) × ((Int × Unit) × ((Int × Unit) × Unit)))) : Option (Unit × ((Int × (Int × (Int × (Int × (Int × (Int × (Int × (Int × Unit)))))))) × (((Option Int) × Unit) × Unit))) :=
  (g_num_Split ((), ((d.2.1.1, ()), (((86400 : Int), ()), ())))).bind fun x1 =>
  let x2 : Bool := (!x1.2.2.2.1.1.isNone)
  bif x2 then (
  some ((), (((0 : Int), ((0 : Int), ((0 : Int), ((0 : Int), ((0 : Int), ((0 : Int), ((0 : Int), ((0 : Int), ())))))))), ((x1.2.2.2.1.1, ()), ()))))
  else (
  (g_label_Of ((), ((x1.2.1.1, ()), ((x1.2.2.1.1, ()), ((d.2.2.1.1, ()), ((d.2.2.2.1.1, ()), ())))))).bind fun x3 =>
  some ((), ((x3.2.1.1, (x3.2.1.2.1, (x3.2.1.2.2.1, (x3.2.1.2.2.2.1, (x3.2.1.2.2.2.2.1, (x3.2.1.2.2.2.2.2.1, (x3.2.1.2.2.2.2.2.2.1, (x3.2.1.2.2.2.2.2.2.2.1, ())))))))), ((x3.2.2.1.1, ()), ()))))
def c_scale_FromPosix : List Nat := []
def L_scale_FromPosix (_ : Nat) : Pts po_scale_FromPosix.den := []
def R_scale_FromPosix (_ : Nat) : PtsR po_scale_FromPosix.den := []
def E_scale_FromPosix : Env := ((E0.add 68 (typedSem pi_num_Split po_num_Split g_num_Split)).add 69 (typedSem pi_label_Of po_label_Of g_label_Of))
theorem q_scale_FromPosix_m (k : Nat) (d : Unit × ((Int × Unit) × ((Int × Unit) × ((Int × Unit) × Unit)))) : evCode E_scale_FromPosix (tb (L_scale_FromPosix k) (R_scale_FromPosix k)) c_scale_FromPosix (bodyOf Try.f48) 0 (finK E_scale_FromPosix po_scale_FromPosix [.cell 6 57, .tmp 7]) (startSt pi_scale_FromPosix 28 d) = f_scale_FromPosix_m () d := by kernel_rfl
def g_scale_FromPosix (d : Unit × ((Int × Unit) × ((Int × Unit) × ((Int × Unit) × Unit)))) : Option (Unit × ((Int × (Int × (Int × (Int × (Int × (Int × (Int × (Int × Unit)))))))) × (((Option Int) × Unit) × Unit))) := f_scale_FromPosix_m () d
theorem ok_scale_FromPosix : FnOk Try.prog ET0 48 pi_scale_FromPosix po_scale_FromPosix g_scale_FromPosix :=
  fn_of_body (E := E_scale_FromPosix) (envOk_add (envOk_add e0_ok (typed_ok ok_num_Split)) (typed_ok ok_label_Of)) (fn := Try.f48) Try.func48 (by kernel_rfl) (by kernel_rfl) [.cell 6 57, .tmp 7] (by kernel_rfl) (by kernel_rfl) (by decide) rfl c_scale_FromPosix L_scale_FromPosix R_scale_FromPosix
    (by intro x hx; cases hx) (by intro k x hx; cases hx) (by intro x hx; cases hx) (by intro k x hx; cases hx) (fun d out h => ⟨0, (q_scale_FromPosix_m 0 d).trans h⟩)

/- horologe/word.Label -/
@[reducible] def pi_word_Label : PSh := ⟨[], [.mk false [.v (.sl (.int .u8))], .mk false [.v (.int .i64)]]⟩
@[reducible] def po_word_Label : PSh := ⟨[], [.mk true [.v (.int .i64), .v (.int .i64), .v (.int .i64), .v (.int .i64), .v (.int .i64), .v (.int .i64), .v (.int .i64), .v (.int .i64)], .mk false [.v .err]]⟩
def f_word_Label_m (T : Unit) (d : Unit × (((List Int) × Unit) × ((Int × Unit) × Unit))) : Option (Unit × ((Int × (Int × (Int × (Int × (Int × (Int × (Int × (Int × Unit)))))))) × (((Option Int) × Unit) × Unit))) :=
  (g_word_Near ((), ((d.2.1.1, ()), ((d.2.2.1.1, ()), ())))).bind fun x1 =>
  let x2 : Bool := (!x1.2.2.1.1.isNone)
  bif x2 then (
  some ((), (((0 : Int), ((0 : Int), ((0 : Int), ((0 : Int), ((0 : Int), ((0 : Int), ((0 : Int), ((0 : Int), ())))))))), ((x1.2.2.1.1, ()), ()))))
  else (
  (g_scale_FromPosix ((), ((x1.2.1.1, ()), (((0 : Int), ()), (((0 : Int), ()), ()))))).bind fun x3 =>
  some ((), ((x3.2.1.1, (x3.2.1.2.1, (x3.2.1.2.2.1, (x3.2.1.2.2.2.1, (x3.2.1.2.2.2.2.1, (x3.2.1.2.2.2.2.2.1, (x3.2.1.2.2.2.2.2.2.1, (x3.2.1.2.2.2.2.2.2.2.1, ())))))))), ((x3.2.2.1.1, ()), ()))))
def c_word_Label : List Nat := []
def L_word_Label (_ : Nat) : Pts po_word_Label.den := []
def R_word_Label (_ : Nat) : PtsR po_word_Label.den := []
def E_word_Label : Env := ((E0.add 18 (typedSem pi_word_Near po_word_Near g_word_Near)).add 48 (typedSem pi_scale_FromPosix po_scale_FromPosix g_scale_FromPosix))
theorem q_word_Label_m (k : Nat) (d : Unit × (((List Int) × Unit) × ((Int × Unit) × Unit))) : evCode E_word_Label (tb (L_word_Label k) (R_word_Label k)) c_word_Label (bodyOf Try.f19) 0 (finK E_word_Label po_word_Label [.cell 4 57, .tmp 5]) (startSt pi_word_Label 22 d) = f_word_Label_m () d := by kernel_rfl
def g_word_Label (d : Unit × (((List Int) × Unit) × ((Int × Unit) × Unit))) : Option (Unit × ((Int × (Int × (Int × (Int × (Int × (Int × (Int × (Int × Unit)))))))) × (((Option Int) × Unit) × Unit))) := f_word_Label_m () d
theorem ok_word_Label : FnOk Try.prog ET0 19 pi_word_Label po_word_Label g_word_Label :=
  fn_of_body (E := E_word_Label) (envOk_add (envOk_add e0_ok (typed_ok ok_word_Near)) (typed_ok ok_scale_FromPosix)) (fn := Try.f19) Try.func19 (by kernel_rfl) (by kernel_rfl) [.cell 4 57, .tmp 5] (by kernel_rfl) (by kernel_rfl) (by decide) rfl c_word_Label L_word_Label R_word_Label
    (by intro x hx; cases hx) (by intro k x hx; cases hx) (by intro x hx; cases hx) (by intro k x hx; cases hx) (fun d out h => ⟨0, (q_word_Label_m 0 d).trans h⟩)

/- horologe/day.right -/
@[reducible] def pi_day_right : PSh := ⟨[], [.mk false [.v (.int .i64)]]⟩
@[reducible] def po_day_right : PSh := ⟨[], [.mk false [.v .bool]]⟩
def f_day_right_m (T : Unit) (d : Unit × ((Int × Unit) × Unit)) : Option (Unit × ((Bool × Unit) × Unit)) :=
  let x1 : Bool := (decide (d.2.1.1 ≥ (-9999 : Int)))
  bif x1 then (
  let x2 : Bool := (decide (d.2.1.1 ≤ (9999 : Int)))
  some ((), ((x2, ()), ())))
  else (
  some ((), ((false, ()), ())))
def c_day_right : List Nat := []
def L_day_right (_ : Nat) : Pts po_day_right.den := []
def R_day_right (_ : Nat) : PtsR po_day_right.den := []
def E_day_right : Env := E0
theorem q_day_right_m (k : Nat) (d : Unit × ((Int × Unit) × Unit)) : evCode E_day_right (tb (L_day_right k) (R_day_right k)) c_day_right (bodyOf Try.f123) 0 (finK E_day_right po_day_right [.tmp 2]) (startSt pi_day_right 9 d) = f_day_right_m () d := by kernel_rfl
def g_day_right (d : Unit × ((Int × Unit) × Unit)) : Option (Unit × ((Bool × Unit) × Unit)) := f_day_right_m () d
theorem ok_day_right : FnOk Try.prog ET0 123 pi_day_right po_day_right g_day_right :=
  fn_of_body (E := E_day_right) e0_ok (fn := Try.f123) Try.func123 (by kernel_rfl) (by kernel_rfl) [.tmp 2] (by kernel_rfl) (by kernel_rfl) (by decide) rfl c_day_right L_day_right R_day_right
    (by intro x hx; cases hx) (by intro k x hx; cases hx) (by intro x hx; cases hx) (by intro k x hx; cases hx) (fun d out h => ⟨0, (q_day_right_m 0 d).trans h⟩)

/- horologe/day.Leap -/
@[reducible] def pi_day_Leap : PSh := ⟨[], [.mk false [.v (.int .i64)]]⟩
@[reducible] def po_day_Leap : PSh := ⟨[], [.mk false [.v .bool]]⟩
def f_day_Leap_m (T : Unit) (d : Unit × ((Int × Unit) × Unit)) : Option (Unit × ((Bool × Unit) × Unit)) :=
  let x1 : Int := (Int.tmod d.2.1.1 (4 : Int))
  let x2 : Bool := (x1 == (0 : Int))
  bif x2 then (
  let x3 : Int := (Int.tmod d.2.1.1 (100 : Int))
  let x4 : Bool := (x3 != (0 : Int))
  bif x4 then (
  some ((), ((true, ()), ())))
  else (
  let x5 : Int := (Int.tmod d.2.1.1 (400 : Int))
  let x6 : Bool := (x5 == (0 : Int))
  some ((), ((x6, ()), ()))))
  else (
  some ((), ((false, ()), ())))
def c_day_Leap : List Nat := []
def L_day_Leap (_ : Nat) : Pts po_day_Leap.den := []
def R_day_Leap (_ : Nat) : PtsR po_day_Leap.den := []
def E_day_Leap : Env := E0
theorem q_day_Leap_m (k : Nat) (d : Unit × ((Int × Unit) × Unit)) : evCode E_day_Leap (tb (L_day_Leap k) (R_day_Leap k)) c_day_Leap (bodyOf Try.f124) 0 (finK E_day_Leap po_day_Leap [.tmp 2]) (startSt pi_day_Leap 16 d) = f_day_Leap_m () d := by kernel_rfl
def g_day_Leap (d : Unit × ((Int × Unit) × Unit)) : Option (Unit × ((Bool × Unit) × Unit)) := f_day_Leap_m () d
theorem ok_day_Leap : FnOk Try.prog ET0 124 pi_day_Leap po_day_Leap g_day_Leap :=
  fn_of_body (E := E_day_Leap) e0_ok (fn := Try.f124) Try.func124 (by kernel_rfl) (by kernel_rfl) [.tmp 2] (by kernel_rfl) (by kernel_rfl) (by decide) rfl c_day_Leap L_day_Leap R_day_Leap
    (by intro x hx; cases hx) (by intro k x hx; cases hx) (by intro x hx; cases hx) (by intro k x hx; cases hx) (fun d out h => ⟨0, (q_day_Leap_m 0 d).trans h⟩)

/- horologe/day.Month -/
@[reducible] def pi_day_Month : PSh := ⟨[], [.mk false [.v (.int .i64)], .mk false [.v (.int .i64)]]⟩
@[reducible] def po_day_Month : PSh := ⟨[], [.mk false [.v (.int .i64)], .mk false [.v .err]]⟩
def f_day_Month_m (T : Unit) (d : Unit × ((Int × Unit) × ((Int × Unit) × Unit))) : Option (Unit × ((Int × Unit) × (((Option Int) × Unit) × Unit))) :=
  (g_day_right ((), ((d.2.1.1, ()), ()))).bind fun x1 =>
  let x2 : Bool := (!x1.2.1.1)
  bif x2 then (
  let x3 : (Option Int) := (some (13 : Int))
  some ((), (((0 : Int), ()), ((x3, ()), ()))))
  else (
  let x4 : Bool := (decide (d.2.2.1.1 < (1 : Int)))
  bif x4 then (
  let x5 : (Option Int) := (some (1 : Int))
  some ((), (((0 : Int), ()), ((x5, ()), ()))))
  else (
  let x6 : Bool := (decide (d.2.2.1.1 > (12 : Int)))
  bif x6 then (
  let x7 : (Option Int) := (some (1 : Int))
  some ((), (((0 : Int), ()), ((x7, ()), ()))))
  else (
  let x8 : Bool := (d.2.2.1.1 == (2 : Int))
  bif x8 then (
  (g_day_Leap ((), ((d.2.1.1, ()), ()))).bind fun x9 =>
  bif x9.2.1.1 then (
  some ((), (((29 : Int), ()), (((none : Option Int), ()), ()))))
  else (
  let x10 : Bool := (d.2.2.1.1 == (2 : Int))
  bif x10 then (
  some ((), (((28 : Int), ()), (((none : Option Int), ()), ()))))
  else (
  let x11 : Int := (iquo .i64 d.2.2.1.1 (8 : Int))
  let x12 : Int := (iadd .i64 d.2.2.1.1 x11)
  let x13 : Int := (Int.tmod x12 (2 : Int))
  let x14 : Int := (iadd .i64 (30 : Int) x13)
  some ((), ((x14, ()), (((none : Option Int), ()), ()))))))
  else (
  let x15 : Bool := (d.2.2.1.1 == (2 : Int))
  bif x15 then (
  some ((), (((28 : Int), ()), (((none : Option Int), ()), ()))))
  else (
  let x16 : Int := (iquo .i64 d.2.2.1.1 (8 : Int))
  let x17 : Int := (iadd .i64 d.2.2.1.1 x16)
  let x18 : Int := (Int.tmod x17 (2 : Int))
  let x19 : Int := (iadd .i64 (30 : Int) x18)
  some ((), ((x19, ()), (((none : Option Int), ()), ()))))))))
def c_day_Month : List Nat := []
def L_day_Month (_ : Nat) : Pts po_day_Month.den := []
def R_day_Month (_ : Nat) : PtsR po_day_Month.den := []
def E_day_Month : Env := ((E0.add 123 (typedSem pi_day_right po_day_right g_day_right)).add 124 (typedSem pi_day_Leap po_day_Leap g_day_Leap))
theorem q_day_Month_m (k : Nat) (d : Unit × ((Int × Unit) × ((Int × Unit) × Unit))) : evCode E_day_Month (tb (L_day_Month k) (R_day_Month k)) c_day_Month (bodyOf Try.f122) 0 (finK E_day_Month po_day_Month [.tmp 4, .tmp 5]) (startSt pi_day_Month 35 d) = f_day_Month_m () d := by kernel_rfl
def g_day_Month (d : Unit × ((Int × Unit) × ((Int × Unit) × Unit))) : Option (Unit × ((Int × Unit) × (((Option Int) × Unit) × Unit))) := f_day_Month_m () d
theorem ok_day_Month : FnOk Try.prog ET0 122 pi_day_Month po_day_Month g_day_Month :=
  fn_of_body (E := E_day_Month) (envOk_add (envOk_add e0_ok (typed_ok ok_day_right)) (typed_ok ok_day_Leap)) (fn := Try.f122) Try.func122 (by kernel_rfl) (by kernel_rfl) [.tmp 4, .tmp 5] (by kernel_rfl) (by kernel_rfl) (by decide) rfl c_day_Month L_day_Month R_day_Month
    (by intro x hx; cases hx) (by intro k x hx; cases hx) (by intro x hx; cases hx) (by intro k x hx; cases hx) (fun d out h => ⟨0, (q_day_Month_m 0 d).trans h⟩)

/- horologe/day.check -/
@[reducible] def pi_day_check : PSh := ⟨[], [.mk false [.v (.int .i64)], .mk false [.v (.int .i64)], .mk false [.v (.int .i64)]]⟩
@[reducible] def po_day_check : PSh := ⟨[], [.mk false [.v .err]]⟩
def f_day_check_m (T : Unit) (d : Unit × ((Int × Unit) × ((Int × Unit) × ((Int × Unit) × Unit)))) : Option (Unit × (((Option Int) × Unit) × Unit)) :=
  (g_day_Month ((), ((d.2.1.1, ()), ((d.2.2.1.1, ()), ())))).bind fun x1 =>
  let x2 : Bool := (!x1.2.2.1.1.isNone)
  bif x2 then (
  some ((), ((x1.2.2.1.1, ()), ())))
  else (
  let x3 : Bool := (decide (d.2.2.2.1.1 < (1 : Int)))
  bif x3 then (
  let x4 : (Option Int) := (some (1 : Int))
  some ((), ((x4, ()), ())))
  else (
  let x5 : Bool := (decide (d.2.2.2.1.1 > x1.2.1.1))
  bif x5 then (
  let x6 : (Option Int) := (some (1 : Int))
  some ((), ((x6, ()), ())))
  else (
  some ((), (((none : Option Int), ()), ())))))
def c_day_check : List Nat := []
def L_day_check (_ : Nat) : Pts po_day_check.den := []
def R_day_check (_ : Nat) : PtsR po_day_check.den := []
def E_day_check : Env := (E0.add 122 (typedSem pi_day_Month po_day_Month g_day_Month))
theorem q_day_check_m (k : Nat) (d : Unit × ((Int × Unit) × ((Int × Unit) × ((Int × Unit) × Unit)))) : evCode E_day_check (tb (L_day_check k) (R_day_check k)) c_day_check (bodyOf Try.f121) 0 (finK E_day_check po_day_check [.tmp 6]) (startSt pi_day_check 28 d) = f_day_check_m () d := by kernel_rfl
def g_day_check (d : Unit × ((Int × Unit) × ((Int × Unit) × ((Int × Unit) × Unit)))) : Option (Unit × (((Option Int) × Unit) × Unit)) := f_day_check_m () d
theorem ok_day_check : FnOk Try.prog ET0 121 pi_day_check po_day_check g_day_check :=
  fn_of_body (E := E_day_check) (envOk_add e0_ok (typed_ok ok_day_Month)) (fn := Try.f121) Try.func121 (by kernel_rfl) (by kernel_rfl) [.tmp 6] (by kernel_rfl) (by kernel_rfl) (by decide) rfl c_day_check L_day_check R_day_check
    (by intro x hx; cases hx) (by intro k x hx; cases hx) (by intro x hx; cases hx) (by intro k x hx; cases hx) (fun d out h => ⟨0, (q_day_check_m 0 d).trans h⟩)

/- horologe/day.Of -/
@[reducible] def pi_day_Of : PSh := ⟨[], [.mk false [.v (.int .i64)], .mk false [.v (.int .i64)], .mk false [.v (.int .i64)]]⟩
@[reducible] def po_day_Of : PSh := ⟨[], [.mk false [.v (.int .i64)], .mk false [.v .err]]⟩
def f_day_Of_m (T : Unit) (d : Unit × ((Int × Unit) × ((Int × Unit) × ((Int × Unit) × Unit)))) : Option (Unit × ((Int × Unit) × (((Option Int) × Unit) × Unit))) :=
  (g_day_check ((), ((d.2.1.1, ()), ((d.2.2.1.1, ()), ((d.2.2.2.1.1, ()), ()))))).bind fun x1 =>
  let x2 : Bool := (!x1.2.1.1.isNone)
  bif x2 then (
  some ((), (((0 : Int), ()), ((x1.2.1.1, ()), ()))))
  else (
  (g_day_number ((), ((d.2.1.1, ()), ((d.2.2.1.1, ()), ((d.2.2.2.1.1, ()), ()))))).bind fun x3 =>
  some ((), ((x3.2.1.1, ()), (((none : Option Int), ()), ()))))
def c_day_Of : List Nat := []
def L_day_Of (_ : Nat) : Pts po_day_Of.den := []
def R_day_Of (_ : Nat) : PtsR po_day_Of.den := []
def E_day_Of : Env := ((E0.add 112 (typedSem pi_day_number po_day_number g_day_number)).add 121 (typedSem pi_day_check po_day_check g_day_check))
theorem q_day_Of_m (k : Nat) (d : Unit × ((Int × Unit) × ((Int × Unit) × ((Int × Unit) × Unit)))) : evCode E_day_Of (tb (L_day_Of k) (R_day_Of k)) c_day_Of (bodyOf Try.f120) 0 (finK E_day_Of po_day_Of [.tmp 6, .tmp 7]) (startSt pi_day_Of 20 d) = f_day_Of_m () d := by kernel_rfl
def g_day_Of (d : Unit × ((Int × Unit) × ((Int × Unit) × ((Int × Unit) × Unit)))) : Option (Unit × ((Int × Unit) × (((Option Int) × Unit) × Unit))) := f_day_Of_m () d
theorem ok_day_Of : FnOk Try.prog ET0 120 pi_day_Of po_day_Of g_day_Of :=
  fn_of_body (E := E_day_Of) (envOk_add (envOk_add e0_ok (typed_ok ok_day_number)) (typed_ok ok_day_check)) (fn := Try.f120) Try.func120 (by kernel_rfl) (by kernel_rfl) [.tmp 6, .tmp 7] (by kernel_rfl) (by kernel_rfl) (by decide) rfl c_day_Of L_day_Of R_day_Of
    (by intro x hx; cases hx) (by intro k x hx; cases hx) (by intro x hx; cases hx) (by intro k x hx; cases hx) (fun d out h => ⟨0, (q_day_Of_m 0 d).trans h⟩)

/- (horologe/label.Label).fields -/
@[reducible] def pi_label_Label_fields : PSh := ⟨[], [.mk true [.v (.int .i64), .v (.int .i64), .v (.int .i64), .v (.int .i64), .v (.int .i64), .v (.int .i64), .v (.int .i64), .v (.int .i64)]]⟩
@[reducible] def po_label_Label_fields : PSh := ⟨[], [.mk false [.v .err]]⟩
def f_label_Label_fields_m (T : Unit) (d : Unit × ((Int × (Int × (Int × (Int × (Int × (Int × (Int × (Int × Unit)))))))) × Unit)) : Option (Unit × (((Option Int) × Unit) × Unit)) :=
  (g_day_Of ((), ((d.2.1.1, ()), ((d.2.1.2.1, ()), ((d.2.1.2.2.1, ()), ()))))).bind fun x1 =>
  let x2 : Bool := (!x1.2.2.1.1.isNone)
  bif x2 then (
  some ((), ((x1.2.2.1.1, ()), ())))
  else (
  (g_label_in ((), ((d.2.1.2.2.2.1, ()), (((24 : Int), ()), ())))).bind fun x3 =>
  let x4 : Bool := (!x3.2.1.1)
  bif x4 then (
  let x5 : (Option Int) := (some (1 : Int))
  some ((), ((x5, ()), ())))
  else (
  (g_label_in ((), ((d.2.1.2.2.2.2.1, ()), (((60 : Int), ()), ())))).bind fun x6 =>
  let x7 : Bool := (!x6.2.1.1)
  bif x7 then (
  let x8 : (Option Int) := (some (1 : Int))
  some ((), ((x8, ()), ())))
  else (
  (g_label_in ((), ((d.2.1.2.2.2.2.2.1, ()), (((61 : Int), ()), ())))).bind fun x9 =>
  let x10 : Bool := (!x9.2.1.1)
  bif x10 then (
  let x11 : (Option Int) := (some (1 : Int))
  some ((), ((x11, ()), ())))
  else (
  (g_label_in ((), ((d.2.1.2.2.2.2.2.2.1, ()), (((1000000000 : Int), ()), ())))).bind fun x12 =>
  let x13 : Bool := (!x12.2.1.1)
  bif x13 then (
  let x14 : (Option Int) := (some (1 : Int))
  some ((), ((x14, ()), ())))
  else (
  (g_label_shifts ((), ((d.2.1.2.2.2.2.2.2.2.1, ()), ()))).bind fun x15 =>
  let x16 : Bool := (!x15.2.1.1)
  bif x16 then (
  let x17 : (Option Int) := (some (1 : Int))
  some ((), ((x17, ()), ())))
  else (
  some ((), (((none : Option Int), ()), ()))))))))
def c_label_Label_fields : List Nat := []
def L_label_Label_fields (_ : Nat) : Pts po_label_Label_fields.den := []
def R_label_Label_fields (_ : Nat) : PtsR po_label_Label_fields.den := []
def E_label_Label_fields : Env := (((E0.add 96 (typedSem pi_label_in po_label_in g_label_in)).add 97 (typedSem pi_label_shifts po_label_shifts g_label_shifts)).add 120 (typedSem pi_day_Of po_day_Of g_day_Of))
theorem q_label_Label_fields_m (k : Nat) (d : Unit × ((Int × (Int × (Int × (Int × (Int × (Int × (Int × (Int × Unit)))))))) × Unit)) : evCode E_label_Label_fields (tb (L_label_Label_fields k) (R_label_Label_fields k)) c_label_Label_fields (bodyOf Try.f113) 0 (finK E_label_Label_fields po_label_Label_fields [.tmp 2]) (startSt pi_label_Label_fields 47 d) = f_label_Label_fields_m () d := by kernel_rfl
def g_label_Label_fields (d : Unit × ((Int × (Int × (Int × (Int × (Int × (Int × (Int × (Int × Unit)))))))) × Unit)) : Option (Unit × (((Option Int) × Unit) × Unit)) := f_label_Label_fields_m () d
theorem ok_label_Label_fields : FnOk Try.prog ET0 113 pi_label_Label_fields po_label_Label_fields g_label_Label_fields :=
  fn_of_body (E := E_label_Label_fields) (envOk_add (envOk_add (envOk_add e0_ok (typed_ok ok_label_in)) (typed_ok ok_label_shifts)) (typed_ok ok_day_Of)) (fn := Try.f113) Try.func113 (by kernel_rfl) (by kernel_rfl) [.tmp 2] (by kernel_rfl) (by kernel_rfl) (by decide) rfl c_label_Label_fields L_label_Label_fields R_label_Label_fields
    (by intro x hx; cases hx) (by intro k x hx; cases hx) (by intro x hx; cases hx) (by intro k x hx; cases hx) (fun d out h => ⟨0, (q_label_Label_fields_m 0 d).trans h⟩)

/- (horologe/label.Label).place -/
@[reducible] def pi_label_Label_place : PSh := ⟨[], [.mk true [.v (.int .i64), .v (.int .i64), .v (.int .i64), .v (.int .i64), .v (.int .i64), .v (.int .i64), .v (.int .i64), .v (.int .i64)]]⟩
@[reducible] def po_label_Label_place : PSh := ⟨[], [.mk false [.v (.int .i64)], .mk false [.v (.int .i64)], .mk false [.v .err]]⟩
def f_label_Label_place_m (T : Unit) (d : Unit × ((Int × (Int × (Int × (Int × (Int × (Int × (Int × (Int × Unit)))))))) × Unit)) : Option (Unit × ((Int × Unit) × ((Int × Unit) × (((Option Int) × Unit) × Unit)))) :=
  (g_day_Of ((), ((d.2.1.1, ()), ((d.2.1.2.1, ()), ((d.2.1.2.2.1, ()), ()))))).bind fun x1 =>
  let x2 : Bool := (!x1.2.2.1.1.isNone)
  bif x2 then (
  some ((), (((0 : Int), ()), (((0 : Int), ()), ((x1.2.2.1.1, ()), ())))))
  else (
  let x3 : Int := (imul .i64 d.2.1.2.2.2.1 (60 : Int))
  let x4 : Int := (iadd .i64 x3 d.2.1.2.2.2.2.1)
  let x5 : Int := (isub .i64 x4 d.2.1.2.2.2.2.2.2.2.1)
  (g_num_Split ((), ((x5, ()), (((1440 : Int), ()), ())))).bind fun x6 =>
  let x7 : Bool := (!x6.2.2.2.1.1.isNone)
  bif x7 then (
  some ((), (((0 : Int), ()), (((0 : Int), ()), ((x6.2.2.2.1.1, ()), ())))))
  else (
  let x8 : Int := (iadd .i64 x1.2.1.1 x6.2.1.1)
  some ((), ((x8, ()), ((x6.2.2.1.1, ()), (((none : Option Int), ()), ()))))))
def c_label_Label_place : List Nat := []
def L_label_Label_place (_ : Nat) : Pts po_label_Label_place.den := []
def R_label_Label_place (_ : Nat) : PtsR po_label_Label_place.den := []
def E_label_Label_place : Env := ((E0.add 68 (typedSem pi_num_Split po_num_Split g_num_Split)).add 120 (typedSem pi_day_Of po_day_Of g_day_Of))
theorem q_label_Label_place_m (k : Nat) (d : Unit × ((Int × (Int × (Int × (Int × (Int × (Int × (Int × (Int × Unit)))))))) × Unit)) : evCode E_label_Label_place (tb (L_label_Label_place k) (R_label_Label_place k)) c_label_Label_place (bodyOf Try.f114) 0 (finK E_label_Label_place po_label_Label_place [.tmp 2, .tmp 3, .tmp 4]) (startSt pi_label_Label_place 43 d) = f_label_Label_place_m () d := by kernel_rfl
def g_label_Label_place (d : Unit × ((Int × (Int × (Int × (Int × (Int × (Int × (Int × (Int × Unit)))))))) × Unit)) : Option (Unit × ((Int × Unit) × ((Int × Unit) × (((Option Int) × Unit) × Unit)))) := f_label_Label_place_m () d
theorem ok_label_Label_place : FnOk Try.prog ET0 114 pi_label_Label_place po_label_Label_place g_label_Label_place :=
  fn_of_body (E := E_label_Label_place) (envOk_add (envOk_add e0_ok (typed_ok ok_num_Split)) (typed_ok ok_day_Of)) (fn := Try.f114) Try.func114 (by kernel_rfl) (by kernel_rfl) [.tmp 2, .tmp 3, .tmp 4] (by kernel_rfl) (by kernel_rfl) (by decide) rfl c_label_Label_place L_label_Label_place R_label_Label_place
    (by intro x hx; cases hx) (by intro k x hx; cases hx) (by intro x hx; cases hx) (by intro k x hx; cases hx) (fun d out h => ⟨0, (q_label_Label_place_m 0 d).trans h⟩)

/- horologe/label.Check -/
@[reducible] def pi_label_Check : PSh := ⟨[], [.mk true [.v (.int .i64), .v (.int .i64), .v (.int .i64), .v (.int .i64), .v (.int .i64), .v (.int .i64), .v (.int .i64), .v (.int .i64)]]⟩
@[reducible] def po_label_Check : PSh := ⟨[], [.mk false [.v .err]]⟩
def f_label_Check_m (T : Unit) (d : Unit × ((Int × (Int × (Int × (Int × (Int × (Int × (Int × (Int × Unit)))))))) × Unit)) : Option (Unit × (((Option Int) × Unit) × Unit)) :=
  (g_label_Label_fields ((), ((d.2.1.1, (d.2.1.2.1, (d.2.1.2.2.1, (d.2.1.2.2.2.1, (d.2.1.2.2.2.2.1, (d.2.1.2.2.2.2.2.1, (d.2.1.2.2.2.2.2.2.1, (d.2.1.2.2.2.2.2.2.2.1, ())))))))), ()))).bind fun x1 =>
  let x2 : Bool := (!x1.2.1.1.isNone)
  bif x2 then (
  some ((), ((x1.2.1.1, ()), ())))
  else (
  (g_label_Label_place ((), ((d.2.1.1, (d.2.1.2.1, (d.2.1.2.2.1, (d.2.1.2.2.2.1, (d.2.1.2.2.2.2.1, (d.2.1.2.2.2.2.2.1, (d.2.1.2.2.2.2.2.2.1, (d.2.1.2.2.2.2.2.2.2.1, ())))))))), ()))).bind fun x3 =>
  let x4 : Bool := (!x3.2.2.2.1.1.isNone)
  bif x4 then (
  some ((), ((x3.2.2.2.1.1, ()), ())))
  else (
  (g_label_there ((), ((x3.2.1.1, ()), ()))).bind fun x5 =>
  let x6 : Bool := (!x5.2.1.1)
  bif x6 then (
  let x7 : (Option Int) := (some (13 : Int))
  some ((), ((x7, ()), ())))
  else (
  let x8 : Bool := (d.2.1.2.2.2.2.2.1 == (60 : Int))
  bif x8 then (
  let x9 : Bool := (x3.2.2.1.1 != (1439 : Int))
  bif x9 then (
  let x10 : (Option Int) := (some (12 : Int))
  some ((), ((x10, ()), ())))
  else (
  some ((), (((none : Option Int), ()), ()))))
  else (
  some ((), (((none : Option Int), ()), ()))))))
def c_label_Check : List Nat := []
def L_label_Check (_ : Nat) : Pts po_label_Check.den := []
def R_label_Check (_ : Nat) : PtsR po_label_Check.den := []
def E_label_Check : Env := (((E0.add 95 (typedSem pi_label_there po_label_there g_label_there)).add 113 (typedSem pi_label_Label_fields po_label_Label_fields g_label_Label_fields)).add 114 (typedSem pi_label_Label_place po_label_Label_place g_label_Label_place))
theorem q_label_Check_m (k : Nat) (d : Unit × ((Int × (Int × (Int × (Int × (Int × (Int × (Int × (Int × Unit)))))))) × Unit)) : evCode E_label_Check (tb (L_label_Check k) (R_label_Check k)) c_label_Check (bodyOf Try.f99) 0 (finK E_label_Check po_label_Check [.tmp 2]) (startSt pi_label_Check 36 d) = f_label_Check_m () d := by kernel_rfl
def g_label_Check (d : Unit × ((Int × (Int × (Int × (Int × (Int × (Int × (Int × (Int × Unit)))))))) × Unit)) : Option (Unit × (((Option Int) × Unit) × Unit)) := f_label_Check_m () d
theorem ok_label_Check : FnOk Try.prog ET0 99 pi_label_Check po_label_Check g_label_Check :=
  fn_of_body (E := E_label_Check) (envOk_add (envOk_add (envOk_add e0_ok (typed_ok ok_label_there)) (typed_ok ok_label_Label_fields)) (typed_ok ok_label_Label_place)) (fn := Try.f99) Try.func99 (by kernel_rfl) (by kernel_rfl) [.tmp 2] (by kernel_rfl) (by kernel_rfl) (by decide) rfl c_label_Check L_label_Check R_label_Check
    (by intro x hx; cases hx) (by intro k x hx; cases hx) (by intro x hx; cases hx) (by intro k x hx; cases hx) (fun d out h => ⟨0, (q_label_Check_m 0 d).trans h⟩)

/- horologe/iso.right -/
@[reducible] def pi_iso_right : PSh := ⟨[], [.mk true [.v (.int .i64), .v (.int .i64), .v (.int .i64), .v (.int .i64), .v (.int .i64), .v (.int .i64), .v (.int .i64), .v (.int .i64)]]⟩
@[reducible] def po_iso_right : PSh := ⟨[], [.mk false [.v .err]]⟩
def f_iso_right_m (T : Unit) (d : Unit × ((Int × (Int × (Int × (Int × (Int × (Int × (Int × (Int × Unit)))))))) × Unit)) : Option (Unit × (((Option Int) × Unit) × Unit)) :=
  (g_label_Check ((), ((d.2.1.1, (d.2.1.2.1, (d.2.1.2.2.1, (d.2.1.2.2.2.1, (d.2.1.2.2.2.2.1, (d.2.1.2.2.2.2.2.1, (d.2.1.2.2.2.2.2.2.1, (d.2.1.2.2.2.2.2.2.2.1, ())))))))), ()))).bind fun x1 =>
  let x2 : Bool := (!x1.2.1.1.isNone)
  bif x2 then (
  some ((), ((x1.2.1.1, ()), ())))
  else (
  let x3 : Bool := (decide (d.2.1.1 < (0 : Int)))
  bif x3 then (
  let x4 : (Option Int) := (some (13 : Int))
  some ((), ((x4, ()), ())))
  else (
  some ((), (((none : Option Int), ()), ()))))
def c_iso_right : List Nat := []
def L_iso_right (_ : Nat) : Pts po_iso_right.den := []
def R_iso_right (_ : Nat) : PtsR po_iso_right.den := []
def E_iso_right : Env := (E0.add 99 (typedSem pi_label_Check po_label_Check g_label_Check))
theorem q_iso_right_m (k : Nat) (d : Unit × ((Int × (Int × (Int × (Int × (Int × (Int × (Int × (Int × Unit)))))))) × Unit)) : evCode E_iso_right (tb (L_iso_right k) (R_iso_right k)) c_iso_right (bodyOf Try.f70) 0 (finK E_iso_right po_iso_right [.tmp 2]) (startSt pi_iso_right 13 d) = f_iso_right_m () d := by kernel_rfl
def g_iso_right (d : Unit × ((Int × (Int × (Int × (Int × (Int × (Int × (Int × (Int × Unit)))))))) × Unit)) : Option (Unit × (((Option Int) × Unit) × Unit)) := f_iso_right_m () d
theorem ok_iso_right : FnOk Try.prog ET0 70 pi_iso_right po_iso_right g_iso_right :=
  fn_of_body (E := E_iso_right) (envOk_add e0_ok (typed_ok ok_label_Check)) (fn := Try.f70) Try.func70 (by kernel_rfl) (by kernel_rfl) [.tmp 2] (by kernel_rfl) (by kernel_rfl) (by decide) rfl c_iso_right L_iso_right R_iso_right
    (by intro x hx; cases hx) (by intro k x hx; cases hx) (by intro x hx; cases hx) (by intro k x hx; cases hx) (fun d out h => ⟨0, (q_iso_right_m 0 d).trans h⟩)

/- horologe/figures.fits -/
@[reducible] def pi_figures_fits : PSh := ⟨[], [.mk false [.v (.int .i64)]]⟩
@[reducible] def po_figures_fits : PSh := ⟨[], [.mk false [.v .bool]]⟩
def f_figures_fits_m (T : Unit) (d : Unit × ((Int × Unit) × Unit)) : Option (Unit × ((Bool × Unit) × Unit)) :=
  let x1 : Bool := (decide (d.2.1.1 ≥ (0 : Int)))
  bif x1 then (
  let x2 : Bool := (decide (d.2.1.1 < (1000000000 : Int)))
  some ((), ((x2, ()), ())))
  else (
  some ((), ((false, ()), ())))
def c_figures_fits : List Nat := []
def L_figures_fits (_ : Nat) : Pts po_figures_fits.den := []
def R_figures_fits (_ : Nat) : PtsR po_figures_fits.den := []
def E_figures_fits : Env := E0
theorem q_figures_fits_m (k : Nat) (d : Unit × ((Int × Unit) × Unit)) : evCode E_figures_fits (tb (L_figures_fits k) (R_figures_fits k)) c_figures_fits (bodyOf Try.f100) 0 (finK E_figures_fits po_figures_fits [.tmp 2]) (startSt pi_figures_fits 9 d) = f_figures_fits_m () d := by kernel_rfl
def g_figures_fits (d : Unit × ((Int × Unit) × Unit)) : Option (Unit × ((Bool × Unit) × Unit)) := f_figures_fits_m () d
theorem ok_figures_fits : FnOk Try.prog ET0 100 pi_figures_fits po_figures_fits g_figures_fits :=
  fn_of_body (E := E_figures_fits) e0_ok (fn := Try.f100) Try.func100 (by kernel_rfl) (by kernel_rfl) [.tmp 2] (by kernel_rfl) (by kernel_rfl) (by decide) rfl c_figures_fits L_figures_fits R_figures_fits
    (by intro x hx; cases hx) (by intro k x hx; cases hx) (by intro x hx; cases hx) (by intro k x hx; cases hx) (fun d out h => ⟨0, (q_figures_fits_m 0 d).trans h⟩)

/- slices.Reverse[[]byte,byte] -/
@[reducible] def pi_slices_Reverse_byte_byte_io : PSh := ⟨[.row 5 (.int .u8)], [.mk false [.osl 0]]⟩
@[reducible] def po_slices_Reverse_byte_byte_io : PSh := ⟨[.row 5 (.int .u8)], [.mk false [.osl 0]]⟩
@[reducible] def TT_slices_Reverse_byte_byte_io : Type := (((((List Int) × Unit) × (Unit × ((Int × Unit) × ((Int × Unit) × Unit)))) → Option (((List Int) × Unit) × (Unit × Unit))) × Unit)
@[reducible] def sh_slices_Reverse_byte_byte_io_1 : PSh := ⟨[.row 5 (.int .u8)], [.mk false [.osl 0], .any, .mk false [.v (.int .i64)], .mk false [.v (.int .i64)], .any, .any, .any, .any, .any, .any, .any, .any, .any, .any, .any, .any, .any, .any, .any, .any, .any, .any, .any, .any, .any, .any, .any, .any]⟩
def f_slices_Reverse_byte_byte_io_p1 (T : TT_slices_Reverse_byte_byte_io) (d : ((List Int) × Unit) × (Unit × ((Int × Unit) × ((Int × Unit) × Unit)))) : Option (((List Int) × Unit) × (Unit × Unit)) :=
  let x3 : Bool := (decide (d.2.2.1.1 < d.2.2.2.1.1))
  bif x3 then (
  bif decide ((0 : Int) ≤ d.2.2.2.1.1) && decide (d.2.2.2.1.1 < (d.1.1.length : Int)) then (
  bif decide ((0 : Int) ≤ d.2.2.1.1) && decide (d.2.2.1.1 < (d.1.1.length : Int)) then (
  bif decide ((0 : Int) ≤ d.2.2.1.1) && decide (d.2.2.1.1 < (d.1.1.length : Int)) then (
  let x4 : (List Int) := (List.set d.1.1 (Int.toNat d.2.2.1.1) (gd (.int .u8) d.1.1 d.2.2.2.1.1))
  bif decide ((0 : Int) ≤ d.2.2.2.1.1) && decide (d.2.2.2.1.1 < (x4.length : Int)) then (
  let x5 : (List Int) := (List.set x4 (Int.toNat d.2.2.2.1.1) (gd (.int .u8) d.1.1 d.2.2.1.1))
  let x6 : Int := (iadd .i64 d.2.2.1.1 (1 : Int))
  let x7 : Int := (isub .i64 d.2.2.2.1.1 (1 : Int))
  (T.1 ((x5, ()), ((), ((x6, ()), ((x7, ()), ()))))))
  else none)
  else none)
  else none)
  else none)
  else (
  some ((d.1.1, ()), ((), ())))
def f_slices_Reverse_byte_byte_io_t : Nat → TT_slices_Reverse_byte_byte_io
  | 0 => (fun _ => none, ())
  | k + 1 => (f_slices_Reverse_byte_byte_io_p1 (f_slices_Reverse_byte_byte_io_t k), ())
theorem t_slices_Reverse_byte_byte_io (k : Nat) : f_slices_Reverse_byte_byte_io_t (k + 1) = (f_slices_Reverse_byte_byte_io_p1 (f_slices_Reverse_byte_byte_io_t k), ()) := rfl
def f_slices_Reverse_byte_byte_io_m (T : TT_slices_Reverse_byte_byte_io) (d : ((List Int) × Unit) × (Unit × Unit)) : Option (((List Int) × Unit) × (Unit × Unit)) :=
  let x1 : Int := (d.1.1.length : Int)
  let x2 : Int := (isub .i64 x1 (1 : Int))
  (T.1 ((d.1.1, ()), ((), (((0 : Int), ()), ((x2, ()), ())))))
def c_slices_Reverse_byte_byte_io : List Nat := []
def L_slices_Reverse_byte_byte_io (k : Nat) : Pts po_slices_Reverse_byte_byte_io.den := [(1, ⟨sh_slices_Reverse_byte_byte_io_1, (f_slices_Reverse_byte_byte_io_t k).1⟩)]
def R_slices_Reverse_byte_byte_io (_ : Nat) : PtsR po_slices_Reverse_byte_byte_io.den := []
def E_slices_Reverse_byte_byte_io : Env := (E0.kp [0])
theorem q_slices_Reverse_byte_byte_io_1 (k : Nat) (d : ((List Int) × Unit) × (Unit × ((Int × Unit) × ((Int × Unit) × Unit)))) : evAt E_slices_Reverse_byte_byte_io (tb (L_slices_Reverse_byte_byte_io k) (R_slices_Reverse_byte_byte_io k)) c_slices_Reverse_byte_byte_io 1 (bodyOf Try.f115) 0 (finKio E_slices_Reverse_byte_byte_io po_slices_Reverse_byte_byte_io [] [(0, none)]) (ptSt sh_slices_Reverse_byte_byte_io_1 d) = f_slices_Reverse_byte_byte_io_p1 (f_slices_Reverse_byte_byte_io_t k) d := by kernel_rfl
theorem q_slices_Reverse_byte_byte_io_m (k : Nat) (d : ((List Int) × Unit) × (Unit × Unit)) : evCode E_slices_Reverse_byte_byte_io (tb (L_slices_Reverse_byte_byte_io k) (R_slices_Reverse_byte_byte_io k)) c_slices_Reverse_byte_byte_io (bodyOf Try.f115) 0 (finKio E_slices_Reverse_byte_byte_io po_slices_Reverse_byte_byte_io [] [(0, none)]) (startSt pi_slices_Reverse_byte_byte_io 28 d) = f_slices_Reverse_byte_byte_io_m (f_slices_Reverse_byte_byte_io_t k) d := by kernel_rfl
theorem go_slices_Reverse_byte_byte_io (F : ((List Int) × Unit) × (Unit × Unit) → Option (((List Int) × Unit) × (Unit × Unit))) (hF : ∀ d out, F d = some out → ∃ k, f_slices_Reverse_byte_byte_io_m (f_slices_Reverse_byte_byte_io_t k) d = some out) : FnIo Try.prog ET0 115 pi_slices_Reverse_byte_byte_io po_slices_Reverse_byte_byte_io 0 [(0, 0, none)] F :=
  fn_of_bodyIo (E := E_slices_Reverse_byte_byte_io) (envOk_kp e0_ok) (fn := Try.f115) Try.func115 (by kernel_rfl) (by kernel_rfl) [] [(0, none)] [(0, 0, none)] (by kernel_rfl) (by kernel_rfl) (by kernel_rfl) (by kernel_rfl) (by decide) (by decide) c_slices_Reverse_byte_byte_io L_slices_Reverse_byte_byte_io R_slices_Reverse_byte_byte_io
    (by intro x hx d; simp only [L_slices_Reverse_byte_byte_io, List.mem_cons, List.not_mem_nil, or_false] at hx; subst hx; rfl)
    (by intro k x hx d out h; simp only [L_slices_Reverse_byte_byte_io, List.mem_cons, List.not_mem_nil, or_false] at hx; subst hx; exact (q_slices_Reverse_byte_byte_io_1 k d).trans h)
    (by intro x hx; cases hx)
    (by intro k x hx; cases hx)
    (by intro d out h; obtain ⟨k, hk⟩ := hF d out h; exact ⟨k, (q_slices_Reverse_byte_byte_io_m k d).trans hk⟩)
def g_slices_Reverse_byte_byte_io (d : ((List Int) × Unit) × (Unit × Unit)) : Option (((List Int) × Unit) × (Unit × Unit)) := lim fun k => f_slices_Reverse_byte_byte_io_m (f_slices_Reverse_byte_byte_io_t k) d
theorem ok_slices_Reverse_byte_byte_io : FnIo Try.prog ET0 115 pi_slices_Reverse_byte_byte_io po_slices_Reverse_byte_byte_io 0 [(0, 0, none)] g_slices_Reverse_byte_byte_io := go_slices_Reverse_byte_byte_io g_slices_Reverse_byte_byte_io fun d out h => lim_some h

/- horologe/figures.raw -/
@[reducible] def pi_figures_raw : PSh := ⟨[], [.mk false [.v (.int .u64)], .mk false [.v (.int .i64)]]⟩
@[reducible] def po_figures_raw : PSh := ⟨[], [.mk false [.v .str]]⟩
@[reducible] def TT_figures_raw : Type := (((((List Int) × Unit) × ((Int × Unit) × ((Int × Unit) × (Unit × Unit)))) → Option (Unit × ((ByteArray × Unit) × Unit))) × Unit)
@[reducible] def sh_figures_raw_3 : PSh := ⟨[.row 5 (.int .u8)], [.mk false [.v (.int .u64)], .mk false [.v (.int .i64)], .any, .any, .any, .mk false [.osl 0], .any, .any, .any, .any, .any, .any, .any, .any, .any, .any, .any, .any, .any, .any, .any, .any, .any, .any, .any, .any, .any, .any]⟩
def f_figures_raw_p3 (T : TT_figures_raw) (d : ((List Int) × Unit) × ((Int × Unit) × ((Int × Unit) × (Unit × Unit)))) : Option (Unit × ((ByteArray × Unit) × Unit)) :=
  let x1 : Bool := (decide (d.2.1.1 > (0 : Int)))
  bif x1 then (
  let x2 : Int := (Int.tmod d.2.1.1 (10 : Int))
  let x3 : Int := (iconv .u8 x2)
  let x4 : Int := (iadd .u8 (48 : Int) x3)
  let x5 : (List Int) := ([x4] : List Int)
  bif decide (((d.1.1.length + x5.length) * 1 : Nat) ≤ 140737488355328) && decide (d.1.1.length + x5.length ≤ 9223372036854775807) then (
  let x6 : (List Int) := (d.1.1 ++ x5)
  let x7 : Int := (iquo .u64 d.2.1.1 (10 : Int))
  (T.1 ((x6, ()), ((x7, ()), ((d.2.2.1.1, ()), ((), ()))))))
  else none)
  else (
  let x8 : Int := (d.1.1.length : Int)
  let x9 : Int := (if (1 : Int) > d.2.2.1.1 then (1 : Int) else d.2.2.1.1)
  let x10 : Bool := (decide (x8 < x9))
  bif x10 then (
  let x11 : Int := (Int.tmod d.2.1.1 (10 : Int))
  let x12 : Int := (iconv .u8 x11)
  let x13 : Int := (iadd .u8 (48 : Int) x12)
  let x14 : (List Int) := ([x13] : List Int)
  bif decide (((d.1.1.length + x14.length) * 1 : Nat) ≤ 140737488355328) && decide (d.1.1.length + x14.length ≤ 9223372036854775807) then (
  let x15 : (List Int) := (d.1.1 ++ x14)
  let x16 : Int := (iquo .u64 d.2.1.1 (10 : Int))
  (T.1 ((x15, ()), ((x16, ()), ((d.2.2.1.1, ()), ((), ()))))))
  else none)
  else (
  (g_slices_Reverse_byte_byte_io ((d.1.1, ()), ((), ()))).bind fun x17 =>
  let x18 : ByteArray := (strOf x17.1.1)
  some ((), ((x18, ()), ()))))
def f_figures_raw_t : Nat → TT_figures_raw
  | 0 => (fun _ => none, ())
  | k + 1 => (f_figures_raw_p3 (f_figures_raw_t k), ())
theorem t_figures_raw (k : Nat) : f_figures_raw_t (k + 1) = (f_figures_raw_p3 (f_figures_raw_t k), ()) := rfl
def f_figures_raw_m (T : TT_figures_raw) (d : Unit × ((Int × Unit) × ((Int × Unit) × Unit))) : Option (Unit × ((ByteArray × Unit) × Unit)) :=
  (T.1 ((([] : List Int), ()), ((d.2.1.1, ()), ((d.2.2.1.1, ()), ((), ())))))
def c_figures_raw : List Nat := []
def L_figures_raw (k : Nat) : Pts po_figures_raw.den := [(3, ⟨sh_figures_raw_3, (f_figures_raw_t k).1⟩)]
def R_figures_raw (_ : Nat) : PtsR po_figures_raw.den := []
def E_figures_raw : Env := (E0.add 115 (ioSem pi_slices_Reverse_byte_byte_io po_slices_Reverse_byte_byte_io 0 [(0, 0, none)] g_slices_Reverse_byte_byte_io))
theorem q_figures_raw_3 (k : Nat) (d : ((List Int) × Unit) × ((Int × Unit) × ((Int × Unit) × (Unit × Unit)))) : evAt E_figures_raw (tb (L_figures_raw k) (R_figures_raw k)) c_figures_raw 3 (bodyOf Try.f101) 0 (finK E_figures_raw po_figures_raw [.tmp 4]) (ptSt sh_figures_raw_3 d) = f_figures_raw_p3 (f_figures_raw_t k) d := by kernel_rfl
theorem q_figures_raw_m (k : Nat) (d : Unit × ((Int × Unit) × ((Int × Unit) × Unit))) : evCode E_figures_raw (tb (L_figures_raw k) (R_figures_raw k)) c_figures_raw (bodyOf Try.f101) 0 (finK E_figures_raw po_figures_raw [.tmp 4]) (startSt pi_figures_raw 28 d) = f_figures_raw_m (f_figures_raw_t k) d := by kernel_rfl
theorem go_figures_raw (F : Unit × ((Int × Unit) × ((Int × Unit) × Unit)) → Option (Unit × ((ByteArray × Unit) × Unit))) (hF : ∀ d out, F d = some out → ∃ k, f_figures_raw_m (f_figures_raw_t k) d = some out) : FnOk Try.prog ET0 101 pi_figures_raw po_figures_raw F :=
  fn_of_body (E := E_figures_raw) (envOk_add e0_ok (io_ok ok_slices_Reverse_byte_byte_io)) (fn := Try.f101) Try.func101 (by kernel_rfl) (by kernel_rfl) [.tmp 4] (by kernel_rfl) (by kernel_rfl) (by decide) rfl c_figures_raw L_figures_raw R_figures_raw
    (by intro x hx d; simp only [L_figures_raw, List.mem_cons, List.not_mem_nil, or_false] at hx; subst hx; rfl)
    (by intro k x hx d out h; simp only [L_figures_raw, List.mem_cons, List.not_mem_nil, or_false] at hx; subst hx; exact (q_figures_raw_3 k d).trans h)
    (by intro x hx; cases hx)
    (by intro k x hx; cases hx)
    (by intro d out h; obtain ⟨k, hk⟩ := hF d out h; exact ⟨k, (q_figures_raw_m k d).trans hk⟩)
def g_figures_raw (d : Unit × ((Int × Unit) × ((Int × Unit) × Unit))) : Option (Unit × ((ByteArray × Unit) × Unit)) := lim fun k => f_figures_raw_m (f_figures_raw_t k) d
theorem ok_figures_raw : FnOk Try.prog ET0 101 pi_figures_raw po_figures_raw g_figures_raw := go_figures_raw g_figures_raw fun d out h => lim_some h

/- horologe/figures.PutFraction -/
@[reducible] def pi_figures_PutFraction : PSh := ⟨[], [.mk false [.v (.int .i64)], .mk false [.v (.int .i64)]]⟩
@[reducible] def po_figures_PutFraction : PSh := ⟨[], [.mk false [.v .str], .mk false [.v .err]]⟩
def f_figures_PutFraction_m (T : Unit) (d : Unit × ((Int × Unit) × ((Int × Unit) × Unit))) : Option (Unit × ((ByteArray × Unit) × (((Option Int) × Unit) × Unit))) :=
  (g_figures_fits ((), ((d.2.1.1, ()), ()))).bind fun x1 =>
  let x2 : Bool := (!x1.2.1.1)
  bif x2 then (
  let x3 : (Option Int) := (some (1 : Int))
  some ((), (((⟨#[]⟩ : ByteArray), ()), ((x3, ()), ()))))
  else (
  let x4 : Bool := (decide (d.2.2.1.1 < (0 : Int)))
  bif x4 then (
  let x5 : (Option Int) := (some (1 : Int))
  some ((), (((⟨#[]⟩ : ByteArray), ()), ((x5, ()), ()))))
  else (
  let x6 : Bool := (decide (d.2.2.1.1 > (9 : Int)))
  bif x6 then (
  let x7 : (Option Int) := (some (1 : Int))
  some ((), (((⟨#[]⟩ : ByteArray), ()), ((x7, ()), ()))))
  else (
  let x8 : Int := (iconv .u64 d.2.1.1)
  (g_figures_raw ((), ((x8, ()), (((9 : Int), ()), ())))).bind fun x9 =>
  bif decide ((0 : Int) ≤ (0 : Int)) && decide ((0 : Int) ≤ d.2.2.1.1) && decide (d.2.2.1.1 ≤ (x9.2.1.1.size : Int)) then (
  let x10 : ByteArray := (x9.2.1.1.extract (Int.toNat (0 : Int)) (Int.toNat d.2.2.1.1))
  some ((), ((x10, ()), (((none : Option Int), ()), ()))))
  else none)))
def c_figures_PutFraction : List Nat := []
def L_figures_PutFraction (_ : Nat) : Pts po_figures_PutFraction.den := []
def R_figures_PutFraction (_ : Nat) : PtsR po_figures_PutFraction.den := []
def E_figures_PutFraction : Env := ((E0.add 100 (typedSem pi_figures_fits po_figures_fits g_figures_fits)).add 101 (typedSem pi_figures_raw po_figures_raw g_figures_raw))
theorem q_figures_PutFraction_m (k : Nat) (d : Unit × ((Int × Unit) × ((Int × Unit) × Unit))) : evCode E_figures_PutFraction (tb (L_figures_PutFraction k) (R_figures_PutFraction k)) c_figures_PutFraction (bodyOf Try.f71) 0 (finK E_figures_PutFraction po_figures_PutFraction [.tmp 4, .tmp 5]) (startSt pi_figures_PutFraction 23 d) = f_figures_PutFraction_m () d := by kernel_rfl
def g_figures_PutFraction (d : Unit × ((Int × Unit) × ((Int × Unit) × Unit))) : Option (Unit × ((ByteArray × Unit) × (((Option Int) × Unit) × Unit))) := f_figures_PutFraction_m () d
theorem ok_figures_PutFraction : FnOk Try.prog ET0 71 pi_figures_PutFraction po_figures_PutFraction g_figures_PutFraction :=
  fn_of_body (E := E_figures_PutFraction) (envOk_add (envOk_add e0_ok (typed_ok ok_figures_fits)) (typed_ok ok_figures_raw)) (fn := Try.f71) Try.func71 (by kernel_rfl) (by kernel_rfl) [.tmp 4, .tmp 5] (by kernel_rfl) (by kernel_rfl) (by decide) rfl c_figures_PutFraction L_figures_PutFraction R_figures_PutFraction
    (by intro x hx; cases hx) (by intro k x hx; cases hx) (by intro x hx; cases hx) (by intro k x hx; cases hx) (fun d out h => ⟨0, (q_figures_PutFraction_m 0 d).trans h⟩)

/- horologe/figures.Put -/
@[reducible] def pi_figures_Put : PSh := ⟨[], [.mk false [.v (.int .i64)], .mk false [.v (.int .i64)]]⟩
@[reducible] def po_figures_Put : PSh := ⟨[], [.mk false [.v .str], .mk false [.v .err]]⟩
def f_figures_Put_m (T : Unit) (d : Unit × ((Int × Unit) × ((Int × Unit) × Unit))) : Option (Unit × ((ByteArray × Unit) × (((Option Int) × Unit) × Unit))) :=
  let x1 : Bool := (decide (d.2.2.1.1 < (0 : Int)))
  bif x1 then (
  let x2 : (Option Int) := (some (1 : Int))
  some ((), (((⟨#[]⟩ : ByteArray), ()), ((x2, ()), ()))))
  else (
  let x3 : Bool := (decide (d.2.2.1.1 > (20 : Int)))
  bif x3 then (
  let x4 : (Option Int) := (some (1 : Int))
  some ((), (((⟨#[]⟩ : ByteArray), ()), ((x4, ()), ()))))
  else (
  let x5 : Bool := (decide (d.2.1.1 < (0 : Int)))
  bif x5 then (
  let x6 : Int := (iconv .u64 d.2.1.1)
  let x7 : Int := (ineg .u64 x6)
  (g_figures_raw ((), ((x7, ()), ((d.2.2.1.1, ()), ())))).bind fun x8 =>
  bif fitsS (⟨#[45]⟩ : ByteArray) x8.2.1.1 then (
  let x9 : ByteArray := ((⟨#[45]⟩ : ByteArray) ++ x8.2.1.1)
  some ((), ((x9, ()), (((none : Option Int), ()), ()))))
  else none)
  else (
  let x10 : Int := (iconv .u64 d.2.1.1)
  (g_figures_raw ((), ((x10, ()), ((d.2.2.1.1, ()), ())))).bind fun x11 =>
  some ((), ((x11.2.1.1, ()), (((none : Option Int), ()), ()))))))
def c_figures_Put : List Nat := []
def L_figures_Put (_ : Nat) : Pts po_figures_Put.den := []
def R_figures_Put (_ : Nat) : PtsR po_figures_Put.den := []
def E_figures_Put : Env := (E0.add 101 (typedSem pi_figures_raw po_figures_raw g_figures_raw))
theorem q_figures_Put_m (k : Nat) (d : Unit × ((Int × Unit) × ((Int × Unit) × Unit))) : evCode E_figures_Put (tb (L_figures_Put k) (R_figures_Put k)) c_figures_Put (bodyOf Try.f116) 0 (finK E_figures_Put po_figures_Put [.tmp 4, .tmp 5]) (startSt pi_figures_Put 27 d) = f_figures_Put_m () d := by kernel_rfl
def g_figures_Put (d : Unit × ((Int × Unit) × ((Int × Unit) × Unit))) : Option (Unit × ((ByteArray × Unit) × (((Option Int) × Unit) × Unit))) := f_figures_Put_m () d
theorem ok_figures_Put : FnOk Try.prog ET0 116 pi_figures_Put po_figures_Put g_figures_Put :=
  fn_of_body (E := E_figures_Put) (envOk_add e0_ok (typed_ok ok_figures_raw)) (fn := Try.f116) Try.func116 (by kernel_rfl) (by kernel_rfl) [.tmp 4, .tmp 5] (by kernel_rfl) (by kernel_rfl) (by decide) rfl c_figures_Put L_figures_Put R_figures_Put
    (by intro x hx; cases hx) (by intro k x hx; cases hx) (by intro x hx; cases hx) (by intro k x hx; cases hx) (fun d out h => ⟨0, (q_figures_Put_m 0 d).trans h⟩)

/- (*horologe/iso.writer).put -/
@[reducible] def pi_iso_writer_put_io : PSh := ⟨[.var 139 [.osl 1, .v .err], .row 5 (.int .u8)], [.mk false [.ref 0 0], .mk false [.v .str], .mk false [.v (.int .i64)], .mk false [.v (.int .i64)]]⟩
@[reducible] def po_iso_writer_put_io : PSh := ⟨[.var 139 [.osl 1, .v .err], .row 5 (.int .u8)], [.mk false [.ref 0 0]]⟩
def f_iso_writer_put_io_m (T : Unit) (d : (((Option Int) × Unit) × ((List Int) × Unit)) × (Unit × ((ByteArray × Unit) × ((Int × Unit) × ((Int × Unit) × Unit))))) : Option ((((Option Int) × Unit) × ((List Int) × Unit)) × (Unit × Unit)) :=
  (g_figures_Put ((), ((d.2.2.2.1.1, ()), ((d.2.2.2.2.1.1, ()), ())))).bind fun x1 =>
  let x2 : Bool := (!x1.2.2.1.1.isNone)
  bif x2 then (
  bif decide (((d.1.2.1.length + (bytesOf d.2.2.1.1).length) * 1 : Nat) ≤ 140737488355328) && decide (d.1.2.1.length + (bytesOf d.2.2.1.1).length ≤ 9223372036854775807) then (
  let x3 : (List Int) := (d.1.2.1 ++ (bytesOf d.2.2.1.1))
  bif decide (((x3.length + (bytesOf x1.2.1.1).length) * 1 : Nat) ≤ 140737488355328) && decide (x3.length + (bytesOf x1.2.1.1).length ≤ 9223372036854775807) then (
  let x4 : (List Int) := (x3 ++ (bytesOf x1.2.1.1))
  some (((x1.2.2.1.1, ()), (x4, ())), ((), ())))
  else none)
  else none)
  else (
  bif decide (((d.1.2.1.length + (bytesOf d.2.2.1.1).length) * 1 : Nat) ≤ 140737488355328) && decide (d.1.2.1.length + (bytesOf d.2.2.1.1).length ≤ 9223372036854775807) then (
  let x5 : (List Int) := (d.1.2.1 ++ (bytesOf d.2.2.1.1))
  bif decide (((x5.length + (bytesOf x1.2.1.1).length) * 1 : Nat) ≤ 140737488355328) && decide (x5.length + (bytesOf x1.2.1.1).length ≤ 9223372036854775807) then (
  let x6 : (List Int) := (x5 ++ (bytesOf x1.2.1.1))
  some (((d.1.1.1, ()), (x6, ())), ((), ())))
  else none)
  else none)
def c_iso_writer_put_io : List Nat := []
def L_iso_writer_put_io (_ : Nat) : Pts po_iso_writer_put_io.den := []
def R_iso_writer_put_io (_ : Nat) : PtsR po_iso_writer_put_io.den := []
def E_iso_writer_put_io : Env := ((E0.add 116 (typedSem pi_figures_Put po_figures_Put g_figures_Put)).kp [0])
theorem q_iso_writer_put_io_m (k : Nat) (d : (((Option Int) × Unit) × ((List Int) × Unit)) × (Unit × ((ByteArray × Unit) × ((Int × Unit) × ((Int × Unit) × Unit))))) : evCode E_iso_writer_put_io (tb (L_iso_writer_put_io k) (R_iso_writer_put_io k)) c_iso_writer_put_io (bodyOf Try.f103) 0 (finKio E_iso_writer_put_io po_iso_writer_put_io [] [(0, none)]) (startSt pi_iso_writer_put_io 33 d) = f_iso_writer_put_io_m () d := by kernel_rfl
def g_iso_writer_put_io (d : (((Option Int) × Unit) × ((List Int) × Unit)) × (Unit × ((ByteArray × Unit) × ((Int × Unit) × ((Int × Unit) × Unit))))) : Option ((((Option Int) × Unit) × ((List Int) × Unit)) × (Unit × Unit)) := f_iso_writer_put_io_m () d
theorem ok_iso_writer_put_io : FnIo Try.prog ET0 103 pi_iso_writer_put_io po_iso_writer_put_io 0 [(0, 0, none)] g_iso_writer_put_io :=
  fn_of_bodyIo (E := E_iso_writer_put_io) (envOk_kp (envOk_add e0_ok (typed_ok ok_figures_Put))) (fn := Try.f103) Try.func103 (by kernel_rfl) (by kernel_rfl) [] [(0, none)] [(0, 0, none)] (by kernel_rfl) (by kernel_rfl) (by kernel_rfl) (by kernel_rfl) (by decide) (by decide) c_iso_writer_put_io L_iso_writer_put_io R_iso_writer_put_io
    (by intro x hx; cases hx) (by intro k x hx; cases hx) (by intro x hx; cases hx) (by intro k x hx; cases hx) (fun d out h => ⟨0, (q_iso_writer_put_io_m 0 d).trans h⟩)

/- (*horologe/iso.writer).date -/
@[reducible] def pi_iso_writer_date_io : PSh := ⟨[.var 139 [.osl 1, .v .err], .row 5 (.int .u8)], [.mk false [.ref 0 0], .mk false [.v (.int .i64)], .mk false [.v (.int .i64)], .mk false [.v (.int .i64)]]⟩
@[reducible] def po_iso_writer_date_io : PSh := ⟨[.var 139 [.osl 1, .v .err], .row 5 (.int .u8)], [.mk false [.ref 0 0]]⟩
def f_iso_writer_date_io_m (T : Unit) (d : (((Option Int) × Unit) × ((List Int) × Unit)) × (Unit × ((Int × Unit) × ((Int × Unit) × ((Int × Unit) × Unit))))) : Option ((((Option Int) × Unit) × ((List Int) × Unit)) × (Unit × Unit)) :=
  (g_iso_writer_put_io (((d.1.1.1, ()), (d.1.2.1, ())), ((), (((⟨#[]⟩ : ByteArray), ()), ((d.2.2.1.1, ()), (((4 : Int), ()), ())))))).bind fun x1 =>
  (g_iso_writer_put_io (((x1.1.1.1, ()), (x1.1.2.1, ())), ((), (((⟨#[45]⟩ : ByteArray), ()), ((d.2.2.2.1.1, ()), (((2 : Int), ()), ())))))).bind fun x2 =>
  (g_iso_writer_put_io (((x2.1.1.1, ()), (x2.1.2.1, ())), ((), (((⟨#[45]⟩ : ByteArray), ()), ((d.2.2.2.2.1.1, ()), (((2 : Int), ()), ())))))).bind fun x3 =>
  some (((x3.1.1.1, ()), (x3.1.2.1, ())), ((), ()))
def c_iso_writer_date_io : List Nat := []
def L_iso_writer_date_io (_ : Nat) : Pts po_iso_writer_date_io.den := []
def R_iso_writer_date_io (_ : Nat) : PtsR po_iso_writer_date_io.den := []
def E_iso_writer_date_io : Env := ((E0.add 103 (ioSem pi_iso_writer_put_io po_iso_writer_put_io 0 [(0, 0, none)] g_iso_writer_put_io)).kp [0])
theorem q_iso_writer_date_io_m (k : Nat) (d : (((Option Int) × Unit) × ((List Int) × Unit)) × (Unit × ((Int × Unit) × ((Int × Unit) × ((Int × Unit) × Unit))))) : evCode E_iso_writer_date_io (tb (L_iso_writer_date_io k) (R_iso_writer_date_io k)) c_iso_writer_date_io (bodyOf Try.f102) 0 (finKio E_iso_writer_date_io po_iso_writer_date_io [] [(0, none)]) (startSt pi_iso_writer_date_io 17 d) = f_iso_writer_date_io_m () d := by kernel_rfl
def g_iso_writer_date_io (d : (((Option Int) × Unit) × ((List Int) × Unit)) × (Unit × ((Int × Unit) × ((Int × Unit) × ((Int × Unit) × Unit))))) : Option ((((Option Int) × Unit) × ((List Int) × Unit)) × (Unit × Unit)) := f_iso_writer_date_io_m () d
theorem ok_iso_writer_date_io : FnIo Try.prog ET0 102 pi_iso_writer_date_io po_iso_writer_date_io 0 [(0, 0, none)] g_iso_writer_date_io :=
  fn_of_bodyIo (E := E_iso_writer_date_io) (envOk_kp (envOk_add e0_ok (io_ok ok_iso_writer_put_io))) (fn := Try.f102) Try.func102 (by kernel_rfl) (by kernel_rfl) [] [(0, none)] [(0, 0, none)] (by kernel_rfl) (by kernel_rfl) (by kernel_rfl) (by kernel_rfl) (by decide) (by decide) c_iso_writer_date_io L_iso_writer_date_io R_iso_writer_date_io
    (by intro x hx; cases hx) (by intro k x hx; cases hx) (by intro x hx; cases hx) (by intro k x hx; cases hx) (fun d out h => ⟨0, (q_iso_writer_date_io_m 0 d).trans h⟩)

/- horologe/iso.text -/
@[reducible] def pi_iso_text : PSh := ⟨[], [.mk true [.v (.int .i64), .v (.int .i64), .v (.int .i64), .v (.int .i64), .v (.int .i64), .v (.int .i64), .v (.int .i64), .v (.int .i64)], .mk false [.v .str]]⟩
@[reducible] def po_iso_text : PSh := ⟨[], [.mk false [.v .str], .mk false [.v .err]]⟩
def f_iso_text_m (T : Unit) (d : Unit × ((Int × (Int × (Int × (Int × (Int × (Int × (Int × (Int × Unit)))))))) × ((ByteArray × Unit) × Unit))) : Option (Unit × ((ByteArray × Unit) × (((Option Int) × Unit) × Unit))) :=
  (g_iso_writer_date_io ((((none : Option Int), ()), (([] : List Int), ())), ((), ((d.2.1.1, ()), ((d.2.1.2.1, ()), ((d.2.1.2.2.1, ()), ())))))).bind fun x1 =>
  (g_iso_writer_put_io (((x1.1.1.1, ()), (x1.1.2.1, ())), ((), (((⟨#[84]⟩ : ByteArray), ()), ((d.2.1.2.2.2.1, ()), (((2 : Int), ()), ())))))).bind fun x2 =>
  (g_iso_writer_put_io (((x2.1.1.1, ()), (x2.1.2.1, ())), ((), (((⟨#[58]⟩ : ByteArray), ()), ((d.2.1.2.2.2.2.1, ()), (((2 : Int), ()), ())))))).bind fun x3 =>
  (g_iso_writer_put_io (((x3.1.1.1, ()), (x3.1.2.1, ())), ((), (((⟨#[58]⟩ : ByteArray), ()), ((d.2.1.2.2.2.2.2.1, ()), (((2 : Int), ()), ())))))).bind fun x4 =>
  let x5 : Bool := (!(d.2.2.1.1.toList == (⟨#[]⟩ : ByteArray).toList))
  bif x5 then (
  let x6 : (List Int) := ([(46 : Int)] : List Int)
  bif decide (((x4.1.2.1.length + x6.length) * 1 : Nat) ≤ 140737488355328) && decide (x4.1.2.1.length + x6.length ≤ 9223372036854775807) then (
  let x7 : (List Int) := (x4.1.2.1 ++ x6)
  bif decide (((x7.length + (bytesOf d.2.2.1.1).length) * 1 : Nat) ≤ 140737488355328) && decide (x7.length + (bytesOf d.2.2.1.1).length ≤ 9223372036854775807) then (
  let x8 : (List Int) := (x7 ++ (bytesOf d.2.2.1.1))
  let x9 : Bool := (d.2.1.2.2.2.2.2.2.2.1 == (0 : Int))
  bif x9 then (
  let x10 : ByteArray := (strOf x8)
  bif fitsS x10 (⟨#[90]⟩ : ByteArray) then (
  let x11 : ByteArray := (x10 ++ (⟨#[90]⟩ : ByteArray))
  some ((), ((x11, ()), ((x4.1.1.1, ()), ()))))
  else none)
  else (
  let x12 : Bool := (decide (d.2.1.2.2.2.2.2.2.2.1 < (0 : Int)))
  bif x12 then (
  let x13 : Int := (ineg .i64 d.2.1.2.2.2.2.2.2.2.1)
  let x14 : Int := (iquo .i64 x13 (60 : Int))
  (g_iso_writer_put_io (((x4.1.1.1, ()), (x8, ())), ((), (((⟨#[45]⟩ : ByteArray), ()), ((x14, ()), (((2 : Int), ()), ())))))).bind fun x15 =>
  let x16 : Int := (ineg .i64 d.2.1.2.2.2.2.2.2.2.1)
  let x17 : Int := (Int.tmod x16 (60 : Int))
  (g_iso_writer_put_io (((x15.1.1.1, ()), (x15.1.2.1, ())), ((), (((⟨#[58]⟩ : ByteArray), ()), ((x17, ()), (((2 : Int), ()), ())))))).bind fun x18 =>
  let x19 : ByteArray := (strOf x18.1.2.1)
  some ((), ((x19, ()), ((x18.1.1.1, ()), ()))))
  else (
  let x20 : Int := (iquo .i64 d.2.1.2.2.2.2.2.2.2.1 (60 : Int))
  (g_iso_writer_put_io (((x4.1.1.1, ()), (x8, ())), ((), (((⟨#[43]⟩ : ByteArray), ()), ((x20, ()), (((2 : Int), ()), ())))))).bind fun x21 =>
  let x22 : Int := (Int.tmod d.2.1.2.2.2.2.2.2.2.1 (60 : Int))
  (g_iso_writer_put_io (((x21.1.1.1, ()), (x21.1.2.1, ())), ((), (((⟨#[58]⟩ : ByteArray), ()), ((x22, ()), (((2 : Int), ()), ())))))).bind fun x23 =>
  let x24 : ByteArray := (strOf x23.1.2.1)
  some ((), ((x24, ()), ((x23.1.1.1, ()), ()))))))
  else none)
  else none)
  else (
  let x25 : Bool := (d.2.1.2.2.2.2.2.2.2.1 == (0 : Int))
  bif x25 then (
  let x26 : ByteArray := (strOf x4.1.2.1)
  bif fitsS x26 (⟨#[90]⟩ : ByteArray) then (
  let x27 : ByteArray := (x26 ++ (⟨#[90]⟩ : ByteArray))
  some ((), ((x27, ()), ((x4.1.1.1, ()), ()))))
  else none)
  else (
  let x28 : Bool := (decide (d.2.1.2.2.2.2.2.2.2.1 < (0 : Int)))
  bif x28 then (
  let x29 : Int := (ineg .i64 d.2.1.2.2.2.2.2.2.2.1)
  let x30 : Int := (iquo .i64 x29 (60 : Int))
  (g_iso_writer_put_io (((x4.1.1.1, ()), (x4.1.2.1, ())), ((), (((⟨#[45]⟩ : ByteArray), ()), ((x30, ()), (((2 : Int), ()), ())))))).bind fun x31 =>
  let x32 : Int := (ineg .i64 d.2.1.2.2.2.2.2.2.2.1)
  let x33 : Int := (Int.tmod x32 (60 : Int))
  (g_iso_writer_put_io (((x31.1.1.1, ()), (x31.1.2.1, ())), ((), (((⟨#[58]⟩ : ByteArray), ()), ((x33, ()), (((2 : Int), ()), ())))))).bind fun x34 =>
  let x35 : ByteArray := (strOf x34.1.2.1)
  some ((), ((x35, ()), ((x34.1.1.1, ()), ()))))
  else (
  let x36 : Int := (iquo .i64 d.2.1.2.2.2.2.2.2.2.1 (60 : Int))
  (g_iso_writer_put_io (((x4.1.1.1, ()), (x4.1.2.1, ())), ((), (((⟨#[43]⟩ : ByteArray), ()), ((x36, ()), (((2 : Int), ()), ())))))).bind fun x37 =>
  let x38 : Int := (Int.tmod d.2.1.2.2.2.2.2.2.2.1 (60 : Int))
  (g_iso_writer_put_io (((x37.1.1.1, ()), (x37.1.2.1, ())), ((), (((⟨#[58]⟩ : ByteArray), ()), ((x38, ()), (((2 : Int), ()), ())))))).bind fun x39 =>
  let x40 : ByteArray := (strOf x39.1.2.1)
  some ((), ((x40, ()), ((x39.1.1.1, ()), ()))))))
def c_iso_text : List Nat := []
def L_iso_text (_ : Nat) : Pts po_iso_text.den := []
def R_iso_text (_ : Nat) : PtsR po_iso_text.den := []
def E_iso_text : Env := ((E0.add 102 (ioSem pi_iso_writer_date_io po_iso_writer_date_io 0 [(0, 0, none)] g_iso_writer_date_io)).add 103 (ioSem pi_iso_writer_put_io po_iso_writer_put_io 0 [(0, 0, none)] g_iso_writer_put_io))
theorem q_iso_text_m (k : Nat) (d : Unit × ((Int × (Int × (Int × (Int × (Int × (Int × (Int × (Int × Unit)))))))) × ((ByteArray × Unit) × Unit))) : evCode E_iso_text (tb (L_iso_text k) (R_iso_text k)) c_iso_text (bodyOf Try.f72) 0 (finK E_iso_text po_iso_text [.tmp 4, .tmp 5]) (startSt pi_iso_text 69 d) = f_iso_text_m () d := by kernel_rfl
def g_iso_text (d : Unit × ((Int × (Int × (Int × (Int × (Int × (Int × (Int × (Int × Unit)))))))) × ((ByteArray × Unit) × Unit))) : Option (Unit × ((ByteArray × Unit) × (((Option Int) × Unit) × Unit))) := f_iso_text_m () d
theorem ok_iso_text : FnOk Try.prog ET0 72 pi_iso_text po_iso_text g_iso_text :=
  fn_of_body (E := E_iso_text) (envOk_add (envOk_add e0_ok (io_ok ok_iso_writer_date_io)) (io_ok ok_iso_writer_put_io)) (fn := Try.f72) Try.func72 (by kernel_rfl) (by kernel_rfl) [.tmp 4, .tmp 5] (by kernel_rfl) (by kernel_rfl) (by decide) rfl c_iso_text L_iso_text R_iso_text
    (by intro x hx; cases hx) (by intro k x hx; cases hx) (by intro x hx; cases hx) (by intro k x hx; cases hx) (fun d out h => ⟨0, (q_iso_text_m 0 d).trans h⟩)

/- horologe/iso.Put -/
@[reducible] def pi_iso_Put : PSh := ⟨[], [.mk true [.v (.int .i64), .v (.int .i64), .v (.int .i64), .v (.int .i64), .v (.int .i64), .v (.int .i64), .v (.int .i64), .v (.int .i64)], .mk false [.v (.int .i64)]]⟩
@[reducible] def po_iso_Put : PSh := ⟨[], [.mk false [.v .str], .mk false [.v .err]]⟩
def f_iso_Put_m (T : Unit) (d : Unit × ((Int × (Int × (Int × (Int × (Int × (Int × (Int × (Int × Unit)))))))) × ((Int × Unit) × Unit))) : Option (Unit × ((ByteArray × Unit) × (((Option Int) × Unit) × Unit))) :=
  (g_iso_right ((), ((d.2.1.1, (d.2.1.2.1, (d.2.1.2.2.1, (d.2.1.2.2.2.1, (d.2.1.2.2.2.2.1, (d.2.1.2.2.2.2.2.1, (d.2.1.2.2.2.2.2.2.1, (d.2.1.2.2.2.2.2.2.2.1, ())))))))), ()))).bind fun x1 =>
  let x2 : Bool := (!x1.2.1.1.isNone)
  bif x2 then (
  some ((), (((⟨#[]⟩ : ByteArray), ()), ((x1.2.1.1, ()), ()))))
  else (
  (g_figures_PutFraction ((), ((d.2.1.2.2.2.2.2.2.1, ()), ((d.2.2.1.1, ()), ())))).bind fun x3 =>
  let x4 : Bool := (!x3.2.2.1.1.isNone)
  bif x4 then (
  some ((), (((⟨#[]⟩ : ByteArray), ()), ((x3.2.2.1.1, ()), ()))))
  else (
  (g_iso_text ((), ((d.2.1.1, (d.2.1.2.1, (d.2.1.2.2.1, (d.2.1.2.2.2.1, (d.2.1.2.2.2.2.1, (d.2.1.2.2.2.2.2.1, (d.2.1.2.2.2.2.2.2.1, (d.2.1.2.2.2.2.2.2.2.1, ())))))))), ((x3.2.1.1, ()), ())))).bind fun x5 =>
  some ((), ((x5.2.1.1, ()), ((x5.2.2.1.1, ()), ())))))
def c_iso_Put : List Nat := []
def L_iso_Put (_ : Nat) : Pts po_iso_Put.den := []
def R_iso_Put (_ : Nat) : PtsR po_iso_Put.den := []
def E_iso_Put : Env := (((E0.add 70 (typedSem pi_iso_right po_iso_right g_iso_right)).add 71 (typedSem pi_figures_PutFraction po_figures_PutFraction g_figures_PutFraction)).add 72 (typedSem pi_iso_text po_iso_text g_iso_text))
theorem q_iso_Put_m (k : Nat) (d : Unit × ((Int × (Int × (Int × (Int × (Int × (Int × (Int × (Int × Unit)))))))) × ((Int × Unit) × Unit))) : evCode E_iso_Put (tb (L_iso_Put k) (R_iso_Put k)) c_iso_Put (bodyOf Try.f49) 0 (finK E_iso_Put po_iso_Put [.tmp 4, .tmp 5]) (startSt pi_iso_Put 29 d) = f_iso_Put_m () d := by kernel_rfl
def g_iso_Put (d : Unit × ((Int × (Int × (Int × (Int × (Int × (Int × (Int × (Int × Unit)))))))) × ((Int × Unit) × Unit))) : Option (Unit × ((ByteArray × Unit) × (((Option Int) × Unit) × Unit))) := f_iso_Put_m () d
theorem ok_iso_Put : FnOk Try.prog ET0 49 pi_iso_Put po_iso_Put g_iso_Put :=
  fn_of_body (E := E_iso_Put) (envOk_add (envOk_add (envOk_add e0_ok (typed_ok ok_iso_right)) (typed_ok ok_figures_PutFraction)) (typed_ok ok_iso_text)) (fn := Try.f49) Try.func49 (by kernel_rfl) (by kernel_rfl) [.tmp 4, .tmp 5] (by kernel_rfl) (by kernel_rfl) (by decide) rfl c_iso_Put L_iso_Put R_iso_Put
    (by intro x hx; cases hx) (by intro k x hx; cases hx) (by intro x hx; cases hx) (by intro k x hx; cases hx) (fun d out h => ⟨0, (q_iso_Put_m 0 d).trans h⟩)

/- horologe/word.Text -/
@[reducible] def pi_word_Text : PSh := ⟨[], [.mk false [.v (.sl (.int .u8))], .mk false [.v (.int .i64)]]⟩
@[reducible] def po_word_Text : PSh := ⟨[], [.mk false [.v .str], .mk false [.v .err]]⟩
def f_word_Text_m (T : Unit) (d : Unit × (((List Int) × Unit) × ((Int × Unit) × Unit))) : Option (Unit × ((ByteArray × Unit) × (((Option Int) × Unit) × Unit))) :=
  (g_word_Label ((), ((d.2.1.1, ()), ((d.2.2.1.1, ()), ())))).bind fun x1 =>
  let x2 : Bool := (!x1.2.2.1.1.isNone)
  bif x2 then (
  some ((), (((⟨#[]⟩ : ByteArray), ()), ((x1.2.2.1.1, ()), ()))))
  else (
  (g_iso_Put ((), ((x1.2.1.1, (x1.2.1.2.1, (x1.2.1.2.2.1, (x1.2.1.2.2.2.1, (x1.2.1.2.2.2.2.1, (x1.2.1.2.2.2.2.2.1, (x1.2.1.2.2.2.2.2.2.1, (x1.2.1.2.2.2.2.2.2.2.1, ())))))))), (((0 : Int), ()), ())))).bind fun x3 =>
  some ((), ((x3.2.1.1, ()), ((x3.2.2.1.1, ()), ()))))
def c_word_Text : List Nat := []
def L_word_Text (_ : Nat) : Pts po_word_Text.den := []
def R_word_Text (_ : Nat) : PtsR po_word_Text.den := []
def E_word_Text : Env := ((E0.add 19 (typedSem pi_word_Label po_word_Label g_word_Label)).add 49 (typedSem pi_iso_Put po_iso_Put g_iso_Put))
theorem q_word_Text_m (k : Nat) (d : Unit × (((List Int) × Unit) × ((Int × Unit) × Unit))) : evCode E_word_Text (tb (L_word_Text k) (R_word_Text k)) c_word_Text (bodyOf Try.f20) 0 (finK E_word_Text po_word_Text [.tmp 4, .tmp 5]) (startSt pi_word_Text 21 d) = f_word_Text_m () d := by kernel_rfl
def g_word_Text (d : Unit × (((List Int) × Unit) × ((Int × Unit) × Unit))) : Option (Unit × ((ByteArray × Unit) × (((Option Int) × Unit) × Unit))) := f_word_Text_m () d
theorem ok_word_Text : FnOk Try.prog ET0 20 pi_word_Text po_word_Text g_word_Text :=
  fn_of_body (E := E_word_Text) (envOk_add (envOk_add e0_ok (typed_ok ok_word_Label)) (typed_ok ok_iso_Put)) (fn := Try.f20) Try.func20 (by kernel_rfl) (by kernel_rfl) [.tmp 4, .tmp 5] (by kernel_rfl) (by kernel_rfl) (by decide) rfl c_word_Text L_word_Text R_word_Text
    (by intro x hx; cases hx) (by intro k x hx; cases hx) (by intro x hx; cases hx) (by intro k x hx; cases hx) (fun d out h => ⟨0, (q_word_Text_m 0 d).trans h⟩)

/- horologe/horologeref01.Of -/
@[reducible] def pi_ref01_Of : PSh := ⟨[], [.mk false [.v (.int .i64)]]⟩
@[reducible] def po_ref01_Of : PSh := ⟨[.row 52 (.int .u64)], [.mk true [.v .bool, .osl 0]]⟩
@[reducible] def TT_ref01_Of : Type := (((((Bool × Unit) × ((List Int) × ((List Int) × Unit))) × ((Int × Unit) × (Unit × (Unit × ((Bool × Unit) × Unit))))) → Option (((List Int) × Unit) × ((Bool × Unit) × Unit))) × Unit)
@[reducible] def sh_ref01_Of_4 : PSh := ⟨[.var 118 [.v .bool, .osl 1], .row 52 (.int .u64), .row 52 (.int .u64)], [.mk false [.v (.int .i64)], .any, .mk false [.ref 0 0], .mk false [.osl 2], .mk false [.v .bool], .any, .any, .any, .any, .any, .any, .any, .any, .any, .any, .any, .any, .any, .any, .any, .any, .any, .any, .any, .any, .any]⟩
def f_ref01_Of_p4 (T : TT_ref01_Of) (d : ((Bool × Unit) × ((List Int) × ((List Int) × Unit))) × ((Int × Unit) × (Unit × (Unit × ((Bool × Unit) × Unit))))) : Option (((List Int) × Unit) × ((Bool × Unit) × Unit)) :=
  let x2 : Bool := (d.2.1.1 != (0 : Int))
  bif x2 then (
  let x3 : Int := (Int.tmod d.2.1.1 (65536 : Int))
  let x4 : Bool := (decide (x3 < (0 : Int)))
  bif x4 then (
  let x5 : Int := (isub .i64 (0 : Int) x3)
  let x6 : Int := (iconv .u64 x5)
  let x7 : (List Int) := ([x6] : List Int)
  bif decide (((d.1.2.2.1.length + x7.length) * 8 : Nat) ≤ 140737488355328) && decide (d.1.2.2.1.length + x7.length ≤ 9223372036854775807) then (
  let x8 : (List Int) := (d.1.2.2.1 ++ x7)
  let x9 : Int := (iquo .i64 d.2.1.1 (65536 : Int))
  (T.1 (((d.1.1.1, ()), (d.1.2.1, (x8, ()))), ((x9, ()), ((), ((), ((d.2.2.2.2.1.1, ()), ())))))))
  else none)
  else (
  let x10 : Int := (iconv .u64 x3)
  let x11 : (List Int) := ([x10] : List Int)
  bif decide (((d.1.2.2.1.length + x11.length) * 8 : Nat) ≤ 140737488355328) && decide (d.1.2.2.1.length + x11.length ≤ 9223372036854775807) then (
  let x12 : (List Int) := (d.1.2.2.1 ++ x11)
  let x13 : Int := (iquo .i64 d.2.1.1 (65536 : Int))
  (T.1 (((d.1.1.1, ()), (d.1.2.1, (x12, ()))), ((x13, ()), ((), ((), ((d.2.2.2.2.1.1, ()), ())))))))
  else none))
  else (
  some ((d.1.2.2.1, ()), ((d.2.2.2.2.1.1, ()), ())))
def f_ref01_Of_t : Nat → TT_ref01_Of
  | 0 => (fun _ => none, ())
  | k + 1 => (f_ref01_Of_p4 (f_ref01_Of_t k), ())
theorem t_ref01_Of (k : Nat) : f_ref01_Of_t (k + 1) = (f_ref01_Of_p4 (f_ref01_Of_t k), ()) := rfl
def f_ref01_Of_m (T : TT_ref01_Of) (d : Unit × ((Int × Unit) × Unit)) : Option (((List Int) × Unit) × ((Bool × Unit) × Unit)) :=
  let x1 : Bool := (decide (d.2.1.1 < (0 : Int)))
  (T.1 (((false, ()), (([] : List Int), (([] : List Int), ()))), ((d.2.1.1, ()), ((), ((), ((x1, ()), ()))))))
def c_ref01_Of : List Nat := []
def L_ref01_Of (k : Nat) : Pts po_ref01_Of.den := [(4, ⟨sh_ref01_Of_4, (f_ref01_Of_t k).1⟩)]
def R_ref01_Of (_ : Nat) : PtsR po_ref01_Of.den := []
def E_ref01_Of : Env := E0
theorem q_ref01_Of_4 (k : Nat) (d : ((Bool × Unit) × ((List Int) × ((List Int) × Unit))) × ((Int × Unit) × (Unit × (Unit × ((Bool × Unit) × Unit))))) : evAt E_ref01_Of (tb (L_ref01_Of k) (R_ref01_Of k)) c_ref01_Of 4 (bodyOf Try.f75) 0 (finK E_ref01_Of po_ref01_Of [.cell 2 118]) (ptSt sh_ref01_Of_4 d) = f_ref01_Of_p4 (f_ref01_Of_t k) d := by kernel_rfl
theorem q_ref01_Of_m (k : Nat) (d : Unit × ((Int × Unit) × Unit)) : evCode E_ref01_Of (tb (L_ref01_Of k) (R_ref01_Of k)) c_ref01_Of (bodyOf Try.f75) 0 (finK E_ref01_Of po_ref01_Of [.cell 2 118]) (startSt pi_ref01_Of 26 d) = f_ref01_Of_m (f_ref01_Of_t k) d := by kernel_rfl
theorem go_ref01_Of (F : Unit × ((Int × Unit) × Unit) → Option (((List Int) × Unit) × ((Bool × Unit) × Unit))) (hF : ∀ d out, F d = some out → ∃ k, f_ref01_Of_m (f_ref01_Of_t k) d = some out) : FnOk Try.prog ET0 75 pi_ref01_Of po_ref01_Of F :=
  fn_of_body (E := E_ref01_Of) e0_ok (fn := Try.f75) Try.func75 (by kernel_rfl) (by kernel_rfl) [.cell 2 118] (by kernel_rfl) (by kernel_rfl) (by decide) rfl c_ref01_Of L_ref01_Of R_ref01_Of
    (by intro x hx d; simp only [L_ref01_Of, List.mem_cons, List.not_mem_nil, or_false] at hx; subst hx; rfl)
    (by intro k x hx d out h; simp only [L_ref01_Of, List.mem_cons, List.not_mem_nil, or_false] at hx; subst hx; exact (q_ref01_Of_4 k d).trans h)
    (by intro x hx; cases hx)
    (by intro k x hx; cases hx)
    (by intro d out h; obtain ⟨k, hk⟩ := hF d out h; exact ⟨k, (q_ref01_Of_m k d).trans hk⟩)
def g_ref01_Of (d : Unit × ((Int × Unit) × Unit)) : Option (((List Int) × Unit) × ((Bool × Unit) × Unit)) := lim fun k => f_ref01_Of_m (f_ref01_Of_t k) d
theorem ok_ref01_Of : FnOk Try.prog ET0 75 pi_ref01_Of po_ref01_Of g_ref01_Of := go_ref01_Of g_ref01_Of fun d out h => lim_some h

/- horologe/horologeref01.digit -/
@[reducible] def pi_ref01_digit : PSh := ⟨[], [.mk false [.v (.sl (.int .u64))], .mk false [.v (.int .i64)]]⟩
@[reducible] def po_ref01_digit : PSh := ⟨[], [.mk false [.v (.int .u64)]]⟩
def f_ref01_digit_m (T : Unit) (d : Unit × (((List Int) × Unit) × ((Int × Unit) × Unit))) : Option (Unit × ((Int × Unit) × Unit)) :=
  let x1 : Int := (d.2.1.1.length : Int)
  let x2 : Bool := (decide (d.2.2.1.1 < x1))
  bif x2 then (
  bif decide ((0 : Int) ≤ d.2.2.1.1) && decide (d.2.2.1.1 < (d.2.1.1.length : Int)) then (
  some ((), (((gd (.int .u64) d.2.1.1 d.2.2.1.1), ()), ())))
  else none)
  else (
  some ((), (((0 : Int), ()), ())))
def c_ref01_digit : List Nat := []
def L_ref01_digit (_ : Nat) : Pts po_ref01_digit.den := []
def R_ref01_digit (_ : Nat) : PtsR po_ref01_digit.den := []
def E_ref01_digit : Env := E0
theorem q_ref01_digit_m (k : Nat) (d : Unit × (((List Int) × Unit) × ((Int × Unit) × Unit))) : evCode E_ref01_digit (tb (L_ref01_digit k) (R_ref01_digit k)) c_ref01_digit (bodyOf Try.f117) 0 (finK E_ref01_digit po_ref01_digit [.tmp 4]) (startSt pi_ref01_digit 13 d) = f_ref01_digit_m () d := by kernel_rfl
def g_ref01_digit (d : Unit × (((List Int) × Unit) × ((Int × Unit) × Unit))) : Option (Unit × ((Int × Unit) × Unit)) := f_ref01_digit_m () d
theorem ok_ref01_digit : FnOk Try.prog ET0 117 pi_ref01_digit po_ref01_digit g_ref01_digit :=
  fn_of_body (E := E_ref01_digit) e0_ok (fn := Try.f117) Try.func117 (by kernel_rfl) (by kernel_rfl) [.tmp 4] (by kernel_rfl) (by kernel_rfl) (by decide) rfl c_ref01_digit L_ref01_digit R_ref01_digit
    (by intro x hx; cases hx) (by intro k x hx; cases hx) (by intro x hx; cases hx) (by intro k x hx; cases hx) (fun d out h => ⟨0, (q_ref01_digit_m 0 d).trans h⟩)

/- horologe/horologeref01.less -/
@[reducible] def pi_ref01_less : PSh := ⟨[], [.mk false [.v (.sl (.int .u64))], .mk false [.v (.sl (.int .u64))]]⟩
@[reducible] def po_ref01_less : PSh := ⟨[], [.mk false [.v .bool]]⟩
@[reducible] def TT_ref01_less : Type := (((Unit × (((List Int) × Unit) × (((List Int) × Unit) × ((Int × Unit) × Unit)))) → Option (Unit × ((Bool × Unit) × Unit))) × Unit)
@[reducible] def sh_ref01_less_3 : PSh := ⟨[], [.mk false [.v (.sl (.int .u64))], .mk false [.v (.sl (.int .u64))], .any, .any, .any, .mk false [.v (.int .i64)], .any, .any, .any, .any, .any, .any, .any, .any, .any, .any, .any, .any, .any, .any, .any, .any, .any, .any, .any, .any, .any, .any, .any, .any]⟩
def f_ref01_less_p3 (T : TT_ref01_less) (d : Unit × (((List Int) × Unit) × (((List Int) × Unit) × ((Int × Unit) × Unit)))) : Option (Unit × ((Bool × Unit) × Unit)) :=
  let x5 : Bool := (decide (d.2.2.2.1.1 ≥ (0 : Int)))
  bif x5 then (
  (g_ref01_digit ((), ((d.2.1.1, ()), ((d.2.2.2.1.1, ()), ())))).bind fun x6 =>
  (g_ref01_digit ((), ((d.2.2.1.1, ()), ((d.2.2.2.1.1, ()), ())))).bind fun x7 =>
  let x8 : Bool := (x6.2.1.1 != x7.2.1.1)
  bif x8 then (
  (g_ref01_digit ((), ((d.2.1.1, ()), ((d.2.2.2.1.1, ()), ())))).bind fun x9 =>
  (g_ref01_digit ((), ((d.2.2.1.1, ()), ((d.2.2.2.1.1, ()), ())))).bind fun x10 =>
  let x11 : Bool := (decide (x9.2.1.1 < x10.2.1.1))
  some ((), ((x11, ()), ())))
  else (
  let x12 : Int := (isub .i64 d.2.2.2.1.1 (1 : Int))
  (T.1 ((), ((d.2.1.1, ()), ((d.2.2.1.1, ()), ((x12, ()), ())))))))
  else (
  some ((), ((false, ()), ())))
def f_ref01_less_t : Nat → TT_ref01_less
  | 0 => (fun _ => none, ())
  | k + 1 => (f_ref01_less_p3 (f_ref01_less_t k), ())
theorem t_ref01_less (k : Nat) : f_ref01_less_t (k + 1) = (f_ref01_less_p3 (f_ref01_less_t k), ()) := rfl
def f_ref01_less_m (T : TT_ref01_less) (d : Unit × (((List Int) × Unit) × (((List Int) × Unit) × Unit))) : Option (Unit × ((Bool × Unit) × Unit)) :=
  let x1 : Int := (d.2.1.1.length : Int)
  let x2 : Int := (d.2.2.1.1.length : Int)
  let x3 : Int := (if x2 > x1 then x2 else x1)
  let x4 : Int := (isub .i64 x3 (1 : Int))
  (T.1 ((), ((d.2.1.1, ()), ((d.2.2.1.1, ()), ((x4, ()), ())))))
def c_ref01_less : List Nat := []
def L_ref01_less (k : Nat) : Pts po_ref01_less.den := [(3, ⟨sh_ref01_less_3, (f_ref01_less_t k).1⟩)]
def R_ref01_less (_ : Nat) : PtsR po_ref01_less.den := []
def E_ref01_less : Env := (E0.add 117 (typedSem pi_ref01_digit po_ref01_digit g_ref01_digit))
theorem q_ref01_less_3 (k : Nat) (d : Unit × (((List Int) × Unit) × (((List Int) × Unit) × ((Int × Unit) × Unit)))) : evAt E_ref01_less (tb (L_ref01_less k) (R_ref01_less k)) c_ref01_less 3 (bodyOf Try.f106) 0 (finK E_ref01_less po_ref01_less [.tmp 4]) (ptSt sh_ref01_less_3 d) = f_ref01_less_p3 (f_ref01_less_t k) d := by kernel_rfl
theorem q_ref01_less_m (k : Nat) (d : Unit × (((List Int) × Unit) × (((List Int) × Unit) × Unit))) : evCode E_ref01_less (tb (L_ref01_less k) (R_ref01_less k)) c_ref01_less (bodyOf Try.f106) 0 (finK E_ref01_less po_ref01_less [.tmp 4]) (startSt pi_ref01_less 30 d) = f_ref01_less_m (f_ref01_less_t k) d := by kernel_rfl
theorem go_ref01_less (F : Unit × (((List Int) × Unit) × (((List Int) × Unit) × Unit)) → Option (Unit × ((Bool × Unit) × Unit))) (hF : ∀ d out, F d = some out → ∃ k, f_ref01_less_m (f_ref01_less_t k) d = some out) : FnOk Try.prog ET0 106 pi_ref01_less po_ref01_less F :=
  fn_of_body (E := E_ref01_less) (envOk_add e0_ok (typed_ok ok_ref01_digit)) (fn := Try.f106) Try.func106 (by kernel_rfl) (by kernel_rfl) [.tmp 4] (by kernel_rfl) (by kernel_rfl) (by decide) rfl c_ref01_less L_ref01_less R_ref01_less
    (by intro x hx d; simp only [L_ref01_less, List.mem_cons, List.not_mem_nil, or_false] at hx; subst hx; rfl)
    (by intro k x hx d out h; simp only [L_ref01_less, List.mem_cons, List.not_mem_nil, or_false] at hx; subst hx; exact (q_ref01_less_3 k d).trans h)
    (by intro x hx; cases hx)
    (by intro k x hx; cases hx)
    (by intro d out h; obtain ⟨k, hk⟩ := hF d out h; exact ⟨k, (q_ref01_less_m k d).trans hk⟩)
def g_ref01_less (d : Unit × (((List Int) × Unit) × (((List Int) × Unit) × Unit))) : Option (Unit × ((Bool × Unit) × Unit)) := lim fun k => f_ref01_less_m (f_ref01_less_t k) d
theorem ok_ref01_less : FnOk Try.prog ET0 106 pi_ref01_less po_ref01_less g_ref01_less := go_ref01_less g_ref01_less fun d out h => lim_some h

/- horologe/horologeref01.Less -/
@[reducible] def pi_ref01_Less : PSh := ⟨[], [.mk true [.v .bool, .v (.sl (.int .u64))], .mk true [.v .bool, .v (.sl (.int .u64))]]⟩
@[reducible] def po_ref01_Less : PSh := ⟨[], [.mk false [.v .bool]]⟩
def f_ref01_Less_m (T : Unit) (d : Unit × ((Bool × ((List Int) × Unit)) × ((Bool × ((List Int) × Unit)) × Unit))) : Option (Unit × ((Bool × Unit) × Unit)) :=
  let x1 : Bool := (!(d.2.1.1 == d.2.2.1.1))
  bif x1 then (
  some ((), ((d.2.1.1, ()), ())))
  else (
  bif d.2.1.1 then (
  (g_ref01_less ((), ((d.2.2.1.2.1, ()), ((d.2.1.2.1, ()), ())))).bind fun x2 =>
  some ((), ((x2.2.1.1, ()), ())))
  else (
  (g_ref01_less ((), ((d.2.1.2.1, ()), ((d.2.2.1.2.1, ()), ())))).bind fun x3 =>
  some ((), ((x3.2.1.1, ()), ()))))
def c_ref01_Less : List Nat := []
def L_ref01_Less (_ : Nat) : Pts po_ref01_Less.den := []
def R_ref01_Less (_ : Nat) : PtsR po_ref01_Less.den := []
def E_ref01_Less : Env := (E0.add 106 (typedSem pi_ref01_less po_ref01_less g_ref01_less))
theorem q_ref01_Less_m (k : Nat) (d : Unit × ((Bool × ((List Int) × Unit)) × ((Bool × ((List Int) × Unit)) × Unit))) : evCode E_ref01_Less (tb (L_ref01_Less k) (R_ref01_Less k)) c_ref01_Less (bodyOf Try.f104) 0 (finK E_ref01_Less po_ref01_Less [.tmp 4]) (startSt pi_ref01_Less 24 d) = f_ref01_Less_m () d := by kernel_rfl
def g_ref01_Less (d : Unit × ((Bool × ((List Int) × Unit)) × ((Bool × ((List Int) × Unit)) × Unit))) : Option (Unit × ((Bool × Unit) × Unit)) := f_ref01_Less_m () d
theorem ok_ref01_Less : FnOk Try.prog ET0 104 pi_ref01_Less po_ref01_Less g_ref01_Less :=
  fn_of_body (E := E_ref01_Less) (envOk_add e0_ok (typed_ok ok_ref01_less)) (fn := Try.f104) Try.func104 (by kernel_rfl) (by kernel_rfl) [.tmp 4] (by kernel_rfl) (by kernel_rfl) (by decide) rfl c_ref01_Less L_ref01_Less R_ref01_Less
    (by intro x hx; cases hx) (by intro k x hx; cases hx) (by intro x hx; cases hx) (by intro k x hx; cases hx) (fun d out h => ⟨0, (q_ref01_Less_m 0 d).trans h⟩)

/- horologe/horologeref01.Small -/
@[reducible] def pi_ref01_Small : PSh := ⟨[], [.mk true [.v .bool, .v (.sl (.int .u64))]]⟩
@[reducible] def po_ref01_Small : PSh := ⟨[], [.mk false [.v (.int .i64)], .mk false [.v (.int .i64)]]⟩
@[reducible] def TT_ref01_Small : Type := (((((Bool × ((List Int) × Unit)) × Unit) × (Unit × ((Int × Unit) × ((Int × Unit) × Unit)))) → Option (Unit × ((Int × Unit) × ((Int × Unit) × Unit)))) × Unit)
@[reducible] def sh_ref01_Small_8 : PSh := ⟨[.var 118 [.v .bool, .v (.sl (.int .u64))]], [.any, .mk false [.ref 0 0], .any, .any, .any, .any, .mk false [.v (.int .i64)], .mk false [.v (.int .i64)], .any, .any, .any, .any, .any, .any, .any, .any, .any, .any, .any, .any, .any, .any, .any, .any, .any, .any, .any, .any, .any, .any, .any, .any, .any, .any, .any, .any, .any, .any, .any, .any, .any, .any, .any, .any, .any, .any, .any]⟩
def f_ref01_Small_p8 (T : TT_ref01_Small) (d : ((Bool × ((List Int) × Unit)) × Unit) × (Unit × ((Int × Unit) × ((Int × Unit) × Unit)))) : Option (Unit × ((Int × Unit) × ((Int × Unit) × Unit))) :=
  let x7 : Bool := (decide (d.2.2.2.1.1 ≥ (0 : Int)))
  bif x7 then (
  let x8 : Int := (imul .i64 d.2.2.1.1 (65536 : Int))
  bif d.1.1.1 then (
  bif decide ((0 : Int) ≤ d.2.2.2.1.1) && decide (d.2.2.2.1.1 < (d.1.1.2.1.length : Int)) then (
  let x9 : Int := (iconv .i64 (gd (.int .u64) d.1.1.2.1 d.2.2.2.1.1))
  let x10 : Int := (isub .i64 x8 x9)
  let x11 : Int := (isub .i64 d.2.2.2.1.1 (1 : Int))
  (T.1 (((d.1.1.1, (d.1.1.2.1, ())), ()), ((), ((x10, ()), ((x11, ()), ()))))))
  else none)
  else (
  bif decide ((0 : Int) ≤ d.2.2.2.1.1) && decide (d.2.2.2.1.1 < (d.1.1.2.1.length : Int)) then (
  let x12 : Int := (iconv .i64 (gd (.int .u64) d.1.1.2.1 d.2.2.2.1.1))
  let x13 : Int := (iadd .i64 x8 x12)
  let x14 : Int := (isub .i64 d.2.2.2.1.1 (1 : Int))
  (T.1 (((d.1.1.1, (d.1.1.2.1, ())), ()), ((), ((x13, ()), ((x14, ()), ()))))))
  else none))
  else (
  some ((), ((d.2.2.1.1, ()), (((0 : Int), ()), ()))))
def f_ref01_Small_t : Nat → TT_ref01_Small
  | 0 => (fun _ => none, ())
  | k + 1 => (f_ref01_Small_p8 (f_ref01_Small_t k), ())
theorem t_ref01_Small (k : Nat) : f_ref01_Small_t (k + 1) = (f_ref01_Small_p8 (f_ref01_Small_t k), ()) := rfl
def f_ref01_Small_m (T : TT_ref01_Small) (d : Unit × ((Bool × ((List Int) × Unit)) × Unit)) : Option (Unit × ((Int × Unit) × ((Int × Unit) × Unit))) :=
  (g_ref01_Of ((), (((-9223372036854775808 : Int), ()), ()))).bind fun x1 =>
  (g_ref01_Of ((), (((9223372036854775807 : Int), ()), ()))).bind fun x2 =>
  (g_ref01_Less ((), ((d.2.1.1, (d.2.1.2.1, ())), ((x1.2.1.1, (x1.1.1, ())), ())))).bind fun x3 =>
  bif x3.2.1.1 then (
  some ((), (((0 : Int), ()), (((5 : Int), ()), ()))))
  else (
  (g_ref01_Less ((), ((x2.2.1.1, (x2.1.1, ())), ((d.2.1.1, (d.2.1.2.1, ())), ())))).bind fun x4 =>
  bif x4.2.1.1 then (
  some ((), (((0 : Int), ()), (((5 : Int), ()), ()))))
  else (
  let x5 : Int := (d.2.1.2.1.length : Int)
  let x6 : Int := (isub .i64 x5 (1 : Int))
  (T.1 (((d.2.1.1, (d.2.1.2.1, ())), ()), ((), (((0 : Int), ()), ((x6, ()), ())))))))
def c_ref01_Small : List Nat := []
def L_ref01_Small (k : Nat) : Pts po_ref01_Small.den := [(8, ⟨sh_ref01_Small_8, (f_ref01_Small_t k).1⟩)]
def R_ref01_Small (_ : Nat) : PtsR po_ref01_Small.den := []
def E_ref01_Small : Env := ((E0.add 75 (typedSem pi_ref01_Of po_ref01_Of g_ref01_Of)).add 104 (typedSem pi_ref01_Less po_ref01_Less g_ref01_Less))
theorem q_ref01_Small_8 (k : Nat) (d : ((Bool × ((List Int) × Unit)) × Unit) × (Unit × ((Int × Unit) × ((Int × Unit) × Unit)))) : evAt E_ref01_Small (tb (L_ref01_Small k) (R_ref01_Small k)) c_ref01_Small 8 (bodyOf Try.f73) 0 (finK E_ref01_Small po_ref01_Small [.tmp 2, .tmp 3]) (ptSt sh_ref01_Small_8 d) = f_ref01_Small_p8 (f_ref01_Small_t k) d := by kernel_rfl
theorem q_ref01_Small_m (k : Nat) (d : Unit × ((Bool × ((List Int) × Unit)) × Unit)) : evCode E_ref01_Small (tb (L_ref01_Small k) (R_ref01_Small k)) c_ref01_Small (bodyOf Try.f73) 0 (finK E_ref01_Small po_ref01_Small [.tmp 2, .tmp 3]) (startSt pi_ref01_Small 47 d) = f_ref01_Small_m (f_ref01_Small_t k) d := by kernel_rfl
theorem go_ref01_Small (F : Unit × ((Bool × ((List Int) × Unit)) × Unit) → Option (Unit × ((Int × Unit) × ((Int × Unit) × Unit)))) (hF : ∀ d out, F d = some out → ∃ k, f_ref01_Small_m (f_ref01_Small_t k) d = some out) : FnOk Try.prog ET0 73 pi_ref01_Small po_ref01_Small F :=
  fn_of_body (E := E_ref01_Small) (envOk_add (envOk_add e0_ok (typed_ok ok_ref01_Of)) (typed_ok ok_ref01_Less)) (fn := Try.f73) Try.func73 (by kernel_rfl) (by kernel_rfl) [.tmp 2, .tmp 3] (by kernel_rfl) (by kernel_rfl) (by decide) rfl c_ref01_Small L_ref01_Small R_ref01_Small
    (by intro x hx d; simp only [L_ref01_Small, List.mem_cons, List.not_mem_nil, or_false] at hx; subst hx; rfl)
    (by intro k x hx d out h; simp only [L_ref01_Small, List.mem_cons, List.not_mem_nil, or_false] at hx; subst hx; exact (q_ref01_Small_8 k d).trans h)
    (by intro x hx; cases hx)
    (by intro k x hx; cases hx)
    (by intro d out h; obtain ⟨k, hk⟩ := hF d out h; exact ⟨k, (q_ref01_Small_m k d).trans hk⟩)
def g_ref01_Small (d : Unit × ((Bool × ((List Int) × Unit)) × Unit)) : Option (Unit × ((Int × Unit) × ((Int × Unit) × Unit))) := lim fun k => f_ref01_Small_m (f_ref01_Small_t k) d
theorem ok_ref01_Small : FnOk Try.prog ET0 73 pi_ref01_Small po_ref01_Small g_ref01_Small := go_ref01_Small g_ref01_Small fun d out h => lim_some h

/- horologe/horologeref01.plus -/
@[reducible] def pi_ref01_plus : PSh := ⟨[], [.mk false [.v (.sl (.int .u64))], .mk false [.v (.sl (.int .u64))]]⟩
@[reducible] def po_ref01_plus : PSh := ⟨[.row 52 (.int .u64)], [.mk false [.osl 0]]⟩
@[reducible] def TT_ref01_plus : Type := (((((List Int) × Unit) × (((List Int) × Unit) × (((List Int) × Unit) × (Unit × ((Int × Unit) × ((Int × Unit) × Unit)))))) → Option (((List Int) × Unit) × (Unit × Unit))) × Unit)
@[reducible] def sh_ref01_plus_5 : PSh := ⟨[.row 52 (.int .u64)], [.mk false [.v (.sl (.int .u64))], .mk false [.v (.sl (.int .u64))], .any, .any, .any, .mk false [.osl 0], .mk false [.v (.int .u64)], .mk false [.v (.int .i64)], .any, .any, .any, .any, .any, .any, .any, .any, .any, .any, .any, .any, .any, .any, .any, .any, .any, .any, .any, .any, .any, .any, .any, .any, .any, .any, .any, .any, .any, .any, .any, .any, .any, .any]⟩
def f_ref01_plus_p5 (T : TT_ref01_plus) (d : ((List Int) × Unit) × (((List Int) × Unit) × (((List Int) × Unit) × (Unit × ((Int × Unit) × ((Int × Unit) × Unit)))))) : Option (((List Int) × Unit) × (Unit × Unit)) :=
  let x1 : Int := (d.2.1.1.length : Int)
  let x2 : Bool := (decide (d.2.2.2.2.2.1.1 < x1))
  bif x2 then (
  (g_ref01_digit ((), ((d.2.1.1, ()), ((d.2.2.2.2.2.1.1, ()), ())))).bind fun x3 =>
  (g_ref01_digit ((), ((d.2.2.1.1, ()), ((d.2.2.2.2.2.1.1, ()), ())))).bind fun x4 =>
  let x5 : Int := (iadd .u64 x3.2.1.1 x4.2.1.1)
  let x6 : Int := (iadd .u64 x5 d.2.2.2.2.1.1)
  let x7 : Int := (Int.tmod x6 (65536 : Int))
  let x8 : (List Int) := ([x7] : List Int)
  bif decide (((d.1.1.length + x8.length) * 8 : Nat) ≤ 140737488355328) && decide (d.1.1.length + x8.length ≤ 9223372036854775807) then (
  let x9 : (List Int) := (d.1.1 ++ x8)
  let x10 : Int := (iquo .u64 x6 (65536 : Int))
  let x11 : Int := (iadd .i64 d.2.2.2.2.2.1.1 (1 : Int))
  (T.1 ((x9, ()), ((d.2.1.1, ()), ((d.2.2.1.1, ()), ((), ((x10, ()), ((x11, ()), ()))))))))
  else none)
  else (
  let x12 : Int := (d.2.2.1.1.length : Int)
  let x13 : Bool := (decide (d.2.2.2.2.2.1.1 < x12))
  bif x13 then (
  (g_ref01_digit ((), ((d.2.1.1, ()), ((d.2.2.2.2.2.1.1, ()), ())))).bind fun x14 =>
  (g_ref01_digit ((), ((d.2.2.1.1, ()), ((d.2.2.2.2.2.1.1, ()), ())))).bind fun x15 =>
  let x16 : Int := (iadd .u64 x14.2.1.1 x15.2.1.1)
  let x17 : Int := (iadd .u64 x16 d.2.2.2.2.1.1)
  let x18 : Int := (Int.tmod x17 (65536 : Int))
  let x19 : (List Int) := ([x18] : List Int)
  bif decide (((d.1.1.length + x19.length) * 8 : Nat) ≤ 140737488355328) && decide (d.1.1.length + x19.length ≤ 9223372036854775807) then (
  let x20 : (List Int) := (d.1.1 ++ x19)
  let x21 : Int := (iquo .u64 x17 (65536 : Int))
  let x22 : Int := (iadd .i64 d.2.2.2.2.2.1.1 (1 : Int))
  (T.1 ((x20, ()), ((d.2.1.1, ()), ((d.2.2.1.1, ()), ((), ((x21, ()), ((x22, ()), ()))))))))
  else none)
  else (
  let x23 : Bool := (decide (d.2.2.2.2.1.1 > (0 : Int)))
  bif x23 then (
  (g_ref01_digit ((), ((d.2.1.1, ()), ((d.2.2.2.2.2.1.1, ()), ())))).bind fun x24 =>
  (g_ref01_digit ((), ((d.2.2.1.1, ()), ((d.2.2.2.2.2.1.1, ()), ())))).bind fun x25 =>
  let x26 : Int := (iadd .u64 x24.2.1.1 x25.2.1.1)
  let x27 : Int := (iadd .u64 x26 d.2.2.2.2.1.1)
  let x28 : Int := (Int.tmod x27 (65536 : Int))
  let x29 : (List Int) := ([x28] : List Int)
  bif decide (((d.1.1.length + x29.length) * 8 : Nat) ≤ 140737488355328) && decide (d.1.1.length + x29.length ≤ 9223372036854775807) then (
  let x30 : (List Int) := (d.1.1 ++ x29)
  let x31 : Int := (iquo .u64 x27 (65536 : Int))
  let x32 : Int := (iadd .i64 d.2.2.2.2.2.1.1 (1 : Int))
  (T.1 ((x30, ()), ((d.2.1.1, ()), ((d.2.2.1.1, ()), ((), ((x31, ()), ((x32, ()), ()))))))))
  else none)
  else (
  some ((d.1.1, ()), ((), ())))))
def f_ref01_plus_t : Nat → TT_ref01_plus
  | 0 => (fun _ => none, ())
  | k + 1 => (f_ref01_plus_p5 (f_ref01_plus_t k), ())
theorem t_ref01_plus (k : Nat) : f_ref01_plus_t (k + 1) = (f_ref01_plus_p5 (f_ref01_plus_t k), ()) := rfl
def f_ref01_plus_m (T : TT_ref01_plus) (d : Unit × (((List Int) × Unit) × (((List Int) × Unit) × Unit))) : Option (((List Int) × Unit) × (Unit × Unit)) :=
  (T.1 ((([] : List Int), ()), ((d.2.1.1, ()), ((d.2.2.1.1, ()), ((), (((0 : Int), ()), (((0 : Int), ()), ())))))))
def c_ref01_plus : List Nat := []
def L_ref01_plus (k : Nat) : Pts po_ref01_plus.den := [(5, ⟨sh_ref01_plus_5, (f_ref01_plus_t k).1⟩)]
def R_ref01_plus (_ : Nat) : PtsR po_ref01_plus.den := []
def E_ref01_plus : Env := (E0.add 117 (typedSem pi_ref01_digit po_ref01_digit g_ref01_digit))
theorem q_ref01_plus_5 (k : Nat) (d : ((List Int) × Unit) × (((List Int) × Unit) × (((List Int) × Unit) × (Unit × ((Int × Unit) × ((Int × Unit) × Unit)))))) : evAt E_ref01_plus (tb (L_ref01_plus k) (R_ref01_plus k)) c_ref01_plus 5 (bodyOf Try.f105) 0 (finK E_ref01_plus po_ref01_plus [.tmp 4]) (ptSt sh_ref01_plus_5 d) = f_ref01_plus_p5 (f_ref01_plus_t k) d := by kernel_rfl
theorem q_ref01_plus_m (k : Nat) (d : Unit × (((List Int) × Unit) × (((List Int) × Unit) × Unit))) : evCode E_ref01_plus (tb (L_ref01_plus k) (R_ref01_plus k)) c_ref01_plus (bodyOf Try.f105) 0 (finK E_ref01_plus po_ref01_plus [.tmp 4]) (startSt pi_ref01_plus 42 d) = f_ref01_plus_m (f_ref01_plus_t k) d := by kernel_rfl
theorem go_ref01_plus (F : Unit × (((List Int) × Unit) × (((List Int) × Unit) × Unit)) → Option (((List Int) × Unit) × (Unit × Unit))) (hF : ∀ d out, F d = some out → ∃ k, f_ref01_plus_m (f_ref01_plus_t k) d = some out) : FnOk Try.prog ET0 105 pi_ref01_plus po_ref01_plus F :=
  fn_of_body (E := E_ref01_plus) (envOk_add e0_ok (typed_ok ok_ref01_digit)) (fn := Try.f105) Try.func105 (by kernel_rfl) (by kernel_rfl) [.tmp 4] (by kernel_rfl) (by kernel_rfl) (by decide) rfl c_ref01_plus L_ref01_plus R_ref01_plus
    (by intro x hx d; simp only [L_ref01_plus, List.mem_cons, List.not_mem_nil, or_false] at hx; subst hx; rfl)
    (by intro k x hx d out h; simp only [L_ref01_plus, List.mem_cons, List.not_mem_nil, or_false] at hx; subst hx; exact (q_ref01_plus_5 k d).trans h)
    (by intro x hx; cases hx)
    (by intro k x hx; cases hx)
    (by intro d out h; obtain ⟨k, hk⟩ := hF d out h; exact ⟨k, (q_ref01_plus_m k d).trans hk⟩)
def g_ref01_plus (d : Unit × (((List Int) × Unit) × (((List Int) × Unit) × Unit))) : Option (((List Int) × Unit) × (Unit × Unit)) := lim fun k => f_ref01_plus_m (f_ref01_plus_t k) d
theorem ok_ref01_plus : FnOk Try.prog ET0 105 pi_ref01_plus po_ref01_plus g_ref01_plus := go_ref01_plus g_ref01_plus fun d out h => lim_some h

/- horologe/horologeref01.cut -/
@[reducible] def pi_ref01_cut : PSh := ⟨[], [.mk false [.v (.sl (.int .u64))]]⟩
@[reducible] def po_ref01_cut : PSh := ⟨[], [.mk false [.v (.sl (.int .u64))]]⟩
@[reducible] def TT_ref01_cut : Type := (((Unit × (((List Int) × Unit) × Unit)) → Option (Unit × (((List Int) × Unit) × Unit))) × Unit)
@[reducible] def sh_ref01_cut_2 : PSh := ⟨[], [.mk false [.v (.sl (.int .u64))], .any, .any, .any, .any, .any, .any, .any, .any, .any, .any, .any, .any, .any, .any, .any, .any, .any, .any, .any, .any]⟩
def f_ref01_cut_p2 (T : TT_ref01_cut) (d : Unit × (((List Int) × Unit) × Unit)) : Option (Unit × (((List Int) × Unit) × Unit)) :=
  let x1 : Int := (d.2.1.1.length : Int)
  let x2 : Bool := (decide (x1 > (0 : Int)))
  bif x2 then (
  let x3 : Int := (d.2.1.1.length : Int)
  let x4 : Int := (isub .i64 x3 (1 : Int))
  bif decide ((0 : Int) ≤ x4) && decide (x4 < (d.2.1.1.length : Int)) then (
  let x5 : Bool := ((gd (.int .u64) d.2.1.1 x4) == (0 : Int))
  bif x5 then (
  let x6 : Int := (d.2.1.1.length : Int)
  let x7 : Int := (isub .i64 x6 (1 : Int))
  bif decide ((0 : Int) ≤ (0 : Int)) && decide ((0 : Int) ≤ x7) && decide (x7 ≤ (d.2.1.1.length : Int)) then (
  let x8 : (List Int) := (List.drop (Int.toNat (0 : Int)) (List.take (Int.toNat x7) d.2.1.1))
  (T.1 ((), ((x8, ()), ()))))
  else none)
  else (
  some ((), ((d.2.1.1, ()), ()))))
  else none)
  else (
  some ((), ((d.2.1.1, ()), ())))
def f_ref01_cut_t : Nat → TT_ref01_cut
  | 0 => (fun _ => none, ())
  | k + 1 => (f_ref01_cut_p2 (f_ref01_cut_t k), ())
theorem t_ref01_cut (k : Nat) : f_ref01_cut_t (k + 1) = (f_ref01_cut_p2 (f_ref01_cut_t k), ()) := rfl
def f_ref01_cut_m (T : TT_ref01_cut) (d : Unit × (((List Int) × Unit) × Unit)) : Option (Unit × (((List Int) × Unit) × Unit)) :=
  (T.1 ((), ((d.2.1.1, ()), ())))
def c_ref01_cut : List Nat := []
def L_ref01_cut (k : Nat) : Pts po_ref01_cut.den := [(2, ⟨sh_ref01_cut_2, (f_ref01_cut_t k).1⟩)]
def R_ref01_cut (_ : Nat) : PtsR po_ref01_cut.den := []
def E_ref01_cut : Env := E0
theorem q_ref01_cut_2 (k : Nat) (d : Unit × (((List Int) × Unit) × Unit)) : evAt E_ref01_cut (tb (L_ref01_cut k) (R_ref01_cut k)) c_ref01_cut 2 (bodyOf Try.f118) 0 (finK E_ref01_cut po_ref01_cut [.tmp 2]) (ptSt sh_ref01_cut_2 d) = f_ref01_cut_p2 (f_ref01_cut_t k) d := by kernel_rfl
theorem q_ref01_cut_m (k : Nat) (d : Unit × (((List Int) × Unit) × Unit)) : evCode E_ref01_cut (tb (L_ref01_cut k) (R_ref01_cut k)) c_ref01_cut (bodyOf Try.f118) 0 (finK E_ref01_cut po_ref01_cut [.tmp 2]) (startSt pi_ref01_cut 21 d) = f_ref01_cut_m (f_ref01_cut_t k) d := by kernel_rfl
theorem go_ref01_cut (F : Unit × (((List Int) × Unit) × Unit) → Option (Unit × (((List Int) × Unit) × Unit))) (hF : ∀ d out, F d = some out → ∃ k, f_ref01_cut_m (f_ref01_cut_t k) d = some out) : FnOk Try.prog ET0 118 pi_ref01_cut po_ref01_cut F :=
  fn_of_body (E := E_ref01_cut) e0_ok (fn := Try.f118) Try.func118 (by kernel_rfl) (by kernel_rfl) [.tmp 2] (by kernel_rfl) (by kernel_rfl) (by decide) rfl c_ref01_cut L_ref01_cut R_ref01_cut
    (by intro x hx d; simp only [L_ref01_cut, List.mem_cons, List.not_mem_nil, or_false] at hx; subst hx; rfl)
    (by intro k x hx d out h; simp only [L_ref01_cut, List.mem_cons, List.not_mem_nil, or_false] at hx; subst hx; exact (q_ref01_cut_2 k d).trans h)
    (by intro x hx; cases hx)
    (by intro k x hx; cases hx)
    (by intro d out h; obtain ⟨k, hk⟩ := hF d out h; exact ⟨k, (q_ref01_cut_m k d).trans hk⟩)
def g_ref01_cut (d : Unit × (((List Int) × Unit) × Unit)) : Option (Unit × (((List Int) × Unit) × Unit)) := lim fun k => f_ref01_cut_m (f_ref01_cut_t k) d
theorem ok_ref01_cut : FnOk Try.prog ET0 118 pi_ref01_cut po_ref01_cut g_ref01_cut := go_ref01_cut g_ref01_cut fun d out h => lim_some h

/- horologe/horologeref01.minus -/
@[reducible] def pi_ref01_minus : PSh := ⟨[], [.mk false [.v (.sl (.int .u64))], .mk false [.v (.sl (.int .u64))]]⟩
@[reducible] def po_ref01_minus : PSh := ⟨[], [.mk false [.v (.sl (.int .u64))]]⟩
@[reducible] def TT_ref01_minus : Type := (((((List Int) × Unit) × (((List Int) × Unit) × (((List Int) × Unit) × (Unit × ((Int × Unit) × ((Int × Unit) × Unit)))))) → Option (Unit × (((List Int) × Unit) × Unit))) × Unit)
@[reducible] def sh_ref01_minus_5 : PSh := ⟨[.row 52 (.int .u64)], [.mk false [.v (.sl (.int .u64))], .mk false [.v (.sl (.int .u64))], .any, .any, .any, .mk false [.osl 0], .mk false [.v (.int .u64)], .mk false [.v (.int .i64)], .any, .any, .any, .any, .any, .any, .any, .any, .any, .any, .any, .any, .any, .any, .any, .any, .any, .any, .any, .any, .any, .any, .any, .any, .any, .any, .any]⟩
def f_ref01_minus_p5 (T : TT_ref01_minus) (d : ((List Int) × Unit) × (((List Int) × Unit) × (((List Int) × Unit) × (Unit × ((Int × Unit) × ((Int × Unit) × Unit)))))) : Option (Unit × (((List Int) × Unit) × Unit)) :=
  let x1 : Int := (d.2.1.1.length : Int)
  let x2 : Bool := (decide (d.2.2.2.2.2.1.1 < x1))
  bif x2 then (
  (g_ref01_digit ((), ((d.2.1.1, ()), ((d.2.2.2.2.2.1.1, ()), ())))).bind fun x3 =>
  let x4 : Int := (iadd .u64 (65536 : Int) x3.2.1.1)
  (g_ref01_digit ((), ((d.2.2.1.1, ()), ((d.2.2.2.2.2.1.1, ()), ())))).bind fun x5 =>
  let x6 : Int := (isub .u64 x4 x5.2.1.1)
  let x7 : Int := (isub .u64 x6 d.2.2.2.2.1.1)
  let x8 : Int := (Int.tmod x7 (65536 : Int))
  let x9 : (List Int) := ([x8] : List Int)
  bif decide (((d.1.1.length + x9.length) * 8 : Nat) ≤ 140737488355328) && decide (d.1.1.length + x9.length ≤ 9223372036854775807) then (
  let x10 : (List Int) := (d.1.1 ++ x9)
  let x11 : Int := (iquo .u64 x7 (65536 : Int))
  let x12 : Int := (isub .u64 (1 : Int) x11)
  let x13 : Int := (iadd .i64 d.2.2.2.2.2.1.1 (1 : Int))
  (T.1 ((x10, ()), ((d.2.1.1, ()), ((d.2.2.1.1, ()), ((), ((x12, ()), ((x13, ()), ()))))))))
  else none)
  else (
  (g_ref01_cut ((), ((d.1.1, ()), ()))).bind fun x14 =>
  some ((), ((x14.2.1.1, ()), ())))
def f_ref01_minus_t : Nat → TT_ref01_minus
  | 0 => (fun _ => none, ())
  | k + 1 => (f_ref01_minus_p5 (f_ref01_minus_t k), ())
theorem t_ref01_minus (k : Nat) : f_ref01_minus_t (k + 1) = (f_ref01_minus_p5 (f_ref01_minus_t k), ()) := rfl
def f_ref01_minus_m (T : TT_ref01_minus) (d : Unit × (((List Int) × Unit) × (((List Int) × Unit) × Unit))) : Option (Unit × (((List Int) × Unit) × Unit)) :=
  (T.1 ((([] : List Int), ()), ((d.2.1.1, ()), ((d.2.2.1.1, ()), ((), (((0 : Int), ()), (((0 : Int), ()), ())))))))
def c_ref01_minus : List Nat := []
def L_ref01_minus (k : Nat) : Pts po_ref01_minus.den := [(5, ⟨sh_ref01_minus_5, (f_ref01_minus_t k).1⟩)]
def R_ref01_minus (_ : Nat) : PtsR po_ref01_minus.den := []
def E_ref01_minus : Env := (((E0.add 117 (typedSem pi_ref01_digit po_ref01_digit g_ref01_digit)).add 118 (typedSem pi_ref01_cut po_ref01_cut g_ref01_cut)).fr [(34, [33])])
theorem q_ref01_minus_5 (k : Nat) (d : ((List Int) × Unit) × (((List Int) × Unit) × (((List Int) × Unit) × (Unit × ((Int × Unit) × ((Int × Unit) × Unit)))))) : evAt E_ref01_minus (tb (L_ref01_minus k) (R_ref01_minus k)) c_ref01_minus 5 (bodyOf Try.f107) 0 (finK E_ref01_minus po_ref01_minus [.tmp 4]) (ptSt sh_ref01_minus_5 d) = f_ref01_minus_p5 (f_ref01_minus_t k) d := by kernel_rfl
theorem q_ref01_minus_m (k : Nat) (d : Unit × (((List Int) × Unit) × (((List Int) × Unit) × Unit))) : evCode E_ref01_minus (tb (L_ref01_minus k) (R_ref01_minus k)) c_ref01_minus (bodyOf Try.f107) 0 (finK E_ref01_minus po_ref01_minus [.tmp 4]) (startSt pi_ref01_minus 35 d) = f_ref01_minus_m (f_ref01_minus_t k) d := by kernel_rfl
theorem go_ref01_minus (F : Unit × (((List Int) × Unit) × (((List Int) × Unit) × Unit)) → Option (Unit × (((List Int) × Unit) × Unit))) (hF : ∀ d out, F d = some out → ∃ k, f_ref01_minus_m (f_ref01_minus_t k) d = some out) : FnOk Try.prog ET0 107 pi_ref01_minus po_ref01_minus F :=
  fn_of_body (E := E_ref01_minus) (envOk_fr (envOk_add (envOk_add e0_ok (typed_ok ok_ref01_digit)) (typed_ok ok_ref01_cut))) (fn := Try.f107) Try.func107 (by kernel_rfl) (by kernel_rfl) [.tmp 4] (by kernel_rfl) (by kernel_rfl) (by decide) rfl c_ref01_minus L_ref01_minus R_ref01_minus
    (by intro x hx d; simp only [L_ref01_minus, List.mem_cons, List.not_mem_nil, or_false] at hx; subst hx; rfl)
    (by intro k x hx d out h; simp only [L_ref01_minus, List.mem_cons, List.not_mem_nil, or_false] at hx; subst hx; exact (q_ref01_minus_5 k d).trans h)
    (by intro x hx; cases hx)
    (by intro k x hx; cases hx)
    (by intro d out h; obtain ⟨k, hk⟩ := hF d out h; exact ⟨k, (q_ref01_minus_m k d).trans hk⟩)
def g_ref01_minus (d : Unit × (((List Int) × Unit) × (((List Int) × Unit) × Unit))) : Option (Unit × (((List Int) × Unit) × Unit)) := lim fun k => f_ref01_minus_m (f_ref01_minus_t k) d
theorem ok_ref01_minus : FnOk Try.prog ET0 107 pi_ref01_minus po_ref01_minus g_ref01_minus := go_ref01_minus g_ref01_minus fun d out h => lim_some h

/- horologe/horologeref01.Plus -/
@[reducible] def pi_ref01_Plus : PSh := ⟨[], [.mk true [.v .bool, .v (.sl (.int .u64))], .mk true [.v .bool, .v (.sl (.int .u64))]]⟩
@[reducible] def po_ref01_Plus : PSh := ⟨[], [.mk true [.v .bool, .v (.sl (.int .u64))]]⟩
def f_ref01_Plus_m (T : Unit) (d : Unit × ((Bool × ((List Int) × Unit)) × ((Bool × ((List Int) × Unit)) × Unit))) : Option (Unit × ((Bool × ((List Int) × Unit)) × Unit)) :=
  let x1 : Bool := (d.2.1.1 == d.2.2.1.1)
  bif x1 then (
  (g_ref01_plus ((), ((d.2.1.2.1, ()), ((d.2.2.1.2.1, ()), ())))).bind fun x2 =>
  some ((), ((d.2.1.1, (x2.1.1, ())), ())))
  else (
  (g_ref01_less ((), ((d.2.1.2.1, ()), ((d.2.2.1.2.1, ()), ())))).bind fun x3 =>
  bif x3.2.1.1 then (
  (g_ref01_minus ((), ((d.2.2.1.2.1, ()), ((d.2.1.2.1, ()), ())))).bind fun x4 =>
  some ((), ((d.2.2.1.1, (x4.2.1.1, ())), ())))
  else (
  (g_ref01_minus ((), ((d.2.1.2.1, ()), ((d.2.2.1.2.1, ()), ())))).bind fun x5 =>
  bif d.2.1.1 then (
  let x6 : Int := (x5.2.1.1.length : Int)
  let x7 : Bool := (decide (x6 > (0 : Int)))
  some ((), ((x7, (x5.2.1.1, ())), ())))
  else (
  some ((), ((false, (x5.2.1.1, ())), ())))))
def c_ref01_Plus : List Nat := []
def L_ref01_Plus (_ : Nat) : Pts po_ref01_Plus.den := []
def R_ref01_Plus (_ : Nat) : PtsR po_ref01_Plus.den := []
def E_ref01_Plus : Env := (((E0.add 105 (typedSem pi_ref01_plus po_ref01_plus g_ref01_plus)).add 106 (typedSem pi_ref01_less po_ref01_less g_ref01_less)).add 107 (typedSem pi_ref01_minus po_ref01_minus g_ref01_minus))
theorem q_ref01_Plus_m (k : Nat) (d : Unit × ((Bool × ((List Int) × Unit)) × ((Bool × ((List Int) × Unit)) × Unit))) : evCode E_ref01_Plus (tb (L_ref01_Plus k) (R_ref01_Plus k)) c_ref01_Plus (bodyOf Try.f74) 0 (finK E_ref01_Plus po_ref01_Plus [.cell 4 118]) (startSt pi_ref01_Plus 46 d) = f_ref01_Plus_m () d := by kernel_rfl
def g_ref01_Plus (d : Unit × ((Bool × ((List Int) × Unit)) × ((Bool × ((List Int) × Unit)) × Unit))) : Option (Unit × ((Bool × ((List Int) × Unit)) × Unit)) := f_ref01_Plus_m () d
theorem ok_ref01_Plus : FnOk Try.prog ET0 74 pi_ref01_Plus po_ref01_Plus g_ref01_Plus :=
  fn_of_body (E := E_ref01_Plus) (envOk_add (envOk_add (envOk_add e0_ok (typed_ok ok_ref01_plus)) (typed_ok ok_ref01_less)) (typed_ok ok_ref01_minus)) (fn := Try.f74) Try.func74 (by kernel_rfl) (by kernel_rfl) [.cell 4 118] (by kernel_rfl) (by kernel_rfl) (by decide) rfl c_ref01_Plus L_ref01_Plus R_ref01_Plus
    (by intro x hx; cases hx) (by intro k x hx; cases hx) (by intro x hx; cases hx) (by intro k x hx; cases hx) (fun d out h => ⟨0, (q_ref01_Plus_m 0 d).trans h⟩)

/- horologe/horologeref05.Leap -/
@[reducible] def pi_ref05_Leap : PSh := ⟨[], [.mk false [.v (.int .i64)]]⟩
@[reducible] def po_ref05_Leap : PSh := ⟨[], [.mk false [.v .bool]]⟩
def f_ref05_Leap_m (T : Unit) (d : Unit × ((Int × Unit) × Unit)) : Option (Unit × ((Bool × Unit) × Unit)) :=
  let x1 : Int := (Int.tmod d.2.1.1 (400 : Int))
  let x2 : Bool := (x1 == (0 : Int))
  bif x2 then (
  some ((), ((true, ()), ())))
  else (
  let x3 : Int := (Int.tmod d.2.1.1 (4 : Int))
  let x4 : Bool := (x3 == (0 : Int))
  bif x4 then (
  let x5 : Int := (Int.tmod d.2.1.1 (100 : Int))
  let x6 : Bool := (x5 != (0 : Int))
  some ((), ((x6, ()), ())))
  else (
  some ((), ((false, ()), ()))))
def c_ref05_Leap : List Nat := []
def L_ref05_Leap (_ : Nat) : Pts po_ref05_Leap.den := []
def R_ref05_Leap (_ : Nat) : PtsR po_ref05_Leap.den := []
def E_ref05_Leap : Env := E0
theorem q_ref05_Leap_m (k : Nat) (d : Unit × ((Int × Unit) × Unit)) : evCode E_ref05_Leap (tb (L_ref05_Leap k) (R_ref05_Leap k)) c_ref05_Leap (bodyOf Try.f89) 0 (finK E_ref05_Leap po_ref05_Leap [.tmp 2]) (startSt pi_ref05_Leap 14 d) = f_ref05_Leap_m () d := by kernel_rfl
def g_ref05_Leap (d : Unit × ((Int × Unit) × Unit)) : Option (Unit × ((Bool × Unit) × Unit)) := f_ref05_Leap_m () d
theorem ok_ref05_Leap : FnOk Try.prog ET0 89 pi_ref05_Leap po_ref05_Leap g_ref05_Leap :=
  fn_of_body (E := E_ref05_Leap) e0_ok (fn := Try.f89) Try.func89 (by kernel_rfl) (by kernel_rfl) [.tmp 2] (by kernel_rfl) (by kernel_rfl) (by decide) rfl c_ref05_Leap L_ref05_Leap R_ref05_Leap
    (by intro x hx; cases hx) (by intro k x hx; cases hx) (by intro x hx; cases hx) (by intro k x hx; cases hx) (fun d out h => ⟨0, (q_ref05_Leap_m 0 d).trans h⟩)

/- horologe/horologeref05.Days -/
@[reducible] def pi_ref05_Days : PSh := ⟨[], [.mk false [.v (.int .i64)]]⟩
@[reducible] def po_ref05_Days : PSh := ⟨[], [.mk false [.v (.int .i64)]]⟩
def f_ref05_Days_m (T : Unit) (d : Unit × ((Int × Unit) × Unit)) : Option (Unit × ((Int × Unit) × Unit)) :=
  (g_ref05_Leap ((), ((d.2.1.1, ()), ()))).bind fun x1 =>
  bif x1.2.1.1 then (
  some ((), (((366 : Int), ()), ())))
  else (
  some ((), (((365 : Int), ()), ())))
def c_ref05_Days : List Nat := []
def L_ref05_Days (_ : Nat) : Pts po_ref05_Days.den := []
def R_ref05_Days (_ : Nat) : PtsR po_ref05_Days.den := []
def E_ref05_Days : Env := (E0.add 89 (typedSem pi_ref05_Leap po_ref05_Leap g_ref05_Leap))
theorem q_ref05_Days_m (k : Nat) (d : Unit × ((Int × Unit) × Unit)) : evCode E_ref05_Days (tb (L_ref05_Days k) (R_ref05_Days k)) c_ref05_Days (bodyOf Try.f59) 0 (finK E_ref05_Days po_ref05_Days [.tmp 2]) (startSt pi_ref05_Days 5 d) = f_ref05_Days_m () d := by kernel_rfl
def g_ref05_Days (d : Unit × ((Int × Unit) × Unit)) : Option (Unit × ((Int × Unit) × Unit)) := f_ref05_Days_m () d
theorem ok_ref05_Days : FnOk Try.prog ET0 59 pi_ref05_Days po_ref05_Days g_ref05_Days :=
  fn_of_body (E := E_ref05_Days) (envOk_add e0_ok (typed_ok ok_ref05_Leap)) (fn := Try.f59) Try.func59 (by kernel_rfl) (by kernel_rfl) [.tmp 2] (by kernel_rfl) (by kernel_rfl) (by decide) rfl c_ref05_Days L_ref05_Days R_ref05_Days
    (by intro x hx; cases hx) (by intro k x hx; cases hx) (by intro x hx; cases hx) (by intro k x hx; cases hx) (fun d out h => ⟨0, (q_ref05_Days_m 0 d).trans h⟩)

/- horologe/horologeref05.Start -/
@[reducible] def pi_ref05_Start : PSh := ⟨[], [.mk false [.v (.int .i64)]]⟩
@[reducible] def po_ref05_Start : PSh := ⟨[], [.mk false [.v (.int .i64)]]⟩
@[reducible] def TT_ref05_Start : Type := (((Unit × ((Int × Unit) × ((Int × Unit) × Unit))) → Option (Unit × ((Int × Unit) × Unit))) × (((Unit × ((Int × Unit) × ((Int × Unit) × Unit))) → Option (Unit × ((Int × Unit) × Unit))) × (((Unit × ((Int × Unit) × ((Int × Unit) × ((Int × Unit) × Unit)))) → Option (Unit × ((Int × Unit) × Unit))) × Unit)))
@[reducible] def sh_ref05_Start_3 : PSh := ⟨[], [.mk false [.v (.int .i64)], .any, .any, .mk false [.v (.int .i64)], .any, .any, .any, .any, .any, .any, .any, .any, .any, .any, .any, .any, .any, .any, .any, .any, .any, .any, .any, .any, .any, .any, .any]⟩
@[reducible] def sh_ref05_Start_8 : PSh := ⟨[], [.mk false [.v (.int .i64)], .any, .any, .mk false [.v (.int .i64)], .any, .any, .any, .any, .any, .any, .any, .any, .any, .any, .any, .any, .any, .any, .any, .any, .any, .any, .any, .any, .any, .any, .any]⟩
@[reducible] def sh_ref05_Start_14 : PSh := ⟨[], [.mk false [.v (.int .i64)], .any, .any, .mk false [.v (.int .i64)], .mk false [.v (.int .i64)], .any, .any, .any, .any, .any, .any, .any, .any, .any, .any, .any, .any, .any, .any, .any, .any, .any, .any, .any, .any, .any, .any]⟩
def f_ref05_Start_p3 (T : TT_ref05_Start) (d : Unit × ((Int × Unit) × ((Int × Unit) × Unit))) : Option (Unit × ((Int × Unit) × Unit)) :=
  let x1 : Bool := (decide (d.2.1.1 < (1970 : Int)))
  bif x1 then (
  let x2 : Int := (iadd .i64 d.2.1.1 (400 : Int))
  let x3 : Int := (isub .i64 d.2.2.1.1 (146097 : Int))
  (T.1 ((), ((x2, ()), ((x3, ()), ())))))
  else (
  (T.2.1 ((), ((d.2.1.1, ()), ((d.2.2.1.1, ()), ())))))
def f_ref05_Start_p8 (T : TT_ref05_Start) (d : Unit × ((Int × Unit) × ((Int × Unit) × Unit))) : Option (Unit × ((Int × Unit) × Unit)) :=
  let x4 : Bool := (decide (d.2.1.1 ≥ (2370 : Int)))
  bif x4 then (
  let x5 : Int := (isub .i64 d.2.1.1 (400 : Int))
  let x6 : Int := (iadd .i64 d.2.2.1.1 (146097 : Int))
  (T.2.1 ((), ((x5, ()), ((x6, ()), ())))))
  else (
  (T.2.2.1 ((), ((d.2.1.1, ()), ((d.2.2.1.1, ()), (((1970 : Int), ()), ()))))))
def f_ref05_Start_p14 (T : TT_ref05_Start) (d : Unit × ((Int × Unit) × ((Int × Unit) × ((Int × Unit) × Unit)))) : Option (Unit × ((Int × Unit) × Unit)) :=
  let x7 : Bool := (decide (d.2.2.2.1.1 < d.2.1.1))
  bif x7 then (
  (g_ref05_Days ((), ((d.2.2.2.1.1, ()), ()))).bind fun x8 =>
  let x9 : Int := (iadd .i64 d.2.2.1.1 x8.2.1.1)
  let x10 : Int := (iadd .i64 d.2.2.2.1.1 (1 : Int))
  (T.2.2.1 ((), ((d.2.1.1, ()), ((x9, ()), ((x10, ()), ()))))))
  else (
  some ((), ((d.2.2.1.1, ()), ())))
def f_ref05_Start_t : Nat → TT_ref05_Start
  | 0 => (fun _ => none, (fun _ => none, (fun _ => none, ())))
  | k + 1 => (f_ref05_Start_p3 (f_ref05_Start_t k), (f_ref05_Start_p8 (f_ref05_Start_t k), (f_ref05_Start_p14 (f_ref05_Start_t k), ())))
theorem t_ref05_Start (k : Nat) : f_ref05_Start_t (k + 1) = (f_ref05_Start_p3 (f_ref05_Start_t k), (f_ref05_Start_p8 (f_ref05_Start_t k), (f_ref05_Start_p14 (f_ref05_Start_t k), ()))) := rfl
def f_ref05_Start_m (T : TT_ref05_Start) (d : Unit × ((Int × Unit) × Unit)) : Option (Unit × ((Int × Unit) × Unit)) :=
  (T.1 ((), ((d.2.1.1, ()), (((0 : Int), ()), ()))))
def c_ref05_Start : List Nat := []
def L_ref05_Start (k : Nat) : Pts po_ref05_Start.den := [(3, ⟨sh_ref05_Start_3, (f_ref05_Start_t k).1⟩), (8, ⟨sh_ref05_Start_8, (f_ref05_Start_t k).2.1⟩), (14, ⟨sh_ref05_Start_14, (f_ref05_Start_t k).2.2.1⟩)]
def R_ref05_Start (_ : Nat) : PtsR po_ref05_Start.den := []
def E_ref05_Start : Env := (E0.add 59 (typedSem pi_ref05_Days po_ref05_Days g_ref05_Days))
theorem q_ref05_Start_3 (k : Nat) (d : Unit × ((Int × Unit) × ((Int × Unit) × Unit))) : evAt E_ref05_Start (tb (L_ref05_Start k) (R_ref05_Start k)) c_ref05_Start 3 (bodyOf Try.f35) 0 (finK E_ref05_Start po_ref05_Start [.tmp 2]) (ptSt sh_ref05_Start_3 d) = f_ref05_Start_p3 (f_ref05_Start_t k) d := by kernel_rfl
theorem q_ref05_Start_8 (k : Nat) (d : Unit × ((Int × Unit) × ((Int × Unit) × Unit))) : evAt E_ref05_Start (tb (L_ref05_Start k) (R_ref05_Start k)) c_ref05_Start 8 (bodyOf Try.f35) 0 (finK E_ref05_Start po_ref05_Start [.tmp 2]) (ptSt sh_ref05_Start_8 d) = f_ref05_Start_p8 (f_ref05_Start_t k) d := by kernel_rfl
theorem q_ref05_Start_14 (k : Nat) (d : Unit × ((Int × Unit) × ((Int × Unit) × ((Int × Unit) × Unit)))) : evAt E_ref05_Start (tb (L_ref05_Start k) (R_ref05_Start k)) c_ref05_Start 14 (bodyOf Try.f35) 0 (finK E_ref05_Start po_ref05_Start [.tmp 2]) (ptSt sh_ref05_Start_14 d) = f_ref05_Start_p14 (f_ref05_Start_t k) d := by kernel_rfl
theorem q_ref05_Start_m (k : Nat) (d : Unit × ((Int × Unit) × Unit)) : evCode E_ref05_Start (tb (L_ref05_Start k) (R_ref05_Start k)) c_ref05_Start (bodyOf Try.f35) 0 (finK E_ref05_Start po_ref05_Start [.tmp 2]) (startSt pi_ref05_Start 27 d) = f_ref05_Start_m (f_ref05_Start_t k) d := by kernel_rfl
theorem go_ref05_Start (F : Unit × ((Int × Unit) × Unit) → Option (Unit × ((Int × Unit) × Unit))) (hF : ∀ d out, F d = some out → ∃ k, f_ref05_Start_m (f_ref05_Start_t k) d = some out) : FnOk Try.prog ET0 35 pi_ref05_Start po_ref05_Start F :=
  fn_of_body (E := E_ref05_Start) (envOk_add e0_ok (typed_ok ok_ref05_Days)) (fn := Try.f35) Try.func35 (by kernel_rfl) (by kernel_rfl) [.tmp 2] (by kernel_rfl) (by kernel_rfl) (by decide) rfl c_ref05_Start L_ref05_Start R_ref05_Start
    (by intro x hx d; simp only [L_ref05_Start, List.mem_cons, List.not_mem_nil, or_false] at hx; rcases hx with rfl | rfl | rfl; rfl; rfl; rfl)
    (by intro k x hx d out h; simp only [L_ref05_Start, List.mem_cons, List.not_mem_nil, or_false] at hx; rcases hx with rfl | rfl | rfl; exact (q_ref05_Start_3 k d).trans h; exact (q_ref05_Start_8 k d).trans h; exact (q_ref05_Start_14 k d).trans h)
    (by intro x hx; cases hx)
    (by intro k x hx; cases hx)
    (by intro d out h; obtain ⟨k, hk⟩ := hF d out h; exact ⟨k, (q_ref05_Start_m k d).trans hk⟩)
def g_ref05_Start (d : Unit × ((Int × Unit) × Unit)) : Option (Unit × ((Int × Unit) × Unit)) := lim fun k => f_ref05_Start_m (f_ref05_Start_t k) d
theorem ok_ref05_Start : FnOk Try.prog ET0 35 pi_ref05_Start po_ref05_Start g_ref05_Start := go_ref05_Start g_ref05_Start fun d out h => lim_some h

/- horologe/horologeref05.Month -/
@[reducible] def pi_ref05_Month : PSh := ⟨[], [.mk false [.v (.int .i64)], .mk false [.v (.int .i64)]]⟩
@[reducible] def po_ref05_Month : PSh := ⟨[], [.mk false [.v (.int .i64)]]⟩
def f_ref05_Month_m (T : Unit) (d : Unit × ((Int × Unit) × ((Int × Unit) × Unit))) : Option (Unit × ((Int × Unit) × Unit)) :=
  let x1 : (List Int) := ([(31 : Int), (28 : Int), (31 : Int), (30 : Int), (31 : Int), (30 : Int), (31 : Int), (31 : Int), (30 : Int), (31 : Int), (30 : Int), (31 : Int)] : List Int)
  let x2 : Bool := (d.2.2.1.1 == (2 : Int))
  bif x2 then (
  (g_ref05_Leap ((), ((d.2.1.1, ()), ()))).bind fun x3 =>
  bif x3.2.1.1 then (
  some ((), (((29 : Int), ()), ())))
  else (
  let x4 : Int := (isub .i64 d.2.2.1.1 (1 : Int))
  bif decide ((0 : Int) ≤ x4) && decide (x4 < (x1.length : Int)) then (
  some ((), (((gd (.int .i64) x1 x4), ()), ())))
  else none))
  else (
  let x5 : Int := (isub .i64 d.2.2.1.1 (1 : Int))
  bif decide ((0 : Int) ≤ x5) && decide (x5 < (x1.length : Int)) then (
  some ((), (((gd (.int .i64) x1 x5), ()), ())))
  else none)
def c_ref05_Month : List Nat := []
def L_ref05_Month (_ : Nat) : Pts po_ref05_Month.den := []
def R_ref05_Month (_ : Nat) : PtsR po_ref05_Month.den := []
def E_ref05_Month : Env := (E0.add 89 (typedSem pi_ref05_Leap po_ref05_Leap g_ref05_Leap))
theorem q_ref05_Month_m (k : Nat) (d : Unit × ((Int × Unit) × ((Int × Unit) × Unit))) : evCode E_ref05_Month (tb (L_ref05_Month k) (R_ref05_Month k)) c_ref05_Month (bodyOf Try.f60) 0 (finK E_ref05_Month po_ref05_Month [.tmp 4]) (startSt pi_ref05_Month 18 d) = f_ref05_Month_m () d := by kernel_rfl
def g_ref05_Month (d : Unit × ((Int × Unit) × ((Int × Unit) × Unit))) : Option (Unit × ((Int × Unit) × Unit)) := f_ref05_Month_m () d
theorem ok_ref05_Month : FnOk Try.prog ET0 60 pi_ref05_Month po_ref05_Month g_ref05_Month :=
  fn_of_body (E := E_ref05_Month) (envOk_add e0_ok (typed_ok ok_ref05_Leap)) (fn := Try.f60) Try.func60 (by kernel_rfl) (by kernel_rfl) [.tmp 4] (by kernel_rfl) (by kernel_rfl) (by decide) rfl c_ref05_Month L_ref05_Month R_ref05_Month
    (by intro x hx; cases hx) (by intro k x hx; cases hx) (by intro x hx; cases hx) (by intro k x hx; cases hx) (fun d out h => ⟨0, (q_ref05_Month_m 0 d).trans h⟩)

/- horologe/horologeref05.Of -/
@[reducible] def pi_ref05_Of : PSh := ⟨[], [.mk false [.v (.int .i64)], .mk false [.v (.int .i64)], .mk false [.v (.int .i64)]]⟩
@[reducible] def po_ref05_Of : PSh := ⟨[], [.mk false [.v (.int .i64)]]⟩
@[reducible] def TT_ref05_Of : Type := (((Unit × ((Int × Unit) × ((Int × Unit) × ((Int × Unit) × ((Int × Unit) × Unit))))) → Option (Unit × ((Int × Unit) × Unit))) × Unit)
@[reducible] def sh_ref05_Of_4 : PSh := ⟨[], [.mk false [.v (.int .i64)], .mk false [.v (.int .i64)], .any, .any, .any, .any, .any, .mk false [.v (.int .i64)], .mk false [.v (.int .i64)], .any, .any, .any, .any, .any, .any, .any, .any, .any, .any, .any, .any, .any, .any, .any, .any]⟩
def f_ref05_Of_p4 (T : TT_ref05_Of) (d : Unit × ((Int × Unit) × ((Int × Unit) × ((Int × Unit) × ((Int × Unit) × Unit))))) : Option (Unit × ((Int × Unit) × Unit)) :=
  let x4 : Bool := (decide (d.2.2.2.2.1.1 < d.2.2.1.1))
  bif x4 then (
  (g_ref05_Month ((), ((d.2.1.1, ()), ((d.2.2.2.2.1.1, ()), ())))).bind fun x5 =>
  let x6 : Int := (iadd .i64 d.2.2.2.1.1 x5.2.1.1)
  let x7 : Int := (iadd .i64 d.2.2.2.2.1.1 (1 : Int))
  (T.1 ((), ((d.2.1.1, ()), ((d.2.2.1.1, ()), ((x6, ()), ((x7, ()), ())))))))
  else (
  some ((), ((d.2.2.2.1.1, ()), ())))
def f_ref05_Of_t : Nat → TT_ref05_Of
  | 0 => (fun _ => none, ())
  | k + 1 => (f_ref05_Of_p4 (f_ref05_Of_t k), ())
theorem t_ref05_Of (k : Nat) : f_ref05_Of_t (k + 1) = (f_ref05_Of_p4 (f_ref05_Of_t k), ()) := rfl
def f_ref05_Of_m (T : TT_ref05_Of) (d : Unit × ((Int × Unit) × ((Int × Unit) × ((Int × Unit) × Unit)))) : Option (Unit × ((Int × Unit) × Unit)) :=
  (g_ref05_Start ((), ((d.2.1.1, ()), ()))).bind fun x1 =>
  let x2 : Int := (iadd .i64 x1.2.1.1 d.2.2.2.1.1)
  let x3 : Int := (isub .i64 x2 (1 : Int))
  (T.1 ((), ((d.2.1.1, ()), ((d.2.2.1.1, ()), ((x3, ()), (((1 : Int), ()), ()))))))
def c_ref05_Of : List Nat := []
def L_ref05_Of (k : Nat) : Pts po_ref05_Of.den := [(4, ⟨sh_ref05_Of_4, (f_ref05_Of_t k).1⟩)]
def R_ref05_Of (_ : Nat) : PtsR po_ref05_Of.den := []
def E_ref05_Of : Env := ((E0.add 35 (typedSem pi_ref05_Start po_ref05_Start g_ref05_Start)).add 60 (typedSem pi_ref05_Month po_ref05_Month g_ref05_Month))
theorem q_ref05_Of_4 (k : Nat) (d : Unit × ((Int × Unit) × ((Int × Unit) × ((Int × Unit) × ((Int × Unit) × Unit))))) : evAt E_ref05_Of (tb (L_ref05_Of k) (R_ref05_Of k)) c_ref05_Of 4 (bodyOf Try.f108) 0 (finK E_ref05_Of po_ref05_Of [.tmp 6]) (ptSt sh_ref05_Of_4 d) = f_ref05_Of_p4 (f_ref05_Of_t k) d := by kernel_rfl
theorem q_ref05_Of_m (k : Nat) (d : Unit × ((Int × Unit) × ((Int × Unit) × ((Int × Unit) × Unit)))) : evCode E_ref05_Of (tb (L_ref05_Of k) (R_ref05_Of k)) c_ref05_Of (bodyOf Try.f108) 0 (finK E_ref05_Of po_ref05_Of [.tmp 6]) (startSt pi_ref05_Of 25 d) = f_ref05_Of_m (f_ref05_Of_t k) d := by kernel_rfl
theorem go_ref05_Of (F : Unit × ((Int × Unit) × ((Int × Unit) × ((Int × Unit) × Unit))) → Option (Unit × ((Int × Unit) × Unit))) (hF : ∀ d out, F d = some out → ∃ k, f_ref05_Of_m (f_ref05_Of_t k) d = some out) : FnOk Try.prog ET0 108 pi_ref05_Of po_ref05_Of F :=
  fn_of_body (E := E_ref05_Of) (envOk_add (envOk_add e0_ok (typed_ok ok_ref05_Start)) (typed_ok ok_ref05_Month)) (fn := Try.f108) Try.func108 (by kernel_rfl) (by kernel_rfl) [.tmp 6] (by kernel_rfl) (by kernel_rfl) (by decide) rfl c_ref05_Of L_ref05_Of R_ref05_Of
    (by intro x hx d; simp only [L_ref05_Of, List.mem_cons, List.not_mem_nil, or_false] at hx; subst hx; rfl)
    (by intro k x hx d out h; simp only [L_ref05_Of, List.mem_cons, List.not_mem_nil, or_false] at hx; subst hx; exact (q_ref05_Of_4 k d).trans h)
    (by intro x hx; cases hx)
    (by intro k x hx; cases hx)
    (by intro d out h; obtain ⟨k, hk⟩ := hF d out h; exact ⟨k, (q_ref05_Of_m k d).trans hk⟩)
def g_ref05_Of (d : Unit × ((Int × Unit) × ((Int × Unit) × ((Int × Unit) × Unit)))) : Option (Unit × ((Int × Unit) × Unit)) := lim fun k => f_ref05_Of_m (f_ref05_Of_t k) d
theorem ok_ref05_Of : FnOk Try.prog ET0 108 pi_ref05_Of po_ref05_Of g_ref05_Of := go_ref05_Of g_ref05_Of fun d out h => lim_some h

/- horologe/horologeref15.Begin -/
@[reducible] def pi_ref15_Begin : PSh := ⟨[], []⟩
@[reducible] def po_ref15_Begin : PSh := ⟨[], [.mk false [.v (.int .i64)]]⟩
def f_ref15_Begin_m (T : Unit) (d : Unit × Unit) : Option (Unit × ((Int × Unit) × Unit)) :=
  (g_ref05_Of ((), (((1900 : Int), ()), (((1 : Int), ()), (((1 : Int), ()), ()))))).bind fun x1 =>
  let x2 : Int := (ineg .i64 x1.2.1.1)
  let x3 : Int := (imul .i64 x2 (86400 : Int))
  some ((), ((x3, ()), ()))
def c_ref15_Begin : List Nat := []
def L_ref15_Begin (_ : Nat) : Pts po_ref15_Begin.den := []
def R_ref15_Begin (_ : Nat) : PtsR po_ref15_Begin.den := []
def E_ref15_Begin : Env := (E0.add 108 (typedSem pi_ref05_Of po_ref05_Of g_ref05_Of))
theorem q_ref15_Begin_m (k : Nat) (d : Unit × Unit) : evCode E_ref15_Begin (tb (L_ref15_Begin k) (R_ref15_Begin k)) c_ref15_Begin (bodyOf Try.f76) 0 (finK E_ref15_Begin po_ref15_Begin [.tmp 0]) (startSt pi_ref15_Begin 4 d) = f_ref15_Begin_m () d := by kernel_rfl
def g_ref15_Begin (d : Unit × Unit) : Option (Unit × ((Int × Unit) × Unit)) := f_ref15_Begin_m () d
theorem ok_ref15_Begin : FnOk Try.prog ET0 76 pi_ref15_Begin po_ref15_Begin g_ref15_Begin :=
  fn_of_body (E := E_ref15_Begin) (envOk_add e0_ok (typed_ok ok_ref05_Of)) (fn := Try.f76) Try.func76 (by kernel_rfl) (by kernel_rfl) [.tmp 0] (by kernel_rfl) (by kernel_rfl) (by decide) rfl c_ref15_Begin L_ref15_Begin R_ref15_Begin
    (by intro x hx; cases hx) (by intro k x hx; cases hx) (by intro x hx; cases hx) (by intro k x hx; cases hx) (fun d out h => ⟨0, (q_ref15_Begin_m 0 d).trans h⟩)

/- horologe/horologeref15.Ahead -/
@[reducible] def pi_ref15_Ahead : PSh := ⟨[], [.mk false [.v (.int .i64)]]⟩
@[reducible] def po_ref15_Ahead : PSh := ⟨[], [.mk false [.v (.int .i64)], .mk false [.v (.int .i64)]]⟩
def f_ref15_Ahead_m (T : Unit) (d : Unit × ((Int × Unit) × Unit)) : Option (Unit × ((Int × Unit) × ((Int × Unit) × Unit))) :=
  (g_ref01_Of ((), ((d.2.1.1, ()), ()))).bind fun x1 =>
  (g_ref15_Begin ((), ())).bind fun x2 =>
  (g_ref01_Of ((), ((x2.2.1.1, ()), ()))).bind fun x3 =>
  (g_ref01_Plus ((), ((x1.2.1.1, (x1.1.1, ())), ((x3.2.1.1, (x3.1.1, ())), ())))).bind fun x4 =>
  (g_ref01_Small ((), ((x4.2.1.1, (x4.2.1.2.1, ())), ()))).bind fun x5 =>
  some ((), ((x5.2.1.1, ()), ((x5.2.2.1.1, ()), ())))
def c_ref15_Ahead : List Nat := []
def L_ref15_Ahead (_ : Nat) : Pts po_ref15_Ahead.den := []
def R_ref15_Ahead (_ : Nat) : PtsR po_ref15_Ahead.den := []
def E_ref15_Ahead : Env := (((((E0.add 73 (typedSem pi_ref01_Small po_ref01_Small g_ref01_Small)).add 74 (typedSem pi_ref01_Plus po_ref01_Plus g_ref01_Plus)).add 75 (typedSem pi_ref01_Of po_ref01_Of g_ref01_Of)).add 76 (typedSem pi_ref15_Begin po_ref15_Begin g_ref15_Begin)).fr [(8, [5, 7])])
theorem q_ref15_Ahead_m (k : Nat) (d : Unit × ((Int × Unit) × Unit)) : evCode E_ref15_Ahead (tb (L_ref15_Ahead k) (R_ref15_Ahead k)) c_ref15_Ahead (bodyOf Try.f50) 0 (finK E_ref15_Ahead po_ref15_Ahead [.tmp 2, .tmp 3]) (startSt pi_ref15_Ahead 12 d) = f_ref15_Ahead_m () d := by kernel_rfl
def g_ref15_Ahead (d : Unit × ((Int × Unit) × Unit)) : Option (Unit × ((Int × Unit) × ((Int × Unit) × Unit))) := f_ref15_Ahead_m () d
theorem ok_ref15_Ahead : FnOk Try.prog ET0 50 pi_ref15_Ahead po_ref15_Ahead g_ref15_Ahead :=
  fn_of_body (E := E_ref15_Ahead) (envOk_fr (envOk_add (envOk_add (envOk_add (envOk_add e0_ok (typed_ok ok_ref01_Small)) (typed_ok ok_ref01_Plus)) (typed_ok ok_ref01_Of)) (typed_ok ok_ref15_Begin))) (fn := Try.f50) Try.func50 (by kernel_rfl) (by kernel_rfl) [.tmp 2, .tmp 3] (by kernel_rfl) (by kernel_rfl) (by decide) rfl c_ref15_Ahead L_ref15_Ahead R_ref15_Ahead
    (by intro x hx; cases hx) (by intro k x hx; cases hx) (by intro x hx; cases hx) (by intro k x hx; cases hx) (fun d out h => ⟨0, (q_ref15_Ahead_m 0 d).trans h⟩)

/- horologe/horologeref01.Minus -/
@[reducible] def pi_ref01_Minus : PSh := ⟨[], [.mk true [.v .bool, .v (.sl (.int .u64))]]⟩
@[reducible] def po_ref01_Minus : PSh := ⟨[], [.mk true [.v .bool, .v (.sl (.int .u64))]]⟩
def f_ref01_Minus_m (T : Unit) (d : Unit × ((Bool × ((List Int) × Unit)) × Unit)) : Option (Unit × ((Bool × ((List Int) × Unit)) × Unit)) :=
  let x1 : Bool := (!d.2.1.1)
  bif x1 then (
  let x2 : Int := (d.2.1.2.1.length : Int)
  let x3 : Bool := (decide (x2 > (0 : Int)))
  some ((), ((x3, (d.2.1.2.1, ())), ())))
  else (
  some ((), ((false, (d.2.1.2.1, ())), ())))
def c_ref01_Minus : List Nat := []
def L_ref01_Minus (_ : Nat) : Pts po_ref01_Minus.den := []
def R_ref01_Minus (_ : Nat) : PtsR po_ref01_Minus.den := []
def E_ref01_Minus : Env := E0
theorem q_ref01_Minus_m (k : Nat) (d : Unit × ((Bool × ((List Int) × Unit)) × Unit)) : evCode E_ref01_Minus (tb (L_ref01_Minus k) (R_ref01_Minus k)) c_ref01_Minus (bodyOf Try.f77) 0 (finK E_ref01_Minus po_ref01_Minus [.cell 2 118]) (startSt pi_ref01_Minus 15 d) = f_ref01_Minus_m () d := by kernel_rfl
def g_ref01_Minus (d : Unit × ((Bool × ((List Int) × Unit)) × Unit)) : Option (Unit × ((Bool × ((List Int) × Unit)) × Unit)) := f_ref01_Minus_m () d
theorem ok_ref01_Minus : FnOk Try.prog ET0 77 pi_ref01_Minus po_ref01_Minus g_ref01_Minus :=
  fn_of_body (E := E_ref01_Minus) e0_ok (fn := Try.f77) Try.func77 (by kernel_rfl) (by kernel_rfl) [.cell 2 118] (by kernel_rfl) (by kernel_rfl) (by decide) rfl c_ref01_Minus L_ref01_Minus R_ref01_Minus
    (by intro x hx; cases hx) (by intro k x hx; cases hx) (by intro x hx; cases hx) (by intro k x hx; cases hx) (fun d out h => ⟨0, (q_ref01_Minus_m 0 d).trans h⟩)

/- horologe/horologeref13.Fold -/
@[reducible] def pi_ref13_Fold : PSh := ⟨[], [.mk false [.v (.int .i64)], .mk false [.v (.int .i64)]]⟩
@[reducible] def po_ref13_Fold : PSh := ⟨[], [.mk false [.v (.int .i64)]]⟩
@[reducible] def TT_ref13_Fold : Type := (((Unit × ((Int × Unit) × ((Int × Unit) × ((Int × Unit) × ((Int × Unit) × Unit))))) → Option (Unit × ((Int × Unit) × Unit))) × Unit)
@[reducible] def sh_ref13_Fold_4 : PSh := ⟨[], [.mk false [.v (.int .i64)], .mk false [.v (.int .i64)], .any, .any, .any, .mk false [.v (.int .i64)], .mk false [.v (.int .i64)], .any, .any, .any, .any, .any, .any, .any, .any, .any, .any, .any, .any, .any, .any, .any, .any, .any]⟩
def f_ref13_Fold_p4 (T : TT_ref13_Fold) (d : Unit × ((Int × Unit) × ((Int × Unit) × ((Int × Unit) × ((Int × Unit) × Unit))))) : Option (Unit × ((Int × Unit) × Unit)) :=
  let x1 : Bool := (decide (d.2.2.2.2.1.1 < d.2.2.1.1))
  bif x1 then (
  let x2 : Int := (imul .i64 d.2.2.2.1.1 (2 : Int))
  let x3 : Int := (iadd .i64 d.2.2.2.2.1.1 (1 : Int))
  (T.1 ((), ((d.2.1.1, ()), ((d.2.2.1.1, ()), ((x2, ()), ((x3, ()), ())))))))
  else (
  bif (d.2.2.2.1.1 == 0) then (
  none)
  else (
  let x4 : Int := (Int.tmod d.2.1.1 d.2.2.2.1.1)
  let x5 : Bool := (decide (x4 < (0 : Int)))
  bif x5 then (
  let x6 : Int := (iadd .i64 x4 d.2.2.2.1.1)
  some ((), ((x6, ()), ())))
  else (
  some ((), ((x4, ()), ())))))
def f_ref13_Fold_t : Nat → TT_ref13_Fold
  | 0 => (fun _ => none, ())
  | k + 1 => (f_ref13_Fold_p4 (f_ref13_Fold_t k), ())
theorem t_ref13_Fold (k : Nat) : f_ref13_Fold_t (k + 1) = (f_ref13_Fold_p4 (f_ref13_Fold_t k), ()) := rfl
def f_ref13_Fold_m (T : TT_ref13_Fold) (d : Unit × ((Int × Unit) × ((Int × Unit) × Unit))) : Option (Unit × ((Int × Unit) × Unit)) :=
  (T.1 ((), ((d.2.1.1, ()), ((d.2.2.1.1, ()), (((1 : Int), ()), (((0 : Int), ()), ()))))))
def c_ref13_Fold : List Nat := []
def L_ref13_Fold (k : Nat) : Pts po_ref13_Fold.den := [(4, ⟨sh_ref13_Fold_4, (f_ref13_Fold_t k).1⟩)]
def R_ref13_Fold (_ : Nat) : PtsR po_ref13_Fold.den := []
def E_ref13_Fold : Env := E0
theorem q_ref13_Fold_4 (k : Nat) (d : Unit × ((Int × Unit) × ((Int × Unit) × ((Int × Unit) × ((Int × Unit) × Unit))))) : evAt E_ref13_Fold (tb (L_ref13_Fold k) (R_ref13_Fold k)) c_ref13_Fold 4 (bodyOf Try.f78) 0 (finK E_ref13_Fold po_ref13_Fold [.tmp 4]) (ptSt sh_ref13_Fold_4 d) = f_ref13_Fold_p4 (f_ref13_Fold_t k) d := by kernel_rfl
theorem q_ref13_Fold_m (k : Nat) (d : Unit × ((Int × Unit) × ((Int × Unit) × Unit))) : evCode E_ref13_Fold (tb (L_ref13_Fold k) (R_ref13_Fold k)) c_ref13_Fold (bodyOf Try.f78) 0 (finK E_ref13_Fold po_ref13_Fold [.tmp 4]) (startSt pi_ref13_Fold 24 d) = f_ref13_Fold_m (f_ref13_Fold_t k) d := by kernel_rfl
theorem go_ref13_Fold (F : Unit × ((Int × Unit) × ((Int × Unit) × Unit)) → Option (Unit × ((Int × Unit) × Unit))) (hF : ∀ d out, F d = some out → ∃ k, f_ref13_Fold_m (f_ref13_Fold_t k) d = some out) : FnOk Try.prog ET0 78 pi_ref13_Fold po_ref13_Fold F :=
  fn_of_body (E := E_ref13_Fold) e0_ok (fn := Try.f78) Try.func78 (by kernel_rfl) (by kernel_rfl) [.tmp 4] (by kernel_rfl) (by kernel_rfl) (by decide) rfl c_ref13_Fold L_ref13_Fold R_ref13_Fold
    (by intro x hx d; simp only [L_ref13_Fold, List.mem_cons, List.not_mem_nil, or_false] at hx; subst hx; rfl)
    (by intro k x hx d out h; simp only [L_ref13_Fold, List.mem_cons, List.not_mem_nil, or_false] at hx; subst hx; exact (q_ref13_Fold_4 k d).trans h)
    (by intro x hx; cases hx)
    (by intro k x hx; cases hx)
    (by intro d out h; obtain ⟨k, hk⟩ := hF d out h; exact ⟨k, (q_ref13_Fold_m k d).trans hk⟩)
def g_ref13_Fold (d : Unit × ((Int × Unit) × ((Int × Unit) × Unit))) : Option (Unit × ((Int × Unit) × Unit)) := lim fun k => f_ref13_Fold_m (f_ref13_Fold_t k) d
theorem ok_ref13_Fold : FnOk Try.prog ET0 78 pi_ref13_Fold po_ref13_Fold g_ref13_Fold := go_ref13_Fold g_ref13_Fold fun d out h => lim_some h

/- horologe/horologeref13.Power -/
@[reducible] def pi_ref13_Power : PSh := ⟨[], [.mk false [.v (.int .i64)]]⟩
@[reducible] def po_ref13_Power : PSh := ⟨[], [.mk true [.v .bool, .v (.sl (.int .u64))]]⟩
@[reducible] def TT_ref13_Power : Type := (((((Bool × Unit) × ((List Int) × ((Bool × ((List Int) × Unit)) × Unit))) × ((Int × Unit) × (Unit × (Unit × ((Int × Unit) × Unit))))) → Option (Unit × ((Bool × ((List Int) × Unit)) × Unit))) × Unit)
@[reducible] def sh_ref13_Power_4 : PSh := ⟨[.var 118 [.v .bool, .osl 1], .row 52 (.int .u64), .var 118 [.v .bool, .v (.sl (.int .u64))]], [.mk false [.v (.int .i64)], .any, .mk false [.ref 0 0], .mk false [.ref 2 0], .mk false [.v (.int .i64)], .any, .any, .any, .any, .any, .any, .any, .any, .any, .any]⟩
def f_ref13_Power_p4 (T : TT_ref13_Power) (d : ((Bool × Unit) × ((List Int) × ((Bool × ((List Int) × Unit)) × Unit))) × ((Int × Unit) × (Unit × (Unit × ((Int × Unit) × Unit))))) : Option (Unit × ((Bool × ((List Int) × Unit)) × Unit)) :=
  let x2 : Bool := (decide (d.2.2.2.2.1.1 < d.2.1.1))
  bif x2 then (
  (g_ref01_Plus ((), ((d.1.2.2.1.1, (d.1.2.2.1.2.1, ())), ((d.1.2.2.1.1, (d.1.2.2.1.2.1, ())), ())))).bind fun x3 =>
  let x4 : Int := (iadd .i64 d.2.2.2.2.1.1 (1 : Int))
  (T.1 (((d.1.1.1, ()), (d.1.2.1, ((x3.2.1.1, (x3.2.1.2.1, ())), ()))), ((d.2.1.1, ()), ((), ((), ((x4, ()), ())))))))
  else (
  some ((), ((d.1.2.2.1.1, (d.1.2.2.1.2.1, ())), ())))
def f_ref13_Power_t : Nat → TT_ref13_Power
  | 0 => (fun _ => none, ())
  | k + 1 => (f_ref13_Power_p4 (f_ref13_Power_t k), ())
theorem t_ref13_Power (k : Nat) : f_ref13_Power_t (k + 1) = (f_ref13_Power_p4 (f_ref13_Power_t k), ()) := rfl
def f_ref13_Power_m (T : TT_ref13_Power) (d : Unit × ((Int × Unit) × Unit)) : Option (Unit × ((Bool × ((List Int) × Unit)) × Unit)) :=
  (g_ref01_Of ((), (((1 : Int), ()), ()))).bind fun x1 =>
  (T.1 (((false, ()), (([] : List Int), ((x1.2.1.1, (x1.1.1, ())), ()))), ((d.2.1.1, ()), ((), ((), (((0 : Int), ()), ()))))))
def c_ref13_Power : List Nat := []
def L_ref13_Power (k : Nat) : Pts po_ref13_Power.den := [(4, ⟨sh_ref13_Power_4, (f_ref13_Power_t k).1⟩)]
def R_ref13_Power (_ : Nat) : PtsR po_ref13_Power.den := []
def E_ref13_Power : Env := (((E0.add 74 (typedSem pi_ref01_Plus po_ref01_Plus g_ref01_Plus)).add 75 (typedSem pi_ref01_Of po_ref01_Of g_ref01_Of)).fr [(13, [11, 12])])
theorem q_ref13_Power_4 (k : Nat) (d : ((Bool × Unit) × ((List Int) × ((Bool × ((List Int) × Unit)) × Unit))) × ((Int × Unit) × (Unit × (Unit × ((Int × Unit) × Unit))))) : evAt E_ref13_Power (tb (L_ref13_Power k) (R_ref13_Power k)) c_ref13_Power 4 (bodyOf Try.f79) 0 (finK E_ref13_Power po_ref13_Power [.cell 2 118]) (ptSt sh_ref13_Power_4 d) = f_ref13_Power_p4 (f_ref13_Power_t k) d := by kernel_rfl
theorem q_ref13_Power_m (k : Nat) (d : Unit × ((Int × Unit) × Unit)) : evCode E_ref13_Power (tb (L_ref13_Power k) (R_ref13_Power k)) c_ref13_Power (bodyOf Try.f79) 0 (finK E_ref13_Power po_ref13_Power [.cell 2 118]) (startSt pi_ref13_Power 15 d) = f_ref13_Power_m (f_ref13_Power_t k) d := by kernel_rfl
theorem go_ref13_Power (F : Unit × ((Int × Unit) × Unit) → Option (Unit × ((Bool × ((List Int) × Unit)) × Unit))) (hF : ∀ d out, F d = some out → ∃ k, f_ref13_Power_m (f_ref13_Power_t k) d = some out) : FnOk Try.prog ET0 79 pi_ref13_Power po_ref13_Power F :=
  fn_of_body (E := E_ref13_Power) (envOk_fr (envOk_add (envOk_add e0_ok (typed_ok ok_ref01_Plus)) (typed_ok ok_ref01_Of))) (fn := Try.f79) Try.func79 (by kernel_rfl) (by kernel_rfl) [.cell 2 118] (by kernel_rfl) (by kernel_rfl) (by decide) rfl c_ref13_Power L_ref13_Power R_ref13_Power
    (by intro x hx d; simp only [L_ref13_Power, List.mem_cons, List.not_mem_nil, or_false] at hx; subst hx; rfl)
    (by intro k x hx d out h; simp only [L_ref13_Power, List.mem_cons, List.not_mem_nil, or_false] at hx; subst hx; exact (q_ref13_Power_4 k d).trans h)
    (by intro x hx; cases hx)
    (by intro k x hx; cases hx)
    (by intro d out h; obtain ⟨k, hk⟩ := hF d out h; exact ⟨k, (q_ref13_Power_m k d).trans hk⟩)
def g_ref13_Power (d : Unit × ((Int × Unit) × Unit)) : Option (Unit × ((Bool × ((List Int) × Unit)) × Unit)) := lim fun k => f_ref13_Power_m (f_ref13_Power_t k) d
theorem ok_ref13_Power : FnOk Try.prog ET0 79 pi_ref13_Power po_ref13_Power g_ref13_Power := go_ref13_Power g_ref13_Power fun d out h => lim_some h

/- horologe/horologeref13.Near -/
@[reducible] def pi_ref13_Near : PSh := ⟨[], [.mk true [.v .bool, .v (.sl (.int .u64))], .mk true [.v .bool, .v (.sl (.int .u64))], .mk false [.v (.int .i64)]]⟩
@[reducible] def po_ref13_Near : PSh := ⟨[], [.mk false [.v .bool]]⟩
def f_ref13_Near_m (T : Unit) (d : Unit × ((Bool × ((List Int) × Unit)) × ((Bool × ((List Int) × Unit)) × ((Int × Unit) × Unit)))) : Option (Unit × ((Bool × Unit) × Unit)) :=
  let x1 : Int := (isub .i64 d.2.2.2.1.1 (1 : Int))
  (g_ref13_Power ((), ((x1, ()), ()))).bind fun x2 =>
  (g_ref01_Minus ((), ((x2.2.1.1, (x2.2.1.2.1, ())), ()))).bind fun x3 =>
  (g_ref01_Plus ((), ((d.2.2.1.1, (d.2.2.1.2.1, ())), ((x3.2.1.1, (x3.2.1.2.1, ())), ())))).bind fun x4 =>
  (g_ref01_Less ((), ((d.2.1.1, (d.2.1.2.1, ())), ((x4.2.1.1, (x4.2.1.2.1, ())), ())))).bind fun x5 =>
  let x6 : Bool := (!x5.2.1.1)
  bif x6 then (
  (g_ref01_Plus ((), ((d.2.2.1.1, (d.2.2.1.2.1, ())), ((x2.2.1.1, (x2.2.1.2.1, ())), ())))).bind fun x7 =>
  (g_ref01_Less ((), ((d.2.1.1, (d.2.1.2.1, ())), ((x7.2.1.1, (x7.2.1.2.1, ())), ())))).bind fun x8 =>
  some ((), ((x8.2.1.1, ()), ())))
  else (
  some ((), ((false, ()), ())))
def c_ref13_Near : List Nat := []
def L_ref13_Near (_ : Nat) : Pts po_ref13_Near.den := []
def R_ref13_Near (_ : Nat) : PtsR po_ref13_Near.den := []
def E_ref13_Near : Env := ((((E0.add 74 (typedSem pi_ref01_Plus po_ref01_Plus g_ref01_Plus)).add 77 (typedSem pi_ref01_Minus po_ref01_Minus g_ref01_Minus)).add 79 (typedSem pi_ref13_Power po_ref13_Power g_ref13_Power)).add 104 (typedSem pi_ref01_Less po_ref01_Less g_ref01_Less))
theorem q_ref13_Near_m (k : Nat) (d : Unit × ((Bool × ((List Int) × Unit)) × ((Bool × ((List Int) × Unit)) × ((Int × Unit) × Unit)))) : evCode E_ref13_Near (tb (L_ref13_Near k) (R_ref13_Near k)) c_ref13_Near (bodyOf Try.f80) 0 (finK E_ref13_Near po_ref13_Near [.tmp 6]) (startSt pi_ref13_Near 25 d) = f_ref13_Near_m () d := by kernel_rfl
def g_ref13_Near (d : Unit × ((Bool × ((List Int) × Unit)) × ((Bool × ((List Int) × Unit)) × ((Int × Unit) × Unit)))) : Option (Unit × ((Bool × Unit) × Unit)) := f_ref13_Near_m () d
theorem ok_ref13_Near : FnOk Try.prog ET0 80 pi_ref13_Near po_ref13_Near g_ref13_Near :=
  fn_of_body (E := E_ref13_Near) (envOk_add (envOk_add (envOk_add (envOk_add e0_ok (typed_ok ok_ref01_Plus)) (typed_ok ok_ref01_Minus)) (typed_ok ok_ref13_Power)) (typed_ok ok_ref01_Less)) (fn := Try.f80) Try.func80 (by kernel_rfl) (by kernel_rfl) [.tmp 6] (by kernel_rfl) (by kernel_rfl) (by decide) rfl c_ref13_Near L_ref13_Near R_ref13_Near
    (by intro x hx; cases hx) (by intro k x hx; cases hx) (by intro x hx; cases hx) (by intro k x hx; cases hx) (fun d out h => ⟨0, (q_ref13_Near_m 0 d).trans h⟩)

/- horologe/horologeref13.Bits -/
@[reducible] def pi_ref13_Bits : PSh := ⟨[], [.mk false [.v (.int .u64)], .mk false [.v (.int .i64)], .mk false [.v (.int .i64)]]⟩
@[reducible] def po_ref13_Bits : PSh := ⟨[], [.mk false [.v (.int .i64)], .mk false [.v (.int .i64)]]⟩
@[reducible] def TT_ref13_Bits : Type := (((((Bool × ((List Int) × Unit)) × ((Bool × ((List Int) × Unit)) × ((Bool × ((List Int) × Unit)) × Unit))) × ((Int × Unit) × (Unit × (Unit × (Unit × ((Int × Unit) × Unit)))))) → Option (Unit × ((Int × Unit) × ((Int × Unit) × Unit)))) × Unit)
@[reducible] def sh_ref13_Bits_9 : PSh := ⟨[.var 118 [.v .bool, .v (.sl (.int .u64))], .var 118 [.v .bool, .v (.sl (.int .u64))], .var 118 [.v .bool, .v (.sl (.int .u64))]], [.any, .mk false [.v (.int .i64)], .any, .any, .any, .any, .any, .any, .mk false [.ref 0 0], .mk false [.ref 1 0], .mk false [.ref 2 0], .mk false [.v (.int .i64)], .any, .any, .any, .any, .any, .any, .any, .any, .any, .any, .any, .any, .any, .any, .any, .any, .any, .any, .any, .any, .any, .any, .any, .any, .any, .any, .any, .any, .any, .any, .any, .any, .any, .any, .any, .any, .any, .any, .any, .any, .any, .any, .any, .any, .any, .any, .any, .any, .any, .any, .any, .any, .any]⟩
def f_ref13_Bits_p9 (T : TT_ref13_Bits) (d : ((Bool × ((List Int) × Unit)) × ((Bool × ((List Int) × Unit)) × ((Bool × ((List Int) × Unit)) × Unit))) × ((Int × Unit) × (Unit × (Unit × (Unit × ((Int × Unit) × Unit)))))) : Option (Unit × ((Int × Unit) × ((Int × Unit) × Unit))) :=
  let x15 : Bool := (decide (d.2.2.2.2.2.1.1 < (3 : Int)))
  bif x15 then (
  let x16 : Bool := (d.2.2.2.2.2.1.1 == (1 : Int))
  bif x16 then (
  (g_ref01_Plus ((), ((d.1.2.1.1, (d.1.2.1.2.1, ())), ((d.1.2.2.1.1, (d.1.2.2.1.2.1, ())), ())))).bind fun x17 =>
  let x18 : Bool := (d.2.2.2.2.2.1.1 == (2 : Int))
  bif x18 then (
  (g_ref01_Minus ((), ((d.1.2.2.1.1, (d.1.2.2.1.2.1, ())), ()))).bind fun x19 =>
  (g_ref01_Plus ((), ((d.1.2.1.1, (d.1.2.1.2.1, ())), ((x19.2.1.1, (x19.2.1.2.1, ())), ())))).bind fun x20 =>
  (g_ref13_Near ((), ((x20.2.1.1, (x20.2.1.2.1, ())), ((d.1.1.1, (d.1.1.2.1, ())), ((d.2.1.1, ()), ()))))).bind fun x21 =>
  bif x21.2.1.1 then (
  (g_ref01_Small ((), ((x20.2.1.1, (x20.2.1.2.1, ())), ()))).bind fun x22 =>
  some ((), ((x22.2.1.1, ()), ((x22.2.2.1.1, ()), ()))))
  else (
  let x23 : Int := (iadd .i64 d.2.2.2.2.2.1.1 (1 : Int))
  (T.1 (((d.1.1.1, (d.1.1.2.1, ())), ((d.1.2.1.1, (d.1.2.1.2.1, ())), ((d.1.2.2.1.1, (d.1.2.2.1.2.1, ())), ()))), ((d.2.1.1, ()), ((), ((), ((), ((x23, ()), ())))))))))
  else (
  (g_ref13_Near ((), ((x17.2.1.1, (x17.2.1.2.1, ())), ((d.1.1.1, (d.1.1.2.1, ())), ((d.2.1.1, ()), ()))))).bind fun x24 =>
  bif x24.2.1.1 then (
  (g_ref01_Small ((), ((x17.2.1.1, (x17.2.1.2.1, ())), ()))).bind fun x25 =>
  some ((), ((x25.2.1.1, ()), ((x25.2.2.1.1, ()), ()))))
  else (
  let x26 : Int := (iadd .i64 d.2.2.2.2.2.1.1 (1 : Int))
  (T.1 (((d.1.1.1, (d.1.1.2.1, ())), ((d.1.2.1.1, (d.1.2.1.2.1, ())), ((d.1.2.2.1.1, (d.1.2.2.1.2.1, ())), ()))), ((d.2.1.1, ()), ((), ((), ((), ((x26, ()), ()))))))))))
  else (
  let x27 : Bool := (d.2.2.2.2.2.1.1 == (2 : Int))
  bif x27 then (
  (g_ref01_Minus ((), ((d.1.2.2.1.1, (d.1.2.2.1.2.1, ())), ()))).bind fun x28 =>
  (g_ref01_Plus ((), ((d.1.2.1.1, (d.1.2.1.2.1, ())), ((x28.2.1.1, (x28.2.1.2.1, ())), ())))).bind fun x29 =>
  (g_ref13_Near ((), ((x29.2.1.1, (x29.2.1.2.1, ())), ((d.1.1.1, (d.1.1.2.1, ())), ((d.2.1.1, ()), ()))))).bind fun x30 =>
  bif x30.2.1.1 then (
  (g_ref01_Small ((), ((x29.2.1.1, (x29.2.1.2.1, ())), ()))).bind fun x31 =>
  some ((), ((x31.2.1.1, ()), ((x31.2.2.1.1, ()), ()))))
  else (
  let x32 : Int := (iadd .i64 d.2.2.2.2.2.1.1 (1 : Int))
  (T.1 (((d.1.1.1, (d.1.1.2.1, ())), ((d.1.2.1.1, (d.1.2.1.2.1, ())), ((d.1.2.2.1.1, (d.1.2.2.1.2.1, ())), ()))), ((d.2.1.1, ()), ((), ((), ((), ((x32, ()), ())))))))))
  else (
  (g_ref13_Near ((), ((d.1.2.1.1, (d.1.2.1.2.1, ())), ((d.1.1.1, (d.1.1.2.1, ())), ((d.2.1.1, ()), ()))))).bind fun x33 =>
  bif x33.2.1.1 then (
  (g_ref01_Small ((), ((d.1.2.1.1, (d.1.2.1.2.1, ())), ()))).bind fun x34 =>
  some ((), ((x34.2.1.1, ()), ((x34.2.2.1.1, ()), ()))))
  else (
  let x35 : Int := (iadd .i64 d.2.2.2.2.2.1.1 (1 : Int))
  (T.1 (((d.1.1.1, (d.1.1.2.1, ())), ((d.1.2.1.1, (d.1.2.1.2.1, ())), ((d.1.2.2.1.1, (d.1.2.2.1.2.1, ())), ()))), ((d.2.1.1, ()), ((), ((), ((), ((x35, ()), ())))))))))))
  else (
  some ((), (((0 : Int), ()), (((5 : Int), ()), ()))))
def f_ref13_Bits_t : Nat → TT_ref13_Bits
  | 0 => (fun _ => none, ())
  | k + 1 => (f_ref13_Bits_p9 (f_ref13_Bits_t k), ())
theorem t_ref13_Bits (k : Nat) : f_ref13_Bits_t (k + 1) = (f_ref13_Bits_p9 (f_ref13_Bits_t k), ()) := rfl
def f_ref13_Bits_m (T : TT_ref13_Bits) (d : Unit × ((Int × Unit) × ((Int × Unit) × ((Int × Unit) × Unit)))) : Option (Unit × ((Int × Unit) × ((Int × Unit) × Unit))) :=
  let x1 : Bool := (decide (d.2.2.1.1 < (1 : Int)))
  bif x1 then (
  some ((), (((0 : Int), ()), (((1 : Int), ()), ()))))
  else (
  let x2 : Bool := (decide (d.2.2.1.1 > (62 : Int)))
  bif x2 then (
  some ((), (((0 : Int), ()), (((1 : Int), ()), ()))))
  else (
  let x3 : Int := (iconv .u64 d.2.2.1.1)
  bif decide (x3 < 0) then (
  none)
  else (
  let x4 : Int := (ishl .u64 (1 : Int) x3)
  let x5 : Bool := (decide (d.2.1.1 ≥ x4))
  bif x5 then (
  some ((), (((0 : Int), ()), (((1 : Int), ()), ()))))
  else (
  (g_ref01_Of ((), ((d.2.2.2.1.1, ()), ()))).bind fun x6 =>
  (g_ref13_Fold ((), ((d.2.2.2.1.1, ()), ((d.2.2.1.1, ()), ())))).bind fun x7 =>
  (g_ref01_Of ((), ((x7.2.1.1, ()), ()))).bind fun x8 =>
  (g_ref01_Minus ((), ((x8.2.1.1, (x8.1.1, ())), ()))).bind fun x9 =>
  (g_ref01_Plus ((), ((x6.2.1.1, (x6.1.1, ())), ((x9.2.1.1, (x9.2.1.2.1, ())), ())))).bind fun x10 =>
  let x11 : Int := (iconv .i64 d.2.1.1)
  (g_ref01_Of ((), ((x11, ()), ()))).bind fun x12 =>
  (g_ref01_Plus ((), ((x10.2.1.1, (x10.2.1.2.1, ())), ((x12.2.1.1, (x12.1.1, ())), ())))).bind fun x13 =>
  (g_ref13_Power ((), ((d.2.2.1.1, ()), ()))).bind fun x14 =>
  (T.1 (((x6.2.1.1, (x6.1.1, ())), ((x13.2.1.1, (x13.2.1.2.1, ())), ((x14.2.1.1, (x14.2.1.2.1, ())), ()))), ((d.2.2.1.1, ()), ((), ((), ((), (((0 : Int), ()), ())))))))))))
def c_ref13_Bits : List Nat := []
def L_ref13_Bits (k : Nat) : Pts po_ref13_Bits.den := [(9, ⟨sh_ref13_Bits_9, (f_ref13_Bits_t k).1⟩)]
def R_ref13_Bits (_ : Nat) : PtsR po_ref13_Bits.den := []
def E_ref13_Bits : Env := ((((((((E0.add 73 (typedSem pi_ref01_Small po_ref01_Small g_ref01_Small)).add 74 (typedSem pi_ref01_Plus po_ref01_Plus g_ref01_Plus)).add 75 (typedSem pi_ref01_Of po_ref01_Of g_ref01_Of)).add 77 (typedSem pi_ref01_Minus po_ref01_Minus g_ref01_Minus)).add 78 (typedSem pi_ref13_Fold po_ref13_Fold g_ref13_Fold)).add 79 (typedSem pi_ref13_Power po_ref13_Power g_ref13_Power)).add 80 (typedSem pi_ref13_Near po_ref13_Near g_ref13_Near)).fr [(1000004, [1000008, 1000027])])
theorem q_ref13_Bits_9 (k : Nat) (d : ((Bool × ((List Int) × Unit)) × ((Bool × ((List Int) × Unit)) × ((Bool × ((List Int) × Unit)) × Unit))) × ((Int × Unit) × (Unit × (Unit × (Unit × ((Int × Unit) × Unit)))))) : evAt E_ref13_Bits (tb (L_ref13_Bits k) (R_ref13_Bits k)) c_ref13_Bits 9 (bodyOf Try.f51) 0 (finK E_ref13_Bits po_ref13_Bits [.tmp 6, .tmp 7]) (ptSt sh_ref13_Bits_9 d) = f_ref13_Bits_p9 (f_ref13_Bits_t k) d := by kernel_rfl
theorem q_ref13_Bits_m (k : Nat) (d : Unit × ((Int × Unit) × ((Int × Unit) × ((Int × Unit) × Unit)))) : evCode E_ref13_Bits (tb (L_ref13_Bits k) (R_ref13_Bits k)) c_ref13_Bits (bodyOf Try.f51) 0 (finK E_ref13_Bits po_ref13_Bits [.tmp 6, .tmp 7]) (startSt pi_ref13_Bits 65 d) = f_ref13_Bits_m (f_ref13_Bits_t k) d := by kernel_rfl
theorem go_ref13_Bits (F : Unit × ((Int × Unit) × ((Int × Unit) × ((Int × Unit) × Unit))) → Option (Unit × ((Int × Unit) × ((Int × Unit) × Unit)))) (hF : ∀ d out, F d = some out → ∃ k, f_ref13_Bits_m (f_ref13_Bits_t k) d = some out) : FnOk Try.prog ET0 51 pi_ref13_Bits po_ref13_Bits F :=
  fn_of_body (E := E_ref13_Bits) (envOk_fr (envOk_add (envOk_add (envOk_add (envOk_add (envOk_add (envOk_add (envOk_add e0_ok (typed_ok ok_ref01_Small)) (typed_ok ok_ref01_Plus)) (typed_ok ok_ref01_Of)) (typed_ok ok_ref01_Minus)) (typed_ok ok_ref13_Fold)) (typed_ok ok_ref13_Power)) (typed_ok ok_ref13_Near))) (fn := Try.f51) Try.func51 (by kernel_rfl) (by kernel_rfl) [.tmp 6, .tmp 7] (by kernel_rfl) (by kernel_rfl) (by decide) rfl c_ref13_Bits L_ref13_Bits R_ref13_Bits
    (by intro x hx d; simp only [L_ref13_Bits, List.mem_cons, List.not_mem_nil, or_false] at hx; subst hx; rfl)
    (by intro k x hx d out h; simp only [L_ref13_Bits, List.mem_cons, List.not_mem_nil, or_false] at hx; subst hx; exact (q_ref13_Bits_9 k d).trans h)
    (by intro x hx; cases hx)
    (by intro k x hx; cases hx)
    (by intro d out h; obtain ⟨k, hk⟩ := hF d out h; exact ⟨k, (q_ref13_Bits_m k d).trans hk⟩)
def g_ref13_Bits (d : Unit × ((Int × Unit) × ((Int × Unit) × ((Int × Unit) × Unit)))) : Option (Unit × ((Int × Unit) × ((Int × Unit) × Unit))) := lim fun k => f_ref13_Bits_m (f_ref13_Bits_t k) d
theorem ok_ref13_Bits : FnOk Try.prog ET0 51 pi_ref13_Bits po_ref13_Bits g_ref13_Bits := go_ref13_Bits g_ref13_Bits fun d out h => lim_some h

/- horologe/horologeref15.Back -/
@[reducible] def pi_ref15_Back : PSh := ⟨[], [.mk false [.v (.int .i64)]]⟩
@[reducible] def po_ref15_Back : PSh := ⟨[], [.mk false [.v (.int .i64)], .mk false [.v (.int .i64)]]⟩
def f_ref15_Back_m (T : Unit) (d : Unit × ((Int × Unit) × Unit)) : Option (Unit × ((Int × Unit) × ((Int × Unit) × Unit))) :=
  (g_ref01_Of ((), ((d.2.1.1, ()), ()))).bind fun x1 =>
  (g_ref15_Begin ((), ())).bind fun x2 =>
  (g_ref01_Of ((), ((x2.2.1.1, ()), ()))).bind fun x3 =>
  (g_ref01_Minus ((), ((x3.2.1.1, (x3.1.1, ())), ()))).bind fun x4 =>
  (g_ref01_Plus ((), ((x1.2.1.1, (x1.1.1, ())), ((x4.2.1.1, (x4.2.1.2.1, ())), ())))).bind fun x5 =>
  (g_ref01_Small ((), ((x5.2.1.1, (x5.2.1.2.1, ())), ()))).bind fun x6 =>
  some ((), ((x6.2.1.1, ()), ((x6.2.2.1.1, ()), ())))
def c_ref15_Back : List Nat := []
def L_ref15_Back (_ : Nat) : Pts po_ref15_Back.den := []
def R_ref15_Back (_ : Nat) : PtsR po_ref15_Back.den := []
def E_ref15_Back : Env := ((((((E0.add 73 (typedSem pi_ref01_Small po_ref01_Small g_ref01_Small)).add 74 (typedSem pi_ref01_Plus po_ref01_Plus g_ref01_Plus)).add 75 (typedSem pi_ref01_Of po_ref01_Of g_ref01_Of)).add 76 (typedSem pi_ref15_Begin po_ref15_Begin g_ref15_Begin)).add 77 (typedSem pi_ref01_Minus po_ref01_Minus g_ref01_Minus)).fr [(8, [7]), (9, [5])])
theorem q_ref15_Back_m (k : Nat) (d : Unit × ((Int × Unit) × Unit)) : evCode E_ref15_Back (tb (L_ref15_Back k) (R_ref15_Back k)) c_ref15_Back (bodyOf Try.f52) 0 (finK E_ref15_Back po_ref15_Back [.tmp 2, .tmp 3]) (startSt pi_ref15_Back 13 d) = f_ref15_Back_m () d := by kernel_rfl
def g_ref15_Back (d : Unit × ((Int × Unit) × Unit)) : Option (Unit × ((Int × Unit) × ((Int × Unit) × Unit))) := f_ref15_Back_m () d
theorem ok_ref15_Back : FnOk Try.prog ET0 52 pi_ref15_Back po_ref15_Back g_ref15_Back :=
  fn_of_body (E := E_ref15_Back) (envOk_fr (envOk_add (envOk_add (envOk_add (envOk_add (envOk_add e0_ok (typed_ok ok_ref01_Small)) (typed_ok ok_ref01_Plus)) (typed_ok ok_ref01_Of)) (typed_ok ok_ref15_Begin)) (typed_ok ok_ref01_Minus))) (fn := Try.f52) Try.func52 (by kernel_rfl) (by kernel_rfl) [.tmp 2, .tmp 3] (by kernel_rfl) (by kernel_rfl) (by decide) rfl c_ref15_Back L_ref15_Back R_ref15_Back
    (by intro x hx; cases hx) (by intro k x hx; cases hx) (by intro x hx; cases hx) (by intro k x hx; cases hx) (fun d out h => ⟨0, (q_ref15_Back_m 0 d).trans h⟩)

/- horologe/horologeref27.Near -/
@[reducible] def pi_ref27_Near : PSh := ⟨[], [.mk false [.v (.sl (.int .u8))], .mk false [.v (.int .i64)]]⟩
@[reducible] def po_ref27_Near : PSh := ⟨[], [.mk false [.v (.int .i64)], .mk false [.v (.int .i64)]]⟩
def f_ref27_Near_m (T : Unit) (d : Unit × (((List Int) × Unit) × ((Int × Unit) × Unit))) : Option (Unit × ((Int × Unit) × ((Int × Unit) × Unit))) :=
  let x1 : Int := (d.2.1.1.length : Int)
  let x2 : Bool := (x1 != (4 : Int))
  bif x2 then (
  some ((), (((0 : Int), ()), (((2 : Int), ()), ()))))
  else (
  (g_ref15_Ahead ((), ((d.2.2.1.1, ()), ()))).bind fun x3 =>
  let x4 : Bool := (x3.2.2.1.1 != (0 : Int))
  bif x4 then (
  some ((), (((0 : Int), ()), ((x3.2.2.1.1, ()), ()))))
  else (
  (g_ref03_Value ((), ((d.2.1.1, ()), ()))).bind fun x5 =>
  (g_ref13_Bits ((), ((x5.2.1.1, ()), (((32 : Int), ()), ((x3.2.1.1, ()), ()))))).bind fun x6 =>
  let x7 : Bool := (x6.2.2.1.1 != (0 : Int))
  bif x7 then (
  some ((), (((0 : Int), ()), ((x6.2.2.1.1, ()), ()))))
  else (
  (g_ref15_Back ((), ((x6.2.1.1, ()), ()))).bind fun x8 =>
  some ((), ((x8.2.1.1, ()), ((x8.2.2.1.1, ()), ()))))))
def c_ref27_Near : List Nat := []
def L_ref27_Near (_ : Nat) : Pts po_ref27_Near.den := []
def R_ref27_Near (_ : Nat) : PtsR po_ref27_Near.den := []
def E_ref27_Near : Env := ((((E0.add 17 (typedSem pi_ref03_Value po_ref03_Value g_ref03_Value)).add 50 (typedSem pi_ref15_Ahead po_ref15_Ahead g_ref15_Ahead)).add 51 (typedSem pi_ref13_Bits po_ref13_Bits g_ref13_Bits)).add 52 (typedSem pi_ref15_Back po_ref15_Back g_ref15_Back))
theorem q_ref27_Near_m (k : Nat) (d : Unit × (((List Int) × Unit) × ((Int × Unit) × Unit))) : evCode E_ref27_Near (tb (L_ref27_Near k) (R_ref27_Near k)) c_ref27_Near (bodyOf Try.f21) 0 (finK E_ref27_Near po_ref27_Near [.tmp 4, .tmp 5]) (startSt pi_ref27_Near 34 d) = f_ref27_Near_m () d := by kernel_rfl
def g_ref27_Near (d : Unit × (((List Int) × Unit) × ((Int × Unit) × Unit))) : Option (Unit × ((Int × Unit) × ((Int × Unit) × Unit))) := f_ref27_Near_m () d
theorem ok_ref27_Near : FnOk Try.prog ET0 21 pi_ref27_Near po_ref27_Near g_ref27_Near :=
  fn_of_body (E := E_ref27_Near) (envOk_add (envOk_add (envOk_add (envOk_add e0_ok (typed_ok ok_ref03_Value)) (typed_ok ok_ref15_Ahead)) (typed_ok ok_ref13_Bits)) (typed_ok ok_ref15_Back)) (fn := Try.f21) Try.func21 (by kernel_rfl) (by kernel_rfl) [.tmp 4, .tmp 5] (by kernel_rfl) (by kernel_rfl) (by decide) rfl c_ref27_Near L_ref27_Near R_ref27_Near
    (by intro x hx; cases hx) (by intro k x hx; cases hx) (by intro x hx; cases hx) (by intro k x hx; cases hx) (fun d out h => ⟨0, (q_ref27_Near_m 0 d).trans h⟩)

/- horologe/horologeref05.Date -/
@[reducible] def pi_ref05_Date : PSh := ⟨[], [.mk false [.v (.int .i64)]]⟩
@[reducible] def po_ref05_Date : PSh := ⟨[], [.mk false [.v (.int .i64)], .mk false [.v (.int .i64)], .mk false [.v (.int .i64)]]⟩
@[reducible] def TT_ref05_Date : Type := (((Unit × ((Int × Unit) × ((Int × Unit) × Unit))) → Option (Unit × ((Int × Unit) × ((Int × Unit) × ((Int × Unit) × Unit))))) × (((Unit × ((Int × Unit) × ((Int × Unit) × Unit))) → Option (Unit × ((Int × Unit) × ((Int × Unit) × ((Int × Unit) × Unit))))) × (((Unit × ((Int × Unit) × ((Int × Unit) × Unit))) → Option (Unit × ((Int × Unit) × ((Int × Unit) × ((Int × Unit) × Unit))))) × (((Unit × ((Int × Unit) × ((Int × Unit) × ((Int × Unit) × Unit)))) → Option (Unit × ((Int × Unit) × ((Int × Unit) × ((Int × Unit) × Unit))))) × Unit))))
@[reducible] def sh_ref05_Date_3 : PSh := ⟨[], [.mk false [.v (.int .i64)], .any, .any, .any, .any, .mk false [.v (.int .i64)], .any, .any, .any, .any, .any, .any, .any, .any, .any, .any, .any, .any, .any, .any, .any, .any, .any, .any, .any, .any, .any, .any, .any, .any, .any, .any, .any, .any, .any, .any, .any, .any, .any, .any, .any, .any, .any, .any, .any]⟩
@[reducible] def sh_ref05_Date_8 : PSh := ⟨[], [.mk false [.v (.int .i64)], .any, .any, .any, .any, .mk false [.v (.int .i64)], .any, .any, .any, .any, .any, .any, .any, .any, .any, .any, .any, .any, .any, .any, .any, .any, .any, .any, .any, .any, .any, .any, .any, .any, .any, .any, .any, .any, .any, .any, .any, .any, .any, .any, .any, .any, .any, .any, .any]⟩
@[reducible] def sh_ref05_Date_13 : PSh := ⟨[], [.mk false [.v (.int .i64)], .any, .any, .any, .any, .mk false [.v (.int .i64)], .any, .any, .any, .any, .any, .any, .any, .any, .any, .any, .any, .any, .any, .any, .any, .any, .any, .any, .any, .any, .any, .any, .any, .any, .any, .any, .any, .any, .any, .any, .any, .any, .any, .any, .any, .any, .any, .any, .any]⟩
@[reducible] def sh_ref05_Date_19 : PSh := ⟨[], [.mk false [.v (.int .i64)], .any, .any, .any, .any, .mk false [.v (.int .i64)], .mk false [.v (.int .i64)], .any, .any, .any, .any, .any, .any, .any, .any, .any, .any, .any, .any, .any, .any, .any, .any, .any, .any, .any, .any, .any, .any, .any, .any, .any, .any, .any, .any, .any, .any, .any, .any, .any, .any, .any, .any, .any, .any]⟩
def f_ref05_Date_p3 (T : TT_ref05_Date) (d : Unit × ((Int × Unit) × ((Int × Unit) × Unit))) : Option (Unit × ((Int × Unit) × ((Int × Unit) × ((Int × Unit) × Unit)))) :=
  let x1 : Bool := (decide (d.2.1.1 < (0 : Int)))
  bif x1 then (
  let x2 : Int := (iadd .i64 d.2.1.1 (146097 : Int))
  let x3 : Int := (isub .i64 d.2.2.1.1 (400 : Int))
  (T.1 ((), ((x2, ()), ((x3, ()), ())))))
  else (
  (T.2.1 ((), ((d.2.1.1, ()), ((d.2.2.1.1, ()), ())))))
def f_ref05_Date_p8 (T : TT_ref05_Date) (d : Unit × ((Int × Unit) × ((Int × Unit) × Unit))) : Option (Unit × ((Int × Unit) × ((Int × Unit) × ((Int × Unit) × Unit)))) :=
  let x4 : Bool := (decide (d.2.1.1 ≥ (146097 : Int)))
  bif x4 then (
  let x5 : Int := (isub .i64 d.2.1.1 (146097 : Int))
  let x6 : Int := (iadd .i64 d.2.2.1.1 (400 : Int))
  (T.2.1 ((), ((x5, ()), ((x6, ()), ())))))
  else (
  (T.2.2.1 ((), ((d.2.1.1, ()), ((d.2.2.1.1, ()), ())))))
def f_ref05_Date_p13 (T : TT_ref05_Date) (d : Unit × ((Int × Unit) × ((Int × Unit) × Unit))) : Option (Unit × ((Int × Unit) × ((Int × Unit) × ((Int × Unit) × Unit)))) :=
  (g_ref05_Days ((), ((d.2.2.1.1, ()), ()))).bind fun x7 =>
  let x8 : Bool := (decide (d.2.1.1 ≥ x7.2.1.1))
  bif x8 then (
  (g_ref05_Days ((), ((d.2.2.1.1, ()), ()))).bind fun x9 =>
  let x10 : Int := (isub .i64 d.2.1.1 x9.2.1.1)
  let x11 : Int := (iadd .i64 d.2.2.1.1 (1 : Int))
  (T.2.2.1 ((), ((x10, ()), ((x11, ()), ())))))
  else (
  (T.2.2.2.1 ((), ((d.2.1.1, ()), ((d.2.2.1.1, ()), (((1 : Int), ()), ()))))))
def f_ref05_Date_p19 (T : TT_ref05_Date) (d : Unit × ((Int × Unit) × ((Int × Unit) × ((Int × Unit) × Unit)))) : Option (Unit × ((Int × Unit) × ((Int × Unit) × ((Int × Unit) × Unit)))) :=
  (g_ref05_Month ((), ((d.2.2.1.1, ()), ((d.2.2.2.1.1, ()), ())))).bind fun x12 =>
  let x13 : Bool := (decide (d.2.1.1 ≥ x12.2.1.1))
  bif x13 then (
  (g_ref05_Month ((), ((d.2.2.1.1, ()), ((d.2.2.2.1.1, ()), ())))).bind fun x14 =>
  let x15 : Int := (isub .i64 d.2.1.1 x14.2.1.1)
  let x16 : Int := (iadd .i64 d.2.2.2.1.1 (1 : Int))
  (T.2.2.2.1 ((), ((x15, ()), ((d.2.2.1.1, ()), ((x16, ()), ()))))))
  else (
  let x17 : Int := (iadd .i64 d.2.1.1 (1 : Int))
  some ((), ((d.2.2.1.1, ()), ((d.2.2.2.1.1, ()), ((x17, ()), ())))))
def f_ref05_Date_t : Nat → TT_ref05_Date
  | 0 => (fun _ => none, (fun _ => none, (fun _ => none, (fun _ => none, ()))))
  | k + 1 => (f_ref05_Date_p3 (f_ref05_Date_t k), (f_ref05_Date_p8 (f_ref05_Date_t k), (f_ref05_Date_p13 (f_ref05_Date_t k), (f_ref05_Date_p19 (f_ref05_Date_t k), ()))))
theorem t_ref05_Date (k : Nat) : f_ref05_Date_t (k + 1) = (f_ref05_Date_p3 (f_ref05_Date_t k), (f_ref05_Date_p8 (f_ref05_Date_t k), (f_ref05_Date_p13 (f_ref05_Date_t k), (f_ref05_Date_p19 (f_ref05_Date_t k), ())))) := rfl
def f_ref05_Date_m (T : TT_ref05_Date) (d : Unit × ((Int × Unit) × Unit)) : Option (Unit × ((Int × Unit) × ((Int × Unit) × ((Int × Unit) × Unit)))) :=
  (T.1 ((), ((d.2.1.1, ()), (((1970 : Int), ()), ()))))
def c_ref05_Date : List Nat := []
def L_ref05_Date (k : Nat) : Pts po_ref05_Date.den := [(3, ⟨sh_ref05_Date_3, (f_ref05_Date_t k).1⟩), (8, ⟨sh_ref05_Date_8, (f_ref05_Date_t k).2.1⟩), (13, ⟨sh_ref05_Date_13, (f_ref05_Date_t k).2.2.1⟩), (19, ⟨sh_ref05_Date_19, (f_ref05_Date_t k).2.2.2.1⟩)]
def R_ref05_Date (_ : Nat) : PtsR po_ref05_Date.den := []
def E_ref05_Date : Env := ((E0.add 59 (typedSem pi_ref05_Days po_ref05_Days g_ref05_Days)).add 60 (typedSem pi_ref05_Month po_ref05_Month g_ref05_Month))
theorem q_ref05_Date_3 (k : Nat) (d : Unit × ((Int × Unit) × ((Int × Unit) × Unit))) : evAt E_ref05_Date (tb (L_ref05_Date k) (R_ref05_Date k)) c_ref05_Date 3 (bodyOf Try.f37) 0 (finK E_ref05_Date po_ref05_Date [.tmp 2, .tmp 3, .tmp 4]) (ptSt sh_ref05_Date_3 d) = f_ref05_Date_p3 (f_ref05_Date_t k) d := by kernel_rfl
theorem q_ref05_Date_8 (k : Nat) (d : Unit × ((Int × Unit) × ((Int × Unit) × Unit))) : evAt E_ref05_Date (tb (L_ref05_Date k) (R_ref05_Date k)) c_ref05_Date 8 (bodyOf Try.f37) 0 (finK E_ref05_Date po_ref05_Date [.tmp 2, .tmp 3, .tmp 4]) (ptSt sh_ref05_Date_8 d) = f_ref05_Date_p8 (f_ref05_Date_t k) d := by kernel_rfl
theorem q_ref05_Date_13 (k : Nat) (d : Unit × ((Int × Unit) × ((Int × Unit) × Unit))) : evAt E_ref05_Date (tb (L_ref05_Date k) (R_ref05_Date k)) c_ref05_Date 13 (bodyOf Try.f37) 0 (finK E_ref05_Date po_ref05_Date [.tmp 2, .tmp 3, .tmp 4]) (ptSt sh_ref05_Date_13 d) = f_ref05_Date_p13 (f_ref05_Date_t k) d := by kernel_rfl
theorem q_ref05_Date_19 (k : Nat) (d : Unit × ((Int × Unit) × ((Int × Unit) × ((Int × Unit) × Unit)))) : evAt E_ref05_Date (tb (L_ref05_Date k) (R_ref05_Date k)) c_ref05_Date 19 (bodyOf Try.f37) 0 (finK E_ref05_Date po_ref05_Date [.tmp 2, .tmp 3, .tmp 4]) (ptSt sh_ref05_Date_19 d) = f_ref05_Date_p19 (f_ref05_Date_t k) d := by kernel_rfl
theorem q_ref05_Date_m (k : Nat) (d : Unit × ((Int × Unit) × Unit)) : evCode E_ref05_Date (tb (L_ref05_Date k) (R_ref05_Date k)) c_ref05_Date (bodyOf Try.f37) 0 (finK E_ref05_Date po_ref05_Date [.tmp 2, .tmp 3, .tmp 4]) (startSt pi_ref05_Date 45 d) = f_ref05_Date_m (f_ref05_Date_t k) d := by kernel_rfl
theorem go_ref05_Date (F : Unit × ((Int × Unit) × Unit) → Option (Unit × ((Int × Unit) × ((Int × Unit) × ((Int × Unit) × Unit))))) (hF : ∀ d out, F d = some out → ∃ k, f_ref05_Date_m (f_ref05_Date_t k) d = some out) : FnOk Try.prog ET0 37 pi_ref05_Date po_ref05_Date F :=
  fn_of_body (E := E_ref05_Date) (envOk_add (envOk_add e0_ok (typed_ok ok_ref05_Days)) (typed_ok ok_ref05_Month)) (fn := Try.f37) Try.func37 (by kernel_rfl) (by kernel_rfl) [.tmp 2, .tmp 3, .tmp 4] (by kernel_rfl) (by kernel_rfl) (by decide) rfl c_ref05_Date L_ref05_Date R_ref05_Date
    (by intro x hx d; simp only [L_ref05_Date, List.mem_cons, List.not_mem_nil, or_false] at hx; rcases hx with rfl | rfl | rfl | rfl; rfl; rfl; rfl; rfl)
    (by intro k x hx d out h; simp only [L_ref05_Date, List.mem_cons, List.not_mem_nil, or_false] at hx; rcases hx with rfl | rfl | rfl | rfl; exact (q_ref05_Date_3 k d).trans h; exact (q_ref05_Date_8 k d).trans h; exact (q_ref05_Date_13 k d).trans h; exact (q_ref05_Date_19 k d).trans h)
    (by intro x hx; cases hx)
    (by intro k x hx; cases hx)
    (by intro d out h; obtain ⟨k, hk⟩ := hF d out h; exact ⟨k, (q_ref05_Date_m k d).trans hk⟩)
def g_ref05_Date (d : Unit × ((Int × Unit) × Unit)) : Option (Unit × ((Int × Unit) × ((Int × Unit) × ((Int × Unit) × Unit)))) := lim fun k => f_ref05_Date_m (f_ref05_Date_t k) d
theorem ok_ref05_Date : FnOk Try.prog ET0 37 pi_ref05_Date po_ref05_Date g_ref05_Date := go_ref05_Date g_ref05_Date fun d out h => lim_some h

/- horologe/horologeref05.Last -/
@[reducible] def pi_ref05_Last : PSh := ⟨[], []⟩
@[reducible] def po_ref05_Last : PSh := ⟨[], [.mk false [.v (.int .i64)]]⟩
def f_ref05_Last_m (T : Unit) (d : Unit × Unit) : Option (Unit × ((Int × Unit) × Unit)) :=
  (g_ref05_Start ((), (((10000 : Int), ()), ()))).bind fun x1 =>
  let x2 : Int := (isub .i64 x1.2.1.1 (1 : Int))
  some ((), ((x2, ()), ()))
def c_ref05_Last : List Nat := []
def L_ref05_Last (_ : Nat) : Pts po_ref05_Last.den := []
def R_ref05_Last (_ : Nat) : PtsR po_ref05_Last.den := []
def E_ref05_Last : Env := (E0.add 35 (typedSem pi_ref05_Start po_ref05_Start g_ref05_Start))
theorem q_ref05_Last_m (k : Nat) (d : Unit × Unit) : evCode E_ref05_Last (tb (L_ref05_Last k) (R_ref05_Last k)) c_ref05_Last (bodyOf Try.f36) 0 (finK E_ref05_Last po_ref05_Last [.tmp 0]) (startSt pi_ref05_Last 3 d) = f_ref05_Last_m () d := by kernel_rfl
def g_ref05_Last (d : Unit × Unit) : Option (Unit × ((Int × Unit) × Unit)) := f_ref05_Last_m () d
theorem ok_ref05_Last : FnOk Try.prog ET0 36 pi_ref05_Last po_ref05_Last g_ref05_Last :=
  fn_of_body (E := E_ref05_Last) (envOk_add e0_ok (typed_ok ok_ref05_Start)) (fn := Try.f36) Try.func36 (by kernel_rfl) (by kernel_rfl) [.tmp 0] (by kernel_rfl) (by kernel_rfl) (by decide) rfl c_ref05_Last L_ref05_Last R_ref05_Last
    (by intro x hx; cases hx) (by intro k x hx; cases hx) (by intro x hx; cases hx) (by intro k x hx; cases hx) (fun d out h => ⟨0, (q_ref05_Last_m 0 d).trans h⟩)

/- horologe/horologeref05.First -/
@[reducible] def pi_ref05_First : PSh := ⟨[], []⟩
@[reducible] def po_ref05_First : PSh := ⟨[], [.mk false [.v (.int .i64)]]⟩
def f_ref05_First_m (T : Unit) (d : Unit × Unit) : Option (Unit × ((Int × Unit) × Unit)) :=
  (g_ref05_Start ((), (((-9999 : Int), ()), ()))).bind fun x1 =>
  some ((), ((x1.2.1.1, ()), ()))
def c_ref05_First : List Nat := []
def L_ref05_First (_ : Nat) : Pts po_ref05_First.den := []
def R_ref05_First (_ : Nat) : PtsR po_ref05_First.den := []
def E_ref05_First : Env := (E0.add 35 (typedSem pi_ref05_Start po_ref05_Start g_ref05_Start))
theorem q_ref05_First_m (k : Nat) (d : Unit × Unit) : evCode E_ref05_First (tb (L_ref05_First k) (R_ref05_First k)) c_ref05_First (bodyOf Try.f119) 0 (finK E_ref05_First po_ref05_First [.tmp 0]) (startSt pi_ref05_First 2 d) = f_ref05_First_m () d := by kernel_rfl
def g_ref05_First (d : Unit × Unit) : Option (Unit × ((Int × Unit) × Unit)) := f_ref05_First_m () d
theorem ok_ref05_First : FnOk Try.prog ET0 119 pi_ref05_First po_ref05_First g_ref05_First :=
  fn_of_body (E := E_ref05_First) (envOk_add e0_ok (typed_ok ok_ref05_Start)) (fn := Try.f119) Try.func119 (by kernel_rfl) (by kernel_rfl) [.tmp 0] (by kernel_rfl) (by kernel_rfl) (by decide) rfl c_ref05_First L_ref05_First R_ref05_First
    (by intro x hx; cases hx) (by intro k x hx; cases hx) (by intro x hx; cases hx) (by intro k x hx; cases hx) (fun d out h => ⟨0, (q_ref05_First_m 0 d).trans h⟩)

/- horologe/horologeref08.There -/
@[reducible] def pi_ref08_There : PSh := ⟨[], [.mk false [.v (.int .i64)]]⟩
@[reducible] def po_ref08_There : PSh := ⟨[], [.mk false [.v .bool]]⟩
def f_ref08_There_m (T : Unit) (d : Unit × ((Int × Unit) × Unit)) : Option (Unit × ((Bool × Unit) × Unit)) :=
  (g_ref05_First ((), ())).bind fun x1 =>
  let x2 : Bool := (decide (d.2.1.1 ≥ x1.2.1.1))
  bif x2 then (
  (g_ref05_Last ((), ())).bind fun x3 =>
  let x4 : Bool := (decide (d.2.1.1 ≤ x3.2.1.1))
  some ((), ((x4, ()), ())))
  else (
  some ((), ((false, ()), ())))
def c_ref08_There : List Nat := []
def L_ref08_There (_ : Nat) : Pts po_ref08_There.den := []
def R_ref08_There (_ : Nat) : PtsR po_ref08_There.den := []
def E_ref08_There : Env := ((E0.add 36 (typedSem pi_ref05_Last po_ref05_Last g_ref05_Last)).add 119 (typedSem pi_ref05_First po_ref05_First g_ref05_First))
theorem q_ref08_There_m (k : Nat) (d : Unit × ((Int × Unit) × Unit)) : evCode E_ref08_There (tb (L_ref08_There k) (R_ref08_There k)) c_ref08_There (bodyOf Try.f109) 0 (finK E_ref08_There po_ref08_There [.tmp 2]) (startSt pi_ref08_There 11 d) = f_ref08_There_m () d := by kernel_rfl
def g_ref08_There (d : Unit × ((Int × Unit) × Unit)) : Option (Unit × ((Bool × Unit) × Unit)) := f_ref08_There_m () d
theorem ok_ref08_There : FnOk Try.prog ET0 109 pi_ref08_There po_ref08_There g_ref08_There :=
  fn_of_body (E := E_ref08_There) (envOk_add (envOk_add e0_ok (typed_ok ok_ref05_Last)) (typed_ok ok_ref05_First)) (fn := Try.f109) Try.func109 (by kernel_rfl) (by kernel_rfl) [.tmp 2] (by kernel_rfl) (by kernel_rfl) (by decide) rfl c_ref08_There L_ref08_There R_ref08_There
    (by intro x hx; cases hx) (by intro k x hx; cases hx) (by intro x hx; cases hx) (by intro k x hx; cases hx) (fun d out h => ⟨0, (q_ref08_There_m 0 d).trans h⟩)

/- horologe/horologeref08.Of -/
@[reducible] def pi_ref08_Of : PSh := ⟨[], [.mk false [.v (.int .i64)], .mk false [.v (.int .i64)], .mk false [.v (.int .i64)], .mk false [.v (.int .i64)]]⟩
@[reducible] def po_ref08_Of : PSh := ⟨[], [.mk true [.v (.int .i64), .v (.int .i64), .v (.int .i64), .v (.int .i64), .v (.int .i64), .v (.int .i64), .v (.int .i64), .v (.int .i64)], .mk false [.v (.int .i64)]]⟩
@[reducible] def TT_ref08_Of : Type := (((((Int × (Int × (Int × (Int × (Int × (Int × (Int × (Int × Unit)))))))) × ((Int × (Int × (Int × (Int × (Int × (Int × (Int × (Int × Unit)))))))) × Unit)) × ((Int × Unit) × (Unit × (Unit × ((Int × Unit) × Unit))))) → Option (Unit × ((Int × (Int × (Int × (Int × (Int × (Int × (Int × (Int × Unit)))))))) × ((Int × Unit) × Unit)))) × Unit)
@[reducible] def sh_ref08_Of_16 : PSh := ⟨[.var 64 [.v (.int .i64), .v (.int .i64), .v (.int .i64), .v (.int .i64), .v (.int .i64), .v (.int .i64), .v (.int .i64), .v (.int .i64)], .var 64 [.v (.int .i64), .v (.int .i64), .v (.int .i64), .v (.int .i64), .v (.int .i64), .v (.int .i64), .v (.int .i64), .v (.int .i64)]], [.mk false [.v (.int .i64)], .any, .any, .any, .any, .any, .any, .any, .mk false [.ref 0 0], .any, .mk false [.ref 1 0], .mk false [.v (.int .i64)], .any, .any, .any, .any, .any, .any, .any, .any, .any, .any, .any, .any, .any, .any, .any, .any, .any, .any, .any, .any, .any, .any, .any, .any, .any, .any, .any, .any, .any, .any, .any, .any, .any, .any, .any, .any, .any, .any, .any, .any, .any, .any, .any, .any, .any, .any, .any, .any, .any, .any, .any, .any, .any, .any, .any, .any, .any, .any, .any, .any, .any, .any, .any, .any, .any, .any, .any, .any, .any, .any, .any, .any]⟩
def f_ref08_Of_p16 (T : TT_ref08_Of) (d : ((Int × (Int × (Int × (Int × (Int × (Int × (Int × (Int × Unit)))))))) × ((Int × (Int × (Int × (Int × (Int × (Int × (Int × (Int × Unit)))))))) × Unit)) × ((Int × Unit) × (Unit × (Unit × ((Int × Unit) × Unit))))) : Option (Unit × ((Int × (Int × (Int × (Int × (Int × (Int × (Int × (Int × Unit)))))))) × ((Int × Unit) × Unit))) :=
  (g_ref08_There ((), ((d.2.1.1, ()), ()))).bind fun x32 =>
  let x33 : Bool := (!x32.2.1.1)
  bif x33 then (
  some ((), (((0 : Int), ((0 : Int), ((0 : Int), ((0 : Int), ((0 : Int), ((0 : Int), ((0 : Int), ((0 : Int), ())))))))), (((13 : Int), ()), ()))))
  else (
  (g_ref05_Date ((), ((d.2.1.1, ()), ()))).bind fun x34 =>
  let x35 : Int := (iquo .i64 d.2.2.2.2.1.1 (60 : Int))
  let x36 : Int := (Int.tmod d.2.2.2.2.1.1 (60 : Int))
  some ((), ((x34.2.1.1, (x34.2.2.1.1, (x34.2.2.2.1.1, (x35, (x36, (d.1.2.1.2.2.2.2.2.1, (d.1.2.1.2.2.2.2.2.2.1, (d.1.2.1.2.2.2.2.2.2.2.1, ())))))))), (((0 : Int), ()), ()))))
def f_ref08_Of_t : Nat → TT_ref08_Of
  | 0 => (fun _ => none, ())
  | k + 1 => (f_ref08_Of_p16 (f_ref08_Of_t k), ())
theorem t_ref08_Of (k : Nat) : f_ref08_Of_t (k + 1) = (f_ref08_Of_p16 (f_ref08_Of_t k), ()) := rfl
def f_ref08_Of_m (T : TT_ref08_Of) (d : Unit × ((Int × Unit) × ((Int × Unit) × ((Int × Unit) × ((Int × Unit) × Unit))))) : Option (Unit × ((Int × (Int × (Int × (Int × (Int × (Int × (Int × (Int × Unit)))))))) × ((Int × Unit) × Unit))) :=
  (g_ref08_There ((), ((d.2.1.1, ()), ()))).bind fun x1 =>
  let x2 : Bool := (!x1.2.1.1)
  bif x2 then (
  some ((), (((0 : Int), ((0 : Int), ((0 : Int), ((0 : Int), ((0 : Int), ((0 : Int), ((0 : Int), ((0 : Int), ())))))))), (((13 : Int), ()), ()))))
  else (
  let x3 : Bool := (decide (d.2.2.1.1 < (0 : Int)))
  bif x3 then (
  some ((), (((0 : Int), ((0 : Int), ((0 : Int), ((0 : Int), ((0 : Int), ((0 : Int), ((0 : Int), ((0 : Int), ())))))))), (((1 : Int), ()), ()))))
  else (
  let x4 : Bool := (decide (d.2.2.1.1 > (86400 : Int)))
  bif x4 then (
  some ((), (((0 : Int), ((0 : Int), ((0 : Int), ((0 : Int), ((0 : Int), ((0 : Int), ((0 : Int), ((0 : Int), ())))))))), (((1 : Int), ()), ()))))
  else (
  let x5 : Bool := (decide (d.2.2.2.1.1 < (0 : Int)))
  bif x5 then (
  some ((), (((0 : Int), ((0 : Int), ((0 : Int), ((0 : Int), ((0 : Int), ((0 : Int), ((0 : Int), ((0 : Int), ())))))))), (((1 : Int), ()), ()))))
  else (
  let x6 : Bool := (decide (d.2.2.2.1.1 > (999999999 : Int)))
  bif x6 then (
  some ((), (((0 : Int), ((0 : Int), ((0 : Int), ((0 : Int), ((0 : Int), ((0 : Int), ((0 : Int), ((0 : Int), ())))))))), (((1 : Int), ()), ()))))
  else (
  let x7 : Bool := (decide (d.2.2.2.2.1.1 < (-1439 : Int)))
  bif x7 then (
  some ((), (((0 : Int), ((0 : Int), ((0 : Int), ((0 : Int), ((0 : Int), ((0 : Int), ((0 : Int), ((0 : Int), ())))))))), (((1 : Int), ()), ()))))
  else (
  let x8 : Bool := (decide (d.2.2.2.2.1.1 > (1439 : Int)))
  bif x8 then (
  some ((), (((0 : Int), ((0 : Int), ((0 : Int), ((0 : Int), ((0 : Int), ((0 : Int), ((0 : Int), ((0 : Int), ())))))))), (((1 : Int), ()), ()))))
  else (
  let x9 : Int := (Int.tmod d.2.2.1.1 (60 : Int))
  let x10 : Int := (iquo .i64 d.2.2.1.1 (60 : Int))
  let x11 : Bool := (d.2.2.1.1 == (86400 : Int))
  bif x11 then (
  let x12 : Int := (iadd .i64 (1439 : Int) d.2.2.2.2.1.1)
  let x13 : Bool := (decide (x12 < (0 : Int)))
  bif x13 then (
  let x14 : Int := (iadd .i64 x12 (1440 : Int))
  let x15 : Int := (isub .i64 d.2.1.1 (1 : Int))
  let x16 : Bool := (decide (x14 ≥ (1440 : Int)))
  bif x16 then (
  let x17 : Int := (isub .i64 x14 (1440 : Int))
  let x18 : Int := (iadd .i64 x15 (1 : Int))
  (T.1 ((((0 : Int), ((0 : Int), ((0 : Int), ((0 : Int), ((0 : Int), ((0 : Int), ((0 : Int), ((0 : Int), ())))))))), (((0 : Int), ((0 : Int), ((0 : Int), ((0 : Int), ((0 : Int), ((60 : Int), (d.2.2.2.1.1, (d.2.2.2.2.1.1, ())))))))), ())), ((x18, ()), ((), ((), ((x17, ()), ())))))))
  else (
  (T.1 ((((0 : Int), ((0 : Int), ((0 : Int), ((0 : Int), ((0 : Int), ((0 : Int), ((0 : Int), ((0 : Int), ())))))))), (((0 : Int), ((0 : Int), ((0 : Int), ((0 : Int), ((0 : Int), ((60 : Int), (d.2.2.2.1.1, (d.2.2.2.2.1.1, ())))))))), ())), ((x15, ()), ((), ((), ((x14, ()), ()))))))))
  else (
  let x19 : Bool := (decide (x12 ≥ (1440 : Int)))
  bif x19 then (
  let x20 : Int := (isub .i64 x12 (1440 : Int))
  let x21 : Int := (iadd .i64 d.2.1.1 (1 : Int))
  (T.1 ((((0 : Int), ((0 : Int), ((0 : Int), ((0 : Int), ((0 : Int), ((0 : Int), ((0 : Int), ((0 : Int), ())))))))), (((0 : Int), ((0 : Int), ((0 : Int), ((0 : Int), ((0 : Int), ((60 : Int), (d.2.2.2.1.1, (d.2.2.2.2.1.1, ())))))))), ())), ((x21, ()), ((), ((), ((x20, ()), ())))))))
  else (
  (T.1 ((((0 : Int), ((0 : Int), ((0 : Int), ((0 : Int), ((0 : Int), ((0 : Int), ((0 : Int), ((0 : Int), ())))))))), (((0 : Int), ((0 : Int), ((0 : Int), ((0 : Int), ((0 : Int), ((60 : Int), (d.2.2.2.1.1, (d.2.2.2.2.1.1, ())))))))), ())), ((d.2.1.1, ()), ((), ((), ((x12, ()), ())))))))))
  else (
  let x22 : Int := (iadd .i64 x10 d.2.2.2.2.1.1)
  let x23 : Bool := (decide (x22 < (0 : Int)))
  bif x23 then (
  let x24 : Int := (iadd .i64 x22 (1440 : Int))
  let x25 : Int := (isub .i64 d.2.1.1 (1 : Int))
  let x26 : Bool := (decide (x24 ≥ (1440 : Int)))
  bif x26 then (
  let x27 : Int := (isub .i64 x24 (1440 : Int))
  let x28 : Int := (iadd .i64 x25 (1 : Int))
  (T.1 ((((0 : Int), ((0 : Int), ((0 : Int), ((0 : Int), ((0 : Int), ((0 : Int), ((0 : Int), ((0 : Int), ())))))))), (((0 : Int), ((0 : Int), ((0 : Int), ((0 : Int), ((0 : Int), (x9, (d.2.2.2.1.1, (d.2.2.2.2.1.1, ())))))))), ())), ((x28, ()), ((), ((), ((x27, ()), ())))))))
  else (
  (T.1 ((((0 : Int), ((0 : Int), ((0 : Int), ((0 : Int), ((0 : Int), ((0 : Int), ((0 : Int), ((0 : Int), ())))))))), (((0 : Int), ((0 : Int), ((0 : Int), ((0 : Int), ((0 : Int), (x9, (d.2.2.2.1.1, (d.2.2.2.2.1.1, ())))))))), ())), ((x25, ()), ((), ((), ((x24, ()), ()))))))))
  else (
  let x29 : Bool := (decide (x22 ≥ (1440 : Int)))
  bif x29 then (
  let x30 : Int := (isub .i64 x22 (1440 : Int))
  let x31 : Int := (iadd .i64 d.2.1.1 (1 : Int))
  (T.1 ((((0 : Int), ((0 : Int), ((0 : Int), ((0 : Int), ((0 : Int), ((0 : Int), ((0 : Int), ((0 : Int), ())))))))), (((0 : Int), ((0 : Int), ((0 : Int), ((0 : Int), ((0 : Int), (x9, (d.2.2.2.1.1, (d.2.2.2.2.1.1, ())))))))), ())), ((x31, ()), ((), ((), ((x30, ()), ())))))))
  else (
  (T.1 ((((0 : Int), ((0 : Int), ((0 : Int), ((0 : Int), ((0 : Int), ((0 : Int), ((0 : Int), ((0 : Int), ())))))))), (((0 : Int), ((0 : Int), ((0 : Int), ((0 : Int), ((0 : Int), (x9, (d.2.2.2.1.1, (d.2.2.2.2.1.1, ())))))))), ())), ((d.2.1.1, ()), ((), ((), ((x22, ()), ()))))))))))))))))
def c_ref08_Of : List Nat := [16]
def L_ref08_Of (k : Nat) : Pts po_ref08_Of.den := [(16, ⟨sh_ref08_Of_16, (f_ref08_Of_t k).1⟩)]
def R_ref08_Of (_ : Nat) : PtsR po_ref08_Of.den := []
def E_ref08_Of : Env := ((E0.add 37 (typedSem pi_ref05_Date po_ref05_Date g_ref05_Date)).add 109 (typedSem pi_ref08_There po_ref08_There g_ref08_There))
theorem q_ref08_Of_16 (k : Nat) (d : ((Int × (Int × (Int × (Int × (Int × (Int × (Int × (Int × Unit)))))))) × ((Int × (Int × (Int × (Int × (Int × (Int × (Int × (Int × Unit)))))))) × Unit)) × ((Int × Unit) × (Unit × (Unit × ((Int × Unit) × Unit))))) : evAt E_ref08_Of (tb (L_ref08_Of k) (R_ref08_Of k)) c_ref08_Of 16 (bodyOf Try.f81) 0 (finK E_ref08_Of po_ref08_Of [.cell 8 64, .tmp 9]) (ptSt sh_ref08_Of_16 d) = f_ref08_Of_p16 (f_ref08_Of_t k) d := by kernel_rfl
theorem q_ref08_Of_m (k : Nat) (d : Unit × ((Int × Unit) × ((Int × Unit) × ((Int × Unit) × ((Int × Unit) × Unit))))) : evCode E_ref08_Of (tb (L_ref08_Of k) (R_ref08_Of k)) c_ref08_Of (bodyOf Try.f81) 0 (finK E_ref08_Of po_ref08_Of [.cell 8 64, .tmp 9]) (startSt pi_ref08_Of 84 d) = f_ref08_Of_m (f_ref08_Of_t k) d := by kernel_rfl
theorem go_ref08_Of (F : Unit × ((Int × Unit) × ((Int × Unit) × ((Int × Unit) × ((Int × Unit) × Unit)))) → Option (Unit × ((Int × (Int × (Int × (Int × (Int × (Int × (Int × (Int × Unit)))))))) × ((Int × Unit) × Unit)))) (hF : ∀ d out, F d = some out → ∃ k, f_ref08_Of_m (f_ref08_Of_t k) d = some out) : FnOk Try.prog ET0 81 pi_ref08_Of po_ref08_Of F :=
  fn_of_body (E := E_ref08_Of) (envOk_add (envOk_add e0_ok (typed_ok ok_ref05_Date)) (typed_ok ok_ref08_There)) (fn := Try.f81) Try.func81 (by kernel_rfl) (by kernel_rfl) [.cell 8 64, .tmp 9] (by kernel_rfl) (by kernel_rfl) (by decide) rfl c_ref08_Of L_ref08_Of R_ref08_Of
    (by intro x hx d; simp only [L_ref08_Of, List.mem_cons, List.not_mem_nil, or_false] at hx; subst hx; rfl)
    (by intro k x hx d out h; simp only [L_ref08_Of, List.mem_cons, List.not_mem_nil, or_false] at hx; subst hx; exact (q_ref08_Of_16 k d).trans h)
    (by intro x hx; cases hx)
    (by intro k x hx; cases hx)
    (by intro d out h; obtain ⟨k, hk⟩ := hF d out h; exact ⟨k, (q_ref08_Of_m k d).trans hk⟩)
def g_ref08_Of (d : Unit × ((Int × Unit) × ((Int × Unit) × ((Int × Unit) × ((Int × Unit) × Unit))))) : Option (Unit × ((Int × (Int × (Int × (Int × (Int × (Int × (Int × (Int × Unit)))))))) × ((Int × Unit) × Unit))) := lim fun k => f_ref08_Of_m (f_ref08_Of_t k) d
theorem ok_ref08_Of : FnOk Try.prog ET0 81 pi_ref08_Of po_ref08_Of g_ref08_Of := go_ref08_Of g_ref08_Of fun d out h => lim_some h

/- horologe/horologeref12.FromPosix -/
@[reducible] def pi_ref12_FromPosix : PSh := ⟨[], [.mk false [.v (.int .i64)], .mk false [.v (.int .i64)], .mk false [.v (.int .i64)]]⟩
@[reducible] def po_ref12_FromPosix : PSh := ⟨[], [.mk true [.v (.int .i64), .v (.int .i64), .v (.int .i64), .v (.int .i64), .v (.int .i64), .v (.int .i64), .v (.int .i64), .v (.int .i64)], .mk false [.v (.int .i64)]]⟩
def f_ref12_FromPosix_m (T : Unit) (d : Unit × ((Int × Unit) × ((Int × Unit) × ((Int × Unit) × Unit)))) : Option (Unit × ((Int × (Int × (Int × (Int × (Int × (Int × (Int × (Int × Unit)))))))) × ((Int × Unit) × Unit))) :=
  let x1 : Int := (iquo .i64 d.2.1.1 (86400 : Int))
  let x2 : Int := (Int.tmod d.2.1.1 (86400 : Int))
  let x3 : Bool := (decide (x2 < (0 : Int)))
  bif x3 then (
  let x4 : Int := (iadd .i64 x2 (86400 : Int))
  let x5 : Int := (isub .i64 x1 (1 : Int))
  (g_ref08_Of ((), ((x5, ()), ((x4, ()), ((d.2.2.1.1, ()), ((d.2.2.2.1.1, ()), ())))))).bind fun x6 =>
  some ((), ((x6.2.1.1, (x6.2.1.2.1, (x6.2.1.2.2.1, (x6.2.1.2.2.2.1, (x6.2.1.2.2.2.2.1, (x6.2.1.2.2.2.2.2.1, (x6.2.1.2.2.2.2.2.2.1, (x6.2.1.2.2.2.2.2.2.2.1, ())))))))), ((x6.2.2.1.1, ()), ()))))
  else (
  (g_ref08_Of ((), ((x1, ()), ((x2, ()), ((d.2.2.1.1, ()), ((d.2.2.2.1.1, ()), ())))))).bind fun x7 =>
  some ((), ((x7.2.1.1, (x7.2.1.2.1, (x7.2.1.2.2.1, (x7.2.1.2.2.2.1, (x7.2.1.2.2.2.2.1, (x7.2.1.2.2.2.2.2.1, (x7.2.1.2.2.2.2.2.2.1, (x7.2.1.2.2.2.2.2.2.2.1, ())))))))), ((x7.2.2.1.1, ()), ()))))
def c_ref12_FromPosix : List Nat := []
def L_ref12_FromPosix (_ : Nat) : Pts po_ref12_FromPosix.den := []
def R_ref12_FromPosix (_ : Nat) : PtsR po_ref12_FromPosix.den := []
def E_ref12_FromPosix : Env := (E0.add 81 (typedSem pi_ref08_Of po_ref08_Of g_ref08_Of))
theorem q_ref12_FromPosix_m (k : Nat) (d : Unit × ((Int × Unit) × ((Int × Unit) × ((Int × Unit) × Unit)))) : evCode E_ref12_FromPosix (tb (L_ref12_FromPosix k) (R_ref12_FromPosix k)) c_ref12_FromPosix (bodyOf Try.f53) 0 (finK E_ref12_FromPosix po_ref12_FromPosix [.cell 6 64, .tmp 7]) (startSt pi_ref12_FromPosix 27 d) = f_ref12_FromPosix_m () d := by kernel_rfl
def g_ref12_FromPosix (d : Unit × ((Int × Unit) × ((Int × Unit) × ((Int × Unit) × Unit)))) : Option (Unit × ((Int × (Int × (Int × (Int × (Int × (Int × (Int × (Int × Unit)))))))) × ((Int × Unit) × Unit))) := f_ref12_FromPosix_m () d
theorem ok_ref12_FromPosix : FnOk Try.prog ET0 53 pi_ref12_FromPosix po_ref12_FromPosix g_ref12_FromPosix :=
  fn_of_body (E := E_ref12_FromPosix) (envOk_add e0_ok (typed_ok ok_ref08_Of)) (fn := Try.f53) Try.func53 (by kernel_rfl) (by kernel_rfl) [.cell 6 64, .tmp 7] (by kernel_rfl) (by kernel_rfl) (by decide) rfl c_ref12_FromPosix L_ref12_FromPosix R_ref12_FromPosix
    (by intro x hx; cases hx) (by intro k x hx; cases hx) (by intro x hx; cases hx) (by intro k x hx; cases hx) (fun d out h => ⟨0, (q_ref12_FromPosix_m 0 d).trans h⟩)

/- horologe/horologeref27.Label -/
@[reducible] def pi_ref27_Label : PSh := ⟨[], [.mk false [.v (.sl (.int .u8))], .mk false [.v (.int .i64)]]⟩
@[reducible] def po_ref27_Label : PSh := ⟨[], [.mk true [.v (.int .i64), .v (.int .i64), .v (.int .i64), .v (.int .i64), .v (.int .i64), .v (.int .i64), .v (.int .i64), .v (.int .i64)], .mk false [.v (.int .i64)]]⟩
def f_ref27_Label_m (T : Unit) (d : Unit × (((List Int) × Unit) × ((Int × Unit) × Unit))) : Option (Unit × ((Int × (Int × (Int × (Int × (Int × (Int × (Int × (Int × Unit)))))))) × ((Int × Unit) × Unit))) :=
  (g_ref27_Near ((), ((d.2.1.1, ()), ((d.2.2.1.1, ()), ())))).bind fun x1 =>
  let x2 : Bool := (x1.2.2.1.1 != (0 : Int))
  bif x2 then (
  some ((), (((0 : Int), ((0 : Int), ((0 : Int), ((0 : Int), ((0 : Int), ((0 : Int), ((0 : Int), ((0 : Int), ())))))))), ((x1.2.2.1.1, ()), ()))))
  else (
  (g_ref12_FromPosix ((), ((x1.2.1.1, ()), (((0 : Int), ()), (((0 : Int), ()), ()))))).bind fun x3 =>
  some ((), ((x3.2.1.1, (x3.2.1.2.1, (x3.2.1.2.2.1, (x3.2.1.2.2.2.1, (x3.2.1.2.2.2.2.1, (x3.2.1.2.2.2.2.2.1, (x3.2.1.2.2.2.2.2.2.1, (x3.2.1.2.2.2.2.2.2.2.1, ())))))))), ((x3.2.2.1.1, ()), ()))))
def c_ref27_Label : List Nat := []
def L_ref27_Label (_ : Nat) : Pts po_ref27_Label.den := []
def R_ref27_Label (_ : Nat) : PtsR po_ref27_Label.den := []
def E_ref27_Label : Env := ((E0.add 21 (typedSem pi_ref27_Near po_ref27_Near g_ref27_Near)).add 53 (typedSem pi_ref12_FromPosix po_ref12_FromPosix g_ref12_FromPosix))
theorem q_ref27_Label_m (k : Nat) (d : Unit × (((List Int) × Unit) × ((Int × Unit) × Unit))) : evCode E_ref27_Label (tb (L_ref27_Label k) (R_ref27_Label k)) c_ref27_Label (bodyOf Try.f22) 0 (finK E_ref27_Label po_ref27_Label [.cell 4 64, .tmp 5]) (startSt pi_ref27_Label 22 d) = f_ref27_Label_m () d := by kernel_rfl
def g_ref27_Label (d : Unit × (((List Int) × Unit) × ((Int × Unit) × Unit))) : Option (Unit × ((Int × (Int × (Int × (Int × (Int × (Int × (Int × (Int × Unit)))))))) × ((Int × Unit) × Unit))) := f_ref27_Label_m () d
theorem ok_ref27_Label : FnOk Try.prog ET0 22 pi_ref27_Label po_ref27_Label g_ref27_Label :=
  fn_of_body (E := E_ref27_Label) (envOk_add (envOk_add e0_ok (typed_ok ok_ref27_Near)) (typed_ok ok_ref12_FromPosix)) (fn := Try.f22) Try.func22 (by kernel_rfl) (by kernel_rfl) [.cell 4 64, .tmp 5] (by kernel_rfl) (by kernel_rfl) (by decide) rfl c_ref27_Label L_ref27_Label R_ref27_Label
    (by intro x hx; cases hx) (by intro k x hx; cases hx) (by intro x hx; cases hx) (by intro k x hx; cases hx) (fun d out h => ⟨0, (q_ref27_Label_m 0 d).trans h⟩)

/- horologe/horologeref02.Raw -/
@[reducible] def pi_ref02_Raw : PSh := ⟨[], [.mk false [.v (.int .i64)], .mk false [.v (.int .i64)]]⟩
@[reducible] def po_ref02_Raw : PSh := ⟨[], [.mk false [.v .str]]⟩
@[reducible] def TT_ref02_Raw : Type := (((Unit × ((Int × Unit) × ((Int × Unit) × ((ByteArray × Unit) × Unit)))) → Option (Unit × ((ByteArray × Unit) × Unit))) × (((Unit × ((Int × Unit) × ((ByteArray × Unit) × Unit))) → Option (Unit × ((ByteArray × Unit) × Unit))) × Unit))
@[reducible] def sh_ref02_Raw_3 : PSh := ⟨[], [.mk false [.v (.int .i64)], .mk false [.v (.int .i64)], .any, .any, .any, .mk false [.v .str], .any, .any, .any, .any, .any, .any, .any, .any, .any, .any, .any, .any, .any, .any, .any, .any, .any, .any, .any, .any, .any, .any, .any, .any]⟩
@[reducible] def sh_ref02_Raw_8 : PSh := ⟨[], [.any, .mk false [.v (.int .i64)], .any, .any, .any, .mk false [.v .str], .any, .any, .any, .any, .any, .any, .any, .any, .any, .any, .any, .any, .any, .any, .any, .any, .any, .any, .any, .any, .any, .any, .any, .any]⟩
def f_ref02_Raw_p3 (T : TT_ref02_Raw) (d : Unit × ((Int × Unit) × ((Int × Unit) × ((ByteArray × Unit) × Unit)))) : Option (Unit × ((ByteArray × Unit) × Unit)) :=
  let x1 : Bool := (decide (d.2.1.1 > (0 : Int)))
  bif x1 then (
  let x2 : Int := (Int.tmod d.2.1.1 (10 : Int))
  let x3 : Int := (iadd .i64 (48 : Int) x2)
  let x4 : Int := (iconv .u8 x3)
  let x5 : (List Int) := ([x4] : List Int)
  let x6 : ByteArray := (strOf x5)
  bif fitsS x6 d.2.2.2.1.1 then (
  let x7 : ByteArray := (x6 ++ d.2.2.2.1.1)
  let x8 : Int := (iquo .i64 d.2.1.1 (10 : Int))
  (T.1 ((), ((x8, ()), ((d.2.2.1.1, ()), ((x7, ()), ()))))))
  else none)
  else (
  (T.2.1 ((), ((d.2.2.1.1, ()), ((d.2.2.2.1.1, ()), ())))))
def f_ref02_Raw_p8 (T : TT_ref02_Raw) (d : Unit × ((Int × Unit) × ((ByteArray × Unit) × Unit))) : Option (Unit × ((ByteArray × Unit) × Unit)) :=
  let x9 : Int := (d.2.2.1.1.size : Int)
  let x10 : Bool := (decide (x9 < d.2.1.1))
  bif x10 then (
  bif fitsS (⟨#[48]⟩ : ByteArray) d.2.2.1.1 then (
  let x11 : ByteArray := ((⟨#[48]⟩ : ByteArray) ++ d.2.2.1.1)
  (T.2.1 ((), ((d.2.1.1, ()), ((x11, ()), ())))))
  else none)
  else (
  let x12 : Int := (d.2.2.1.1.size : Int)
  let x13 : Bool := (x12 == (0 : Int))
  bif x13 then (
  bif fitsS (⟨#[48]⟩ : ByteArray) d.2.2.1.1 then (
  let x14 : ByteArray := ((⟨#[48]⟩ : ByteArray) ++ d.2.2.1.1)
  (T.2.1 ((), ((d.2.1.1, ()), ((x14, ()), ())))))
  else none)
  else (
  some ((), ((d.2.2.1.1, ()), ()))))
def f_ref02_Raw_t : Nat → TT_ref02_Raw
  | 0 => (fun _ => none, (fun _ => none, ()))
  | k + 1 => (f_ref02_Raw_p3 (f_ref02_Raw_t k), (f_ref02_Raw_p8 (f_ref02_Raw_t k), ()))
theorem t_ref02_Raw (k : Nat) : f_ref02_Raw_t (k + 1) = (f_ref02_Raw_p3 (f_ref02_Raw_t k), (f_ref02_Raw_p8 (f_ref02_Raw_t k), ())) := rfl
def f_ref02_Raw_m (T : TT_ref02_Raw) (d : Unit × ((Int × Unit) × ((Int × Unit) × Unit))) : Option (Unit × ((ByteArray × Unit) × Unit)) :=
  (T.1 ((), ((d.2.1.1, ()), ((d.2.2.1.1, ()), (((⟨#[]⟩ : ByteArray), ()), ())))))
def c_ref02_Raw : List Nat := []
def L_ref02_Raw (k : Nat) : Pts po_ref02_Raw.den := [(3, ⟨sh_ref02_Raw_3, (f_ref02_Raw_t k).1⟩), (8, ⟨sh_ref02_Raw_8, (f_ref02_Raw_t k).2.1⟩)]
def R_ref02_Raw (_ : Nat) : PtsR po_ref02_Raw.den := []
def E_ref02_Raw : Env := E0
theorem q_ref02_Raw_3 (k : Nat) (d : Unit × ((Int × Unit) × ((Int × Unit) × ((ByteArray × Unit) × Unit)))) : evAt E_ref02_Raw (tb (L_ref02_Raw k) (R_ref02_Raw k)) c_ref02_Raw 3 (bodyOf Try.f83) 0 (finK E_ref02_Raw po_ref02_Raw [.tmp 4]) (ptSt sh_ref02_Raw_3 d) = f_ref02_Raw_p3 (f_ref02_Raw_t k) d := by kernel_rfl
theorem q_ref02_Raw_8 (k : Nat) (d : Unit × ((Int × Unit) × ((ByteArray × Unit) × Unit))) : evAt E_ref02_Raw (tb (L_ref02_Raw k) (R_ref02_Raw k)) c_ref02_Raw 8 (bodyOf Try.f83) 0 (finK E_ref02_Raw po_ref02_Raw [.tmp 4]) (ptSt sh_ref02_Raw_8 d) = f_ref02_Raw_p8 (f_ref02_Raw_t k) d := by kernel_rfl
theorem q_ref02_Raw_m (k : Nat) (d : Unit × ((Int × Unit) × ((Int × Unit) × Unit))) : evCode E_ref02_Raw (tb (L_ref02_Raw k) (R_ref02_Raw k)) c_ref02_Raw (bodyOf Try.f83) 0 (finK E_ref02_Raw po_ref02_Raw [.tmp 4]) (startSt pi_ref02_Raw 30 d) = f_ref02_Raw_m (f_ref02_Raw_t k) d := by kernel_rfl
theorem go_ref02_Raw (F : Unit × ((Int × Unit) × ((Int × Unit) × Unit)) → Option (Unit × ((ByteArray × Unit) × Unit))) (hF : ∀ d out, F d = some out → ∃ k, f_ref02_Raw_m (f_ref02_Raw_t k) d = some out) : FnOk Try.prog ET0 83 pi_ref02_Raw po_ref02_Raw F :=
  fn_of_body (E := E_ref02_Raw) e0_ok (fn := Try.f83) Try.func83 (by kernel_rfl) (by kernel_rfl) [.tmp 4] (by kernel_rfl) (by kernel_rfl) (by decide) rfl c_ref02_Raw L_ref02_Raw R_ref02_Raw
    (by intro x hx d; simp only [L_ref02_Raw, List.mem_cons, List.not_mem_nil, or_false] at hx; rcases hx with rfl | rfl; rfl; rfl)
    (by intro k x hx d out h; simp only [L_ref02_Raw, List.mem_cons, List.not_mem_nil, or_false] at hx; rcases hx with rfl | rfl; exact (q_ref02_Raw_3 k d).trans h; exact (q_ref02_Raw_8 k d).trans h)
    (by intro x hx; cases hx)
    (by intro k x hx; cases hx)
    (by intro d out h; obtain ⟨k, hk⟩ := hF d out h; exact ⟨k, (q_ref02_Raw_m k d).trans hk⟩)
def g_ref02_Raw (d : Unit × ((Int × Unit) × ((Int × Unit) × Unit))) : Option (Unit × ((ByteArray × Unit) × Unit)) := lim fun k => f_ref02_Raw_m (f_ref02_Raw_t k) d
theorem ok_ref02_Raw : FnOk Try.prog ET0 83 pi_ref02_Raw po_ref02_Raw g_ref02_Raw := go_ref02_Raw g_ref02_Raw fun d out h => lim_some h

/- horologe/horologeref24.Date -/
@[reducible] def pi_ref24_Date : PSh := ⟨[], [.mk false [.v (.int .i64)], .mk false [.v (.int .i64)], .mk false [.v (.int .i64)]]⟩
@[reducible] def po_ref24_Date : PSh := ⟨[], [.mk false [.v .str]]⟩
def f_ref24_Date_m (T : Unit) (d : Unit × ((Int × Unit) × ((Int × Unit) × ((Int × Unit) × Unit)))) : Option (Unit × ((ByteArray × Unit) × Unit)) :=
  (g_ref02_Raw ((), ((d.2.1.1, ()), (((4 : Int), ()), ())))).bind fun x1 =>
  bif fitsS x1.2.1.1 (⟨#[45]⟩ : ByteArray) then (
  let x2 : ByteArray := (x1.2.1.1 ++ (⟨#[45]⟩ : ByteArray))
  (g_ref02_Raw ((), ((d.2.2.1.1, ()), (((2 : Int), ()), ())))).bind fun x3 =>
  bif fitsS x2 x3.2.1.1 then (
  let x4 : ByteArray := (x2 ++ x3.2.1.1)
  bif fitsS x4 (⟨#[45]⟩ : ByteArray) then (
  let x5 : ByteArray := (x4 ++ (⟨#[45]⟩ : ByteArray))
  (g_ref02_Raw ((), ((d.2.2.2.1.1, ()), (((2 : Int), ()), ())))).bind fun x6 =>
  bif fitsS x5 x6.2.1.1 then (
  let x7 : ByteArray := (x5 ++ x6.2.1.1)
  some ((), ((x7, ()), ())))
  else none)
  else none)
  else none)
  else none
def c_ref24_Date : List Nat := []
def L_ref24_Date (_ : Nat) : Pts po_ref24_Date.den := []
def R_ref24_Date (_ : Nat) : PtsR po_ref24_Date.den := []
def E_ref24_Date : Env := (E0.add 83 (typedSem pi_ref02_Raw po_ref02_Raw g_ref02_Raw))
theorem q_ref24_Date_m (k : Nat) (d : Unit × ((Int × Unit) × ((Int × Unit) × ((Int × Unit) × Unit)))) : evCode E_ref24_Date (tb (L_ref24_Date k) (R_ref24_Date k)) c_ref24_Date (bodyOf Try.f82) 0 (finK E_ref24_Date po_ref24_Date [.tmp 6]) (startSt pi_ref24_Date 17 d) = f_ref24_Date_m () d := by kernel_rfl
def g_ref24_Date (d : Unit × ((Int × Unit) × ((Int × Unit) × ((Int × Unit) × Unit)))) : Option (Unit × ((ByteArray × Unit) × Unit)) := f_ref24_Date_m () d
theorem ok_ref24_Date : FnOk Try.prog ET0 82 pi_ref24_Date po_ref24_Date g_ref24_Date :=
  fn_of_body (E := E_ref24_Date) (envOk_add e0_ok (typed_ok ok_ref02_Raw)) (fn := Try.f82) Try.func82 (by kernel_rfl) (by kernel_rfl) [.tmp 6] (by kernel_rfl) (by kernel_rfl) (by decide) rfl c_ref24_Date L_ref24_Date R_ref24_Date
    (by intro x hx; cases hx) (by intro k x hx; cases hx) (by intro x hx; cases hx) (by intro k x hx; cases hx) (fun d out h => ⟨0, (q_ref24_Date_m 0 d).trans h⟩)
end
end Go.Proofs.Ytddnfappkfiidaa.Ev
