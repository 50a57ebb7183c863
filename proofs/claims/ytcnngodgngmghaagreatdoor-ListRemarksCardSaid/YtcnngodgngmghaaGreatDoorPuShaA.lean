/- SHA-1: the program's way, plain. Printed by wip/tools/gensha.py. -/
import Derived.Test.YtcnngodgngmghaaGreatDoorPuStr
import Derived.Test.YtcnngodgngmghaaGreatDoorPuClone
import Derived.Test.YtcnngodgngmghaaGreatDoorPuPutU32
import Derived.Test.YtcnngodgngmghaaGreatDoorPuPutU64
import Derived.Test.YtcnngodgngmghaaGreatDoorPuChunk
namespace Go.Proofs.YtcnngodgngmghaaGreatDoor.Ev
open Go
set_option linter.unusedVariables false
set_option linter.unusedSimpArgs false
set_option maxRecDepth 100000
abbrev W5 : Type := Int × (Int × (Int × (Int × (Int × Unit))))
abbrev T20 : Type := Int × (Int × (Int × (Int × (Int × (Int × (Int × (Int × (Int × (Int × (Int × (Int × (Int × (Int × (Int × (Int × (Int × (Int × (Int × (Int × (Unit))))))))))))))))))))
abbrev T64 : Type := Int × (Int × (Int × (Int × (Int × (Int × (Int × (Int × (Int × (Int × (Int × (Int × (Int × (Int × (Int × (Int × (Int × (Int × (Int × (Int × (Int × (Int × (Int × (Int × (Int × (Int × (Int × (Int × (Int × (Int × (Int × (Int × (Int × (Int × (Int × (Int × (Int × (Int × (Int × (Int × (Int × (Int × (Int × (Int × (Int × (Int × (Int × (Int × (Int × (Int × (Int × (Int × (Int × (Int × (Int × (Int × (Int × (Int × (Int × (Int × (Int × (Int × (Int × (Int × (Unit))))))))))))))))))))))))))))))))))))))))))))))))))))))))))))))))
abbrev T80 : Type := Int × (Int × (Int × (Int × (Int × (Int × (Int × (Int × (Int × (Int × (Int × (Int × (Int × (Int × (Int × (Int × (Int × (Int × (Int × (Int × (Int × (Int × (Int × (Int × (Int × (Int × (Int × (Int × (Int × (Int × (Int × (Int × (Int × (Int × (Int × (Int × (Int × (Int × (Int × (Int × (Int × (Int × (Int × (Int × (Int × (Int × (Int × (Int × (Int × (Int × (Int × (Int × (Int × (Int × (Int × (Int × (Int × (Int × (Int × (Int × (Int × (Int × (Int × (Int × (Int × (Int × (Int × (Int × (Int × (Int × (Int × (Int × (Int × (Int × (Int × (Int × (Int × (Int × (Int × (Int × (Unit))))))))))))))))))))))))))))))))))))))))))))))))))))))))))))))))))))))))))))))))
def t20 (l : List Int) : T20 := (gd (.int .u8) l (0 : Int), (gd (.int .u8) l (1 : Int), (gd (.int .u8) l (2 : Int), (gd (.int .u8) l (3 : Int), (gd (.int .u8) l (4 : Int), (gd (.int .u8) l (5 : Int), (gd (.int .u8) l (6 : Int), (gd (.int .u8) l (7 : Int), (gd (.int .u8) l (8 : Int), (gd (.int .u8) l (9 : Int), (gd (.int .u8) l (10 : Int), (gd (.int .u8) l (11 : Int), (gd (.int .u8) l (12 : Int), (gd (.int .u8) l (13 : Int), (gd (.int .u8) l (14 : Int), (gd (.int .u8) l (15 : Int), (gd (.int .u8) l (16 : Int), (gd (.int .u8) l (17 : Int), (gd (.int .u8) l (18 : Int), (gd (.int .u8) l (19 : Int), ()))))))))))))))))))))
def t64 (l : List Int) : T64 := (gd (.int .u8) l (0 : Int), (gd (.int .u8) l (1 : Int), (gd (.int .u8) l (2 : Int), (gd (.int .u8) l (3 : Int), (gd (.int .u8) l (4 : Int), (gd (.int .u8) l (5 : Int), (gd (.int .u8) l (6 : Int), (gd (.int .u8) l (7 : Int), (gd (.int .u8) l (8 : Int), (gd (.int .u8) l (9 : Int), (gd (.int .u8) l (10 : Int), (gd (.int .u8) l (11 : Int), (gd (.int .u8) l (12 : Int), (gd (.int .u8) l (13 : Int), (gd (.int .u8) l (14 : Int), (gd (.int .u8) l (15 : Int), (gd (.int .u8) l (16 : Int), (gd (.int .u8) l (17 : Int), (gd (.int .u8) l (18 : Int), (gd (.int .u8) l (19 : Int), (gd (.int .u8) l (20 : Int), (gd (.int .u8) l (21 : Int), (gd (.int .u8) l (22 : Int), (gd (.int .u8) l (23 : Int), (gd (.int .u8) l (24 : Int), (gd (.int .u8) l (25 : Int), (gd (.int .u8) l (26 : Int), (gd (.int .u8) l (27 : Int), (gd (.int .u8) l (28 : Int), (gd (.int .u8) l (29 : Int), (gd (.int .u8) l (30 : Int), (gd (.int .u8) l (31 : Int), (gd (.int .u8) l (32 : Int), (gd (.int .u8) l (33 : Int), (gd (.int .u8) l (34 : Int), (gd (.int .u8) l (35 : Int), (gd (.int .u8) l (36 : Int), (gd (.int .u8) l (37 : Int), (gd (.int .u8) l (38 : Int), (gd (.int .u8) l (39 : Int), (gd (.int .u8) l (40 : Int), (gd (.int .u8) l (41 : Int), (gd (.int .u8) l (42 : Int), (gd (.int .u8) l (43 : Int), (gd (.int .u8) l (44 : Int), (gd (.int .u8) l (45 : Int), (gd (.int .u8) l (46 : Int), (gd (.int .u8) l (47 : Int), (gd (.int .u8) l (48 : Int), (gd (.int .u8) l (49 : Int), (gd (.int .u8) l (50 : Int), (gd (.int .u8) l (51 : Int), (gd (.int .u8) l (52 : Int), (gd (.int .u8) l (53 : Int), (gd (.int .u8) l (54 : Int), (gd (.int .u8) l (55 : Int), (gd (.int .u8) l (56 : Int), (gd (.int .u8) l (57 : Int), (gd (.int .u8) l (58 : Int), (gd (.int .u8) l (59 : Int), (gd (.int .u8) l (60 : Int), (gd (.int .u8) l (61 : Int), (gd (.int .u8) l (62 : Int), (gd (.int .u8) l (63 : Int), ()))))))))))))))))))))))))))))))))))))))))))))))))))))))))))))))))
def t80 (l : List Int) : T80 := (gd (.int .u32) l (0 : Int), (gd (.int .u32) l (1 : Int), (gd (.int .u32) l (2 : Int), (gd (.int .u32) l (3 : Int), (gd (.int .u32) l (4 : Int), (gd (.int .u32) l (5 : Int), (gd (.int .u32) l (6 : Int), (gd (.int .u32) l (7 : Int), (gd (.int .u32) l (8 : Int), (gd (.int .u32) l (9 : Int), (gd (.int .u32) l (10 : Int), (gd (.int .u32) l (11 : Int), (gd (.int .u32) l (12 : Int), (gd (.int .u32) l (13 : Int), (gd (.int .u32) l (14 : Int), (gd (.int .u32) l (15 : Int), (gd (.int .u32) l (16 : Int), (gd (.int .u32) l (17 : Int), (gd (.int .u32) l (18 : Int), (gd (.int .u32) l (19 : Int), (gd (.int .u32) l (20 : Int), (gd (.int .u32) l (21 : Int), (gd (.int .u32) l (22 : Int), (gd (.int .u32) l (23 : Int), (gd (.int .u32) l (24 : Int), (gd (.int .u32) l (25 : Int), (gd (.int .u32) l (26 : Int), (gd (.int .u32) l (27 : Int), (gd (.int .u32) l (28 : Int), (gd (.int .u32) l (29 : Int), (gd (.int .u32) l (30 : Int), (gd (.int .u32) l (31 : Int), (gd (.int .u32) l (32 : Int), (gd (.int .u32) l (33 : Int), (gd (.int .u32) l (34 : Int), (gd (.int .u32) l (35 : Int), (gd (.int .u32) l (36 : Int), (gd (.int .u32) l (37 : Int), (gd (.int .u32) l (38 : Int), (gd (.int .u32) l (39 : Int), (gd (.int .u32) l (40 : Int), (gd (.int .u32) l (41 : Int), (gd (.int .u32) l (42 : Int), (gd (.int .u32) l (43 : Int), (gd (.int .u32) l (44 : Int), (gd (.int .u32) l (45 : Int), (gd (.int .u32) l (46 : Int), (gd (.int .u32) l (47 : Int), (gd (.int .u32) l (48 : Int), (gd (.int .u32) l (49 : Int), (gd (.int .u32) l (50 : Int), (gd (.int .u32) l (51 : Int), (gd (.int .u32) l (52 : Int), (gd (.int .u32) l (53 : Int), (gd (.int .u32) l (54 : Int), (gd (.int .u32) l (55 : Int), (gd (.int .u32) l (56 : Int), (gd (.int .u32) l (57 : Int), (gd (.int .u32) l (58 : Int), (gd (.int .u32) l (59 : Int), (gd (.int .u32) l (60 : Int), (gd (.int .u32) l (61 : Int), (gd (.int .u32) l (62 : Int), (gd (.int .u32) l (63 : Int), (gd (.int .u32) l (64 : Int), (gd (.int .u32) l (65 : Int), (gd (.int .u32) l (66 : Int), (gd (.int .u32) l (67 : Int), (gd (.int .u32) l (68 : Int), (gd (.int .u32) l (69 : Int), (gd (.int .u32) l (70 : Int), (gd (.int .u32) l (71 : Int), (gd (.int .u32) l (72 : Int), (gd (.int .u32) l (73 : Int), (gd (.int .u32) l (74 : Int), (gd (.int .u32) l (75 : Int), (gd (.int .u32) l (76 : Int), (gd (.int .u32) l (77 : Int), (gd (.int .u32) l (78 : Int), (gd (.int .u32) l (79 : Int), ()))))))))))))))))))))))))))))))))))))))))))))))))))))))))))))))))))))))))))))))))
def l64 (l : List Int) : List Int := [gd (.int .u8) l (0 : Int), gd (.int .u8) l (1 : Int), gd (.int .u8) l (2 : Int), gd (.int .u8) l (3 : Int), gd (.int .u8) l (4 : Int), gd (.int .u8) l (5 : Int), gd (.int .u8) l (6 : Int), gd (.int .u8) l (7 : Int), gd (.int .u8) l (8 : Int), gd (.int .u8) l (9 : Int), gd (.int .u8) l (10 : Int), gd (.int .u8) l (11 : Int), gd (.int .u8) l (12 : Int), gd (.int .u8) l (13 : Int), gd (.int .u8) l (14 : Int), gd (.int .u8) l (15 : Int), gd (.int .u8) l (16 : Int), gd (.int .u8) l (17 : Int), gd (.int .u8) l (18 : Int), gd (.int .u8) l (19 : Int), gd (.int .u8) l (20 : Int), gd (.int .u8) l (21 : Int), gd (.int .u8) l (22 : Int), gd (.int .u8) l (23 : Int), gd (.int .u8) l (24 : Int), gd (.int .u8) l (25 : Int), gd (.int .u8) l (26 : Int), gd (.int .u8) l (27 : Int), gd (.int .u8) l (28 : Int), gd (.int .u8) l (29 : Int), gd (.int .u8) l (30 : Int), gd (.int .u8) l (31 : Int), gd (.int .u8) l (32 : Int), gd (.int .u8) l (33 : Int), gd (.int .u8) l (34 : Int), gd (.int .u8) l (35 : Int), gd (.int .u8) l (36 : Int), gd (.int .u8) l (37 : Int), gd (.int .u8) l (38 : Int), gd (.int .u8) l (39 : Int), gd (.int .u8) l (40 : Int), gd (.int .u8) l (41 : Int), gd (.int .u8) l (42 : Int), gd (.int .u8) l (43 : Int), gd (.int .u8) l (44 : Int), gd (.int .u8) l (45 : Int), gd (.int .u8) l (46 : Int), gd (.int .u8) l (47 : Int), gd (.int .u8) l (48 : Int), gd (.int .u8) l (49 : Int), gd (.int .u8) l (50 : Int), gd (.int .u8) l (51 : Int), gd (.int .u8) l (52 : Int), gd (.int .u8) l (53 : Int), gd (.int .u8) l (54 : Int), gd (.int .u8) l (55 : Int), gd (.int .u8) l (56 : Int), gd (.int .u8) l (57 : Int), gd (.int .u8) l (58 : Int), gd (.int .u8) l (59 : Int), gd (.int .u8) l (60 : Int), gd (.int .u8) l (61 : Int), gd (.int .u8) l (62 : Int), gd (.int .u8) l (63 : Int)]
def l80 (l : List Int) : List Int := [gd (.int .u32) l (0 : Int), gd (.int .u32) l (1 : Int), gd (.int .u32) l (2 : Int), gd (.int .u32) l (3 : Int), gd (.int .u32) l (4 : Int), gd (.int .u32) l (5 : Int), gd (.int .u32) l (6 : Int), gd (.int .u32) l (7 : Int), gd (.int .u32) l (8 : Int), gd (.int .u32) l (9 : Int), gd (.int .u32) l (10 : Int), gd (.int .u32) l (11 : Int), gd (.int .u32) l (12 : Int), gd (.int .u32) l (13 : Int), gd (.int .u32) l (14 : Int), gd (.int .u32) l (15 : Int), gd (.int .u32) l (16 : Int), gd (.int .u32) l (17 : Int), gd (.int .u32) l (18 : Int), gd (.int .u32) l (19 : Int), gd (.int .u32) l (20 : Int), gd (.int .u32) l (21 : Int), gd (.int .u32) l (22 : Int), gd (.int .u32) l (23 : Int), gd (.int .u32) l (24 : Int), gd (.int .u32) l (25 : Int), gd (.int .u32) l (26 : Int), gd (.int .u32) l (27 : Int), gd (.int .u32) l (28 : Int), gd (.int .u32) l (29 : Int), gd (.int .u32) l (30 : Int), gd (.int .u32) l (31 : Int), gd (.int .u32) l (32 : Int), gd (.int .u32) l (33 : Int), gd (.int .u32) l (34 : Int), gd (.int .u32) l (35 : Int), gd (.int .u32) l (36 : Int), gd (.int .u32) l (37 : Int), gd (.int .u32) l (38 : Int), gd (.int .u32) l (39 : Int), gd (.int .u32) l (40 : Int), gd (.int .u32) l (41 : Int), gd (.int .u32) l (42 : Int), gd (.int .u32) l (43 : Int), gd (.int .u32) l (44 : Int), gd (.int .u32) l (45 : Int), gd (.int .u32) l (46 : Int), gd (.int .u32) l (47 : Int), gd (.int .u32) l (48 : Int), gd (.int .u32) l (49 : Int), gd (.int .u32) l (50 : Int), gd (.int .u32) l (51 : Int), gd (.int .u32) l (52 : Int), gd (.int .u32) l (53 : Int), gd (.int .u32) l (54 : Int), gd (.int .u32) l (55 : Int), gd (.int .u32) l (56 : Int), gd (.int .u32) l (57 : Int), gd (.int .u32) l (58 : Int), gd (.int .u32) l (59 : Int), gd (.int .u32) l (60 : Int), gd (.int .u32) l (61 : Int), gd (.int .u32) l (62 : Int), gd (.int .u32) l (63 : Int), gd (.int .u32) l (64 : Int), gd (.int .u32) l (65 : Int), gd (.int .u32) l (66 : Int), gd (.int .u32) l (67 : Int), gd (.int .u32) l (68 : Int), gd (.int .u32) l (69 : Int), gd (.int .u32) l (70 : Int), gd (.int .u32) l (71 : Int), gd (.int .u32) l (72 : Int), gd (.int .u32) l (73 : Int), gd (.int .u32) l (74 : Int), gd (.int .u32) l (75 : Int), gd (.int .u32) l (76 : Int), gd (.int .u32) l (77 : Int), gd (.int .u32) l (78 : Int), gd (.int .u32) l (79 : Int)]
def l20 (l : List Int) : List Int := [gd (.int .u8) l (0 : Int), gd (.int .u8) l (1 : Int), gd (.int .u8) l (2 : Int), gd (.int .u8) l (3 : Int), gd (.int .u8) l (4 : Int), gd (.int .u8) l (5 : Int), gd (.int .u8) l (6 : Int), gd (.int .u8) l (7 : Int), gd (.int .u8) l (8 : Int), gd (.int .u8) l (9 : Int), gd (.int .u8) l (10 : Int), gd (.int .u8) l (11 : Int), gd (.int .u8) l (12 : Int), gd (.int .u8) l (13 : Int), gd (.int .u8) l (14 : Int), gd (.int .u8) l (15 : Int), gd (.int .u8) l (16 : Int), gd (.int .u8) l (17 : Int), gd (.int .u8) l (18 : Int), gd (.int .u8) l (19 : Int)]
theorem of_gd8 (b : List Int) : (List.range b.length).map (fun i => gd (.int .u8) b ((i : Nat) : Int)) = b := by
  refine List.ext_getElem (by simp) fun i h1 h2 => ?_
  simp only [List.getElem_map, List.getElem_range, gd, Int.toNat_natCast]
  rw [List.getD_eq_getElem?_getD, List.getElem?_eq_getElem h2]; rfl
theorem of_gd32 (b : List Int) : (List.range b.length).map (fun i => gd (.int .u32) b ((i : Nat) : Int)) = b := by
  refine List.ext_getElem (by simp) fun i h1 h2 => ?_
  simp only [List.getElem_map, List.getElem_range, gd, Int.toNat_natCast]
  rw [List.getD_eq_getElem?_getD, List.getElem?_eq_getElem h2]; rfl
theorem l64_eq {b : List Int} (h : b.length = 64) : l64 b = b := by
  have e := of_gd8 b
  rw [h] at e
  exact e
theorem l80_eq {b : List Int} (h : b.length = 80) : l80 b = b := by
  have e := of_gd32 b
  rw [h] at e
  exact e
theorem l20_eq {b : List Int} (h : b.length = 20) : l20 b = b := by
  have e := of_gd8 b
  rw [h] at e
  exact e
/-! ### turns -/
def rot (k x : Int) : Int := ior .u32 (ishl .u32 x k) (ishr .u32 x (32 - k))
theorem rot_1 (x : Int) : g_math_bits_RotateLeft32 ((), ((x, ()), (((1 : Int), ()), ()))) = some ((), ((rot 1 x, ()), ())) := by kernel_rfl
theorem rot_5 (x : Int) : g_math_bits_RotateLeft32 ((), ((x, ()), (((5 : Int), ()), ()))) = some ((), ((rot 5 x, ()), ())) := by kernel_rfl
theorem rot_30 (x : Int) : g_math_bits_RotateLeft32 ((), ((x, ()), (((30 : Int), ()), ()))) = some ((), ((rot 30 x, ()), ())) := by kernel_rfl
/-! ### the words of a block -/
def wordP (b : List Int) (i : Int) : Int := ior .u32 (ior .u32 (ior .u32 (ishl .u32 (iconv .u32 (gd (.int .u8) b i)) 24) (ishl .u32 (iconv .u32 (gd (.int .u8) b (i + 1))) 16)) (ishl .u32 (iconv .u32 (gd (.int .u8) b (i + 2))) 8)) (iconv .u32 (gd (.int .u8) b (i + 3)))
def nxW (b w : List Int) (t : Nat) : Int :=
  if t < 16 then wordP b (4 * (t : Int)) else rot 1 (ixor .u32 (ixor .u32 (ixor .u32 (gd (.int .u32) w ((t : Int) - 3)) (gd (.int .u32) w ((t : Int) - 8))) (gd (.int .u32) w ((t : Int) - 14))) (gd (.int .u32) w ((t : Int) - 16)))
def schL (b : List Int) : Nat → List Int
  | 0 => []
  | n + 1 => schL b n ++ [nxW b (schL b n) n]
theorem schL_len (b : List Int) : ∀ n, (schL b n).length = n
  | 0 => rfl
  | n + 1 => by simp [schL, schL_len b n]
theorem gd_front {l m : List Int} {i : Int} (h : i.toNat < l.length) : gd (.int .u32) (l ++ m) i = gd (.int .u32) l i := by
  unfold gd
  rw [List.getD_eq_getElem?_getD, List.getD_eq_getElem?_getD, List.getElem?_append_left h]
theorem set_front (l : List Int) (n : Nat) (x : Int) : (l ++ List.replicate (n + 1) (0 : Int)).set l.length x = (l ++ [x]) ++ List.replicate n 0 := by
  simp [List.set_append, List.replicate_succ]
theorem sch_end (T : TT_sha1_schedule) (B Z w : List Int) : f_sha1_schedule_p4 T ((B, (Z, (w, ()))), ((), ((), ((), (((80 : Int), ()), ()))))) =
    bif decide ((80 : Int) ≤ (w.length : Int)) then (bif decide ((Z.length : Int) = (80 : Int)) then some ((), (t80 (l80 w), ())) else none) else none := by kernel_rfl
theorem sch_m (T : TT_sha1_schedule) (b : List Int) : f_sha1_schedule_m T ((), (t64 b, ())) = T.1 ((l64 b, (List.replicate 80 0, (List.replicate 80 0, ()))), ((), ((), ((), (((0 : Int), ()), ()))))) := by kernel_rfl
theorem schL_succ (b : List Int) (n : Nat) : schL b (n + 1) = schL b n ++ [nxW b (schL b n) n] := rfl
attribute [local irreducible] schL in
theorem sch_p4 (b : List Int) (hb : b.length = 64) (Z : List Int) (hZ : Z.length = 80) : ∀ (k t : Nat), t + k = 80 →
    Evn (fun f => (f_sha1_schedule_t f).1 ((b, (Z, (schL b t ++ List.replicate k 0, ()))), ((), ((), ((), (((t : Int), ()), ())))))) ((), (t80 (schL b 80), ())) := by
  intro k
  induction k with
  | zero =>
    intro t ht
    obtain rfl : t = 80 := by omega
    refine Evn.some 1 fun f => ?_
    have hl := schL_len b 80
    generalize schL b 80 = w at *
    simp only [t_sha1_schedule, List.replicate_zero, List.append_nil, show ((80 : Nat) : Int) = 80 from rfl]
    rw [sch_end, hZ, hl, l80_eq hl]; rfl
  | succ k ih =>
    intro t ht
    refine (ih (t + 1) (by omega)).step fun f => ?_
    have hl := schL_len b t
    have hlen : ((schL b t ++ List.replicate (k + 1) (0 : Int)).length : Int) = 80 := by rw [List.length_append, hl, List.length_replicate]; omega
    have hset : ∀ x, (schL b t ++ List.replicate (k + 1) (0 : Int)).set t x = (schL b t ++ [x]) ++ List.replicate k 0 := fun x => by
      have := set_front (schL b t) k x
      rwa [hl] at this
    simp only [t_sha1_schedule, f_sha1_schedule_p4, and_dec, cond_dec, hb, hlen]
    rw [if_pos (by omega)]
    by_cases c : t < 16
    · rw [if_pos (by omega), imul_i64 (by omega), iadd_i64 (by omega), iadd_i64 (by omega), iadd_i64 (by omega), if_pos (by omega), if_pos (by omega), if_pos (by omega), if_pos (by omega), if_pos (by omega), Int.toNat_natCast, hset, iadd_i64 (by omega)]
      have : schL b (t + 1) = schL b t ++ [wordP b (4 * (t : Int))] := by
        rw [schL_succ]
        unfold nxW
        rw [if_pos c]
      rw [this]; rfl
    · rw [if_neg (by omega), isub_i64 (by omega), isub_i64 (by omega), isub_i64 (by omega), isub_i64 (by omega), if_pos (by omega), if_pos (by omega), if_pos (by omega), if_pos (by omega), rot_1]
      simp only [Option.bind_some]
      rw [if_pos (by omega), Int.toNat_natCast, hset, iadd_i64 (by omega), gd_front (by omega), gd_front (by omega), gd_front (by omega), gd_front (by omega)]
      have : schL b (t + 1) = schL b t ++ [rot 1 (ixor .u32 (ixor .u32 (ixor .u32 (gd (.int .u32) (schL b t) ((t : Int) - 3)) (gd (.int .u32) (schL b t) ((t : Int) - 8))) (gd (.int .u32) (schL b t) ((t : Int) - 14))) (gd (.int .u32) (schL b t) ((t : Int) - 16)))] := by
        rw [schL_succ]
        unfold nxW
        rw [if_neg c]
      rw [this]; rfl
theorem sha_schedule (b : List Int) (hb : b.length = 64) : g_sha1_schedule ((), (t64 b, ())) = some ((), (t80 (schL b 80), ())) := by
  refine ((sch_p4 b hb (List.replicate 80 0) (by simp) 80 0 (by omega)).cast fun f => ?_).lim
  rw [sch_m, l64_eq hb]; rfl
/-! ### rounds -/
def mixF (t : Nat) (b c d : Int) : Int × Int :=
  if t / 20 = 0 then (ixor .u32 d (iand .u32 b (ixor .u32 c d)), 1518500249)
  else if t / 20 = 1 then (ixor .u32 (ixor .u32 b c) d, 1859775393)
  else if t / 20 = 2 then (ior .u32 (iand .u32 b c) (iand .u32 d (ior .u32 b c)), 2400959708)
  else (ixor .u32 (ixor .u32 b c) d, 3395469782)
theorem sha_mix (t : Nat) (ht : t < 80) (b c d : Int) : g_sha1_mix ((), (((t : Int), ()), ((b, ()), ((c, ()), ((d, ()), ()))))) = some ((), (((mixF t b c d).1, ()), (((mixF t b c d).2, ()), ()))) := by
  have e : iquo .i64 (t : Int) 20 = ((t / 20 : Nat) : Int) := by
    unfold iquo
    rw [Int.tdiv_eq_ediv_of_nonneg (by omega)]
    exact IntWalk.i64_in _ (by omega)
  simp only [g_sha1_mix, f_sha1_mix_m, e, beq_int, cond_dec]
  unfold mixF
  by_cases c0 : t / 20 = 0
  · rw [if_pos (by omega), if_pos c0]
  rw [if_neg (by omega), if_neg c0]
  by_cases c1 : t / 20 = 1
  · rw [if_pos (by omega), if_pos c1]
  rw [if_neg (by omega), if_neg c1]
  by_cases c2 : t / 20 = 2
  · rw [if_pos (by omega), if_pos c2]
  rw [if_neg (by omega), if_neg c2]
def rnd (w : List Int) (t : Nat) (s : W5) : W5 :=
  (iadd .u32 (iadd .u32 (iadd .u32 (iadd .u32 (rot 5 s.1) (mixF t s.2.1 s.2.2.1 s.2.2.2.1).1) s.2.2.2.2.1) (mixF t s.2.1 s.2.2.1 s.2.2.2.1).2) (gd (.int .u32) w (t : Int)), (s.1, (rot 30 s.2.1, (s.2.2.1, (s.2.2.2.1, ())))))
def rnds (w : List Int) (s : W5) : Nat → W5
  | 0 => s
  | t + 1 => rnd w t (rnds w s t)
def addW (s r : W5) : W5 := (iadd .u32 s.1 r.1, (iadd .u32 s.2.1 r.2.1, (iadd .u32 s.2.2.1 r.2.2.1, (iadd .u32 s.2.2.2.1 r.2.2.2.1, (iadd .u32 s.2.2.2.2.1 r.2.2.2.2.1, ())))))
theorem step_m (T : TT_sha1_Step) (s : W5) (b : List Int) : f_sha1_Step_m T ((), (s, (t64 b, ()))) =
    bif decide ((64 : Int) ≤ ((l64 b).length : Int)) then ((g_sha1_schedule ((), (t64 (l64 b), ()))).bind fun x2 => T.1 ((s, ((0, (0, (0, (0, (0, ()))))), (s, ()))), ((), ((), ((), (x2.2.1, (((0 : Int), ()), ()))))))) else none := by kernel_rfl
theorem step_p4 (T : TT_sha1_Step) (s z r : W5) (w : List Int) (t : Int) : f_sha1_Step_p4 T ((s, (z, (r, ()))), ((), ((), ((), (t80 w, ((t, ()), ())))))) =
    bif decide (t < (80 : Int)) then (bif decide ((0 : Int) ≤ t) && decide (t < (80 : Int)) then (
      (g_sha1_mix ((), ((t, ()), ((r.2.1, ()), ((r.2.2.1, ()), ((r.2.2.2.1, ()), ())))))).bind fun x4 =>
      (g_math_bits_RotateLeft32 ((), ((r.1, ()), (((5 : Int), ()), ())))).bind fun x5 =>
      (g_math_bits_RotateLeft32 ((), ((r.2.1, ()), (((30 : Int), ()), ())))).bind fun x10 =>
      T.1 ((s, (z, ((iadd .u32 (iadd .u32 (iadd .u32 (iadd .u32 x5.2.1.1 x4.2.1.1) r.2.2.2.2.1) x4.2.2.1.1) (gd (.int .u32) (l80 w) t), (r.1, (x10.2.1.1, (r.2.2.1, (r.2.2.2.1, ()))))), ()))), ((), ((), ((), (t80 w, ((iadd .i64 t 1, ()), ()))))))) else none)
    else T.2.1 ((s, (z, (r, ()))), ((), ((), ((), (((0 : Int), ()), ()))))) := by kernel_rfl
theorem step_p12_0 (T : TT_sha1_Step) (a b c d e a' b' c' d' e' : Int) (z : W5) : f_sha1_Step_p12 T (((a', (b', (c', (d', (e', ()))))), (z, ((a, (b, (c, (d, (e, ()))))), ()))), ((), ((), ((), (((0 : Int), ()), ()))))) = T.2.2.1 (((a', (b', (c', (d', (e', ()))))), (z, ((iadd .u32 a a', (b, (c, (d, (e, ()))))), ()))), ((), ((), ((), (((0 : Int), ()), ()))))) := by kernel_rfl
theorem step_p12_1 (T : TT_sha1_Step) (a b c d e a' b' c' d' e' : Int) (z : W5) : f_sha1_Step_p12 T (((a', (b', (c', (d', (e', ()))))), (z, ((a, (b, (c, (d, (e, ()))))), ()))), ((), ((), ((), (((1 : Int), ()), ()))))) = T.2.2.1 (((a', (b', (c', (d', (e', ()))))), (z, ((a, (iadd .u32 b b', (c, (d, (e, ()))))), ()))), ((), ((), ((), (((1 : Int), ()), ()))))) := by kernel_rfl
theorem step_p12_2 (T : TT_sha1_Step) (a b c d e a' b' c' d' e' : Int) (z : W5) : f_sha1_Step_p12 T (((a', (b', (c', (d', (e', ()))))), (z, ((a, (b, (c, (d, (e, ()))))), ()))), ((), ((), ((), (((2 : Int), ()), ()))))) = T.2.2.1 (((a', (b', (c', (d', (e', ()))))), (z, ((a, (b, (iadd .u32 c c', (d, (e, ()))))), ()))), ((), ((), ((), (((2 : Int), ()), ()))))) := by kernel_rfl
theorem step_p12_3 (T : TT_sha1_Step) (a b c d e a' b' c' d' e' : Int) (z : W5) : f_sha1_Step_p12 T (((a', (b', (c', (d', (e', ()))))), (z, ((a, (b, (c, (d, (e, ()))))), ()))), ((), ((), ((), (((3 : Int), ()), ()))))) = T.2.2.1 (((a', (b', (c', (d', (e', ()))))), (z, ((a, (b, (c, (iadd .u32 d d', (e, ()))))), ()))), ((), ((), ((), (((3 : Int), ()), ()))))) := by kernel_rfl
theorem step_p12_4 (T : TT_sha1_Step) (a b c d e a' b' c' d' e' : Int) (z : W5) : f_sha1_Step_p12 T (((a', (b', (c', (d', (e', ()))))), (z, ((a, (b, (c, (d, (e, ()))))), ()))), ((), ((), ((), (((4 : Int), ()), ()))))) = T.2.2.1 (((a', (b', (c', (d', (e', ()))))), (z, ((a, (b, (c, (d, (iadd .u32 e e', ()))))), ()))), ((), ((), ((), (((4 : Int), ()), ()))))) := by kernel_rfl
theorem step_p12_5 (T : TT_sha1_Step) (s z r : W5) : f_sha1_Step_p12 T ((s, (z, (r, ()))), ((), ((), ((), (((5 : Int), ()), ()))))) = some ((), (r, ())) := by kernel_rfl
theorem step_add (s z r : W5) : Evn (fun f => (f_sha1_Step_t f).2.1 ((s, (z, (r, ()))), ((), ((), ((), (((0 : Int), ()), ())))))) ((), (addW r s, ())) := by
  obtain ⟨a', b', c', d', e', _⟩ := s
  obtain ⟨a, b, c, d, e, _⟩ := r
  refine Evn.some 11 fun f => ?_
  simp only [t_sha1_Step, step_p12_0, step_p12_1, step_p12_2, step_p12_3, step_p12_4, step_p12_5, f_sha1_Step_p15, show iadd .i64 (0 : Int) 1 = 1 from rfl, show iadd .i64 (1 : Int) 1 = 2 from rfl, show iadd .i64 (2 : Int) 1 = 3 from rfl, show iadd .i64 (3 : Int) 1 = 4 from rfl, show iadd .i64 (4 : Int) 1 = 5 from rfl]
  rfl
theorem rnds_succ (w : List Int) (s : W5) (t : Nat) : rnds w s (t + 1) = rnd w t (rnds w s t) := rfl
attribute [local irreducible] rnds in
theorem step_rounds (w : List Int) (hw : w.length = 80) (s z : W5) : ∀ (k t : Nat), t + k = 80 →
    Evn (fun f => (f_sha1_Step_t f).1 ((s, (z, (rnds w s t, ()))), ((), ((), ((), (t80 w, (((t : Int), ()), ()))))))) ((), (addW (rnds w s 80) s, ())) := by
  intro k
  induction k with
  | zero =>
    intro t ht
    obtain rfl : t = 80 := by omega
    refine (step_add s z (rnds w s 80)).step fun f => ?_
    generalize rnds w s 80 = r
    simp only [t_sha1_Step, show ((80 : Nat) : Int) = 80 from rfl]
    rw [step_p4]; rfl
  | succ k ih =>
    intro t ht
    refine (ih (t + 1) (by omega)).step fun f => ?_
    rw [rnds_succ]
    generalize rnds w s t = r
    simp only [t_sha1_Step]
    rw [step_p4, l80_eq hw]
    simp only [sha_mix t (by omega), rot_5, rot_30, Option.bind_some, and_dec, cond_dec]
    rw [if_pos (by omega), if_pos (by omega), iadd_i64 (by omega)]; rfl
/-- A block more. -/
def stepW (s : W5) (b : List Int) : W5 := addW (rnds (schL b 80) s 80) s
theorem sha_step (s : W5) (b : List Int) (hb : b.length = 64) : g_sha1_Step ((), (s, (t64 b, ()))) = some ((), (stepW s b, ())) := by
  refine ((step_rounds (schL b 80) (schL_len b 80) s (0, (0, (0, (0, (0, ()))))) 80 0 (by omega)).cast fun f => ?_).lim
  rw [step_m, l64_eq hb, hb, sha_schedule b hb]; rfl
/-! ### the digest of words -/
def w5R (s : W5) : Prop := (0 ≤ s.1 ∧ s.1 < 4294967296) ∧ (0 ≤ s.2.1 ∧ s.2.1 < 4294967296) ∧ (0 ≤ s.2.2.1 ∧ s.2.2.1 < 4294967296) ∧ (0 ≤ s.2.2.2.1 ∧ s.2.2.2.1 < 4294967296) ∧ (0 ≤ s.2.2.2.2.1 ∧ s.2.2.2.2.1 < 4294967296)
theorem u32_mod (n : Int) : 0 ≤ IntKind.u32.wrap n ∧ IntKind.u32.wrap n < 4294967296 := by rw [wrap_u32]; omega
theorem addW_R (s r : W5) : w5R (addW s r) := ⟨u32_mod _, u32_mod _, u32_mod _, u32_mod _, u32_mod _⟩
def wl (s : W5) : List Int := [s.1, s.2.1, s.2.2.1, s.2.2.2.1, s.2.2.2.2.1]
def b20 (s : W5) : List Int := (wl s).flatMap (be · 4)
theorem b20_len (s : W5) : (b20 s).length = 20 := by simp [b20, wl, length_be]
theorem from_m (s : W5) : g_sha1_From ((), (s, ())) = (g_octets_Put_u32 ((), ((([] : List Int), ()), ((wl s, ()), ())))).bind fun x3 => bif decide ((20 : Int) ≤ x3.1.1.length) then some ((), (t20 x3.1.1, ())) else none := by kernel_rfl
theorem sha_from (s : W5) (h : w5R s) : g_sha1_From ((), (s, ())) = some ((), (t20 (b20 s), ())) := by
  obtain ⟨h1, h2, h3, h4, h5⟩ := h
  have hp := put_u32 [] (wl s) (by
    intro w hw
    simp only [wl, List.mem_cons, List.not_mem_nil, or_false] at hw
    rcases hw with rfl | rfl | rfl | rfl | rfl <;> assumption) (by simp [wl])
  rw [from_m, hp]
  have := b20_len s
  unfold b20 at this
  simp only [Option.bind_some, List.nil_append, this]; rfl
/-! ### blocks -/
theorem sum_p5_cons (T : TT_sha1_Sum) (c : List Int) (l : List (List Int)) (z : T20) (s : W5) (b : List Int) (n : Int) : f_sha1_Sum_p5 T (c :: l) ((z, (s, ())), ((b, ()), ((), ((), ((n, ()), ()))))) =
    bif decide ((64 : Int) ≤ c.length) then ((g_sha1_Step ((), (s, (t64 c, ())))).bind fun x30 => T.1 l ((z, x30.2), ((b, ()), ((), ((), ((n, ()), ())))))) else none := by kernel_rfl
theorem sum_p12_cons (T : TT_sha1_Sum) (c : List Int) (l : List (List Int)) (z : T20) (s : W5) : f_sha1_Sum_p12 T (c :: l) ((z, (s, ())), ((), ((), ()))) =
    bif decide ((64 : Int) ≤ c.length) then ((g_sha1_Step ((), (s, (t64 c, ())))).bind fun x34 => T.2.1 l ((z, x34.2), ((), ((), ())))) else none := by kernel_rfl
theorem sum_p12_nil (T : TT_sha1_Sum) (z : T20) (s : W5) : f_sha1_Sum_p12 T [] ((z, (s, ())), ((), ((), ()))) = (g_sha1_From ((), (s, ()))).bind fun x31 => some ((), x31.2) := by kernel_rfl
theorem chunks_len64 : ∀ (m : Nat) (b : List Int), b.length = m * 64 → ∀ c ∈ chunks 64 m b, c.length = 64
  | 0, _, _, c, h => by cases h
  | m + 1, b, hb, c, h => by
    rcases List.mem_cons.1 h with rfl | h
    · rw [List.length_take]; omega
    · exact chunks_len64 m (b.drop 64) (by rw [List.length_drop]; omega) c h
theorem stepW_R (s : W5) (b : List Int) : w5R (stepW s b) := addW_R _ _
theorem fold_R {s : W5} (h : w5R s) : ∀ l : List (List Int), w5R (l.foldl stepW s)
  | [] => h
  | c :: l => by rw [List.foldl_cons]; exact fold_R (stepW_R s c) l
attribute [local irreducible] stepW b20 t20 in
theorem sum_p12 (z : T20) : ∀ (l : List (List Int)) (s : W5), w5R s → (∀ c ∈ l, c.length = 64) → Evn (fun f => (f_sha1_Sum_t f).2.1 l ((z, (s, ())), ((), ((), ())))) ((), (t20 (b20 (l.foldl stepW s)), ()))
  | [], s, hs, _ => by
    refine Evn.some 1 fun f => ?_
    simp only [t_sha1_Sum]
    rw [sum_p12_nil, sha_from s hs]; rfl
  | c :: l, s, hs, hl => by
    have hc := hl c (List.mem_cons_self ..)
    rw [List.foldl_cons]
    refine (sum_p12 z l (stepW s c) (stepW_R s c) (fun q hq => hl q (List.mem_cons_of_mem _ hq))).step fun f => ?_
    simp only [t_sha1_Sum]
    rw [sum_p12_cons, hc, sha_step s c hc]; rfl
def begW : W5 := (1732584193, (4023233417, (2562383102, (271733878, (3285377520, ())))))
/-- After the whole blocks: the rest, the mark, noughts and the length. -/
def tailB (b : List Int) : List Int :=
  let r := b.drop (b.length / 64 * 64)
  let z := if b.length % 64 + 9 > 64 then 120 else 56
  (r ++ (128 :: List.replicate (z - r.length - 1) 0)) ++ be ((b.length : Int) * 8) 8
theorem tailB_len (b : List Int) : (tailB b).length = (if b.length % 64 + 9 > 64 then 2 else 1) * 64 := by
  unfold tailB
  simp only [List.length_append, List.length_cons, List.length_replicate, length_be, List.length_drop]
  split <;> omega
theorem cp_whole (r : List Int) (n : Nat) (h : r.length < n) : (cpL (List.replicate n (0 : Int)) 0 r).set r.length 128 = r ++ (128 :: List.replicate (n - r.length - 1) 0) := by
  unfold cpL
  rw [List.take_zero, List.nil_append, List.length_replicate, Nat.sub_zero, Nat.min_eq_left (by omega), List.take_of_length_le (Nat.le_refl _), Nat.zero_add, List.drop_replicate]
  obtain ⟨m, hm⟩ : ∃ m, n - r.length = m + 1 := ⟨n - r.length - 1, by omega⟩
  rw [hm]
  simp [List.set_append, List.replicate_succ]
theorem sum_p5_nil (z : T20) (s : W5) (hs : w5R s) (b : List Int) (hb : b.length ≤ 1000000) (hok : okBy b) : Evn (fun f => (f_sha1_Sum_t f).1 [] ((z, (s, ())), ((b, ()), ((), ((), ((((b.length / 64 * 64 : Nat) : Int), ()), ())))))) ((), (t20 (b20 ((chunks 64 (if b.length % 64 + 9 > 64 then 2 else 1) (tailB b)).foldl stepW s)), ())) := by
  have hlen := tailB_len b
  refine (sum_p12 z (chunks 64 (if b.length % 64 + 9 > 64 then 2 else 1) (tailB b)) s hs (chunks_len64 _ _ hlen)).step fun f => ?_
  have e1 : iquo .i64 (b.length : Int) 64 = ((b.length / 64 : Nat) : Int) := by
    unfold iquo
    rw [Int.tdiv_eq_ediv_of_nonneg (by omega)]
    exact IntWalk.i64_in _ (by omega)
  have e2 : Int.tmod (b.length : Int) 64 = ((b.length % 64 : Nat) : Int) := Int.tmod_eq_emod_of_nonneg (by omega)
  have e3 : iquo .i64 ((b.length / 64 * 64 : Nat) : Int) 64 = ((b.length / 64 : Nat) : Int) := by
    unfold iquo
    rw [Int.tdiv_eq_ediv_of_nonneg (by omega), IntKind.wrap_i64]
    omega
  have hbl : g_sha1_Blocks ((), (((b.length : Int), ()), ())) = some ((), ((((b.length / 64 + (if b.length % 64 + 9 > 64 then 2 else 1) : Nat) : Int), ()), ())) := by
    have a1 : iadd .i64 ((b.length % 64 : Nat) : Int) 1 = ((b.length % 64 + 1 : Nat) : Int) := by rw [iadd_i64 (by omega)]; omega
    have a2 : iadd .i64 ((b.length % 64 + 1 : Nat) : Int) 8 = ((b.length % 64 + 9 : Nat) : Int) := by rw [iadd_i64 (by omega)]; omega
    have a3 : iadd .i64 ((b.length / 64 : Nat) : Int) 1 = ((b.length / 64 + 1 : Nat) : Int) := by rw [iadd_i64 (by omega)]; omega
    have a4 : iadd .i64 ((b.length / 64 + 1 : Nat) : Int) 1 = ((b.length / 64 + 2 : Nat) : Int) := by rw [iadd_i64 (by omega)]; omega
    simp only [g_sha1_Blocks, f_sha1_Blocks_m, e1, e2, cond_dec, a1, a2, a3, a4]
    rw [if_neg (by omega)]
    by_cases c : b.length % 64 + 9 > 64
    · rw [if_pos (by omega), if_pos c]
    · rw [if_neg (by omega), if_neg c]
  generalize hz : (if b.length % 64 + 9 > 64 then 2 else 1 : Nat) = m at *
  have hm : 1 ≤ m ∧ m ≤ 2 := by rw [← hz]; split <;> omega
  have hm2 : (if b.length % 64 + 9 > 64 then 120 else 56 : Nat) = m * 64 - 8 := by rw [← hz]; split <;> omega
  have hrest : b.length % 64 < m * 64 - 8 := by rw [← hm2]; split <;> omega
  rw [t_sha1_Sum]
  simp only [f_sha1_Sum_p5, List.isEmpty_nil, cond_true, hbl, Option.bind_some, e3]
  have hr : (b.drop (b.length / 64 * 64)).length = b.length % 64 := by rw [List.length_drop]; omega
  have q1 : isub .i64 ((b.length / 64 + m : Nat) : Int) ((b.length / 64 : Nat) : Int) = (m : Int) := by rw [isub_i64 (by omega)]; omega
  have q2 : imul .i64 (m : Int) 64 = ((m * 64 : Nat) : Int) := by rw [imul_i64 (by omega)]; omega
  have q3 : isub .i64 ((m * 64 : Nat) : Int) 8 = ((m * 64 - 8 : Nat) : Int) := by rw [isub_i64 (by omega)]; omega
  have q4 : isub .i64 (b.length : Int) ((b.length / 64 * 64 : Nat) : Int) = ((b.length % 64 : Nat) : Int) := by rw [isub_i64 (by omega)]; omega
  have q5 : imul .u64 (iconv .u64 (b.length : Int)) 8 = (b.length : Int) * 8 := by rw [iconv_u64, imul_u64]; omega
  simp only [q1, q2, q3, q4, q5, and_dec, cond_dec, Int.toNat_natCast, List.length_replicate, List.take_length, show (0 : Int).toNat = 0 from rfl]
  rw [if_pos (by omega), if_pos (by omega), if_pos (by omega)]
  have hset := cp_whole (b.drop (b.length / 64 * 64)) (m * 64 - 8) (by omega)
  rw [hr] at hset
  have hcl : (cpL (List.replicate (m * 64 - 8) (0 : Int)) 0 (b.drop (b.length / 64 * 64))).length = m * 64 - 8 := by
    have := congrArg List.length hset
    rw [List.length_set, List.length_append, List.length_cons, List.length_replicate, hr] at this
    omega
  rw [hcl, if_pos (by omega), hset]
  have hp := put_u64 ((b.drop (b.length / 64 * 64)) ++ (128 :: List.replicate (m * 64 - 8 - b.length % 64 - 1) 0)) [(b.length : Int) * 8] (by
    intro w hw
    rw [List.mem_singleton.1 hw]
    omega) (by simp only [List.length_append, List.length_cons, List.length_replicate, hr, List.length_nil]; omega)
  have ht : tailB b = (b.drop (b.length / 64 * 64) ++ (128 :: List.replicate (m * 64 - 8 - b.length % 64 - 1) 0)) ++ [(b.length : Int) * 8].flatMap (be · 8) := by
    unfold tailB
    simp only [hm2, hr, List.flatMap_cons, List.flatMap_nil, List.append_nil]
  rw [← ht] at hp
  have hch := chunk_all (tailB b) 64 m (by decide) (by omega) hlen
  have hfn := chunk_fn (tailB b) 64 (by decide)
  simp only [hp, hfn, Option.bind_some]
  rw [show ((64 : Nat) : Int) = 64 from rfl] at hch
  rw [hch]; rfl
attribute [local irreducible] stepW b20 t20 tailB in
theorem sum_p5 (z : T20) (b : List Int) (hb : b.length ≤ 1000000) (hok : okBy b) : ∀ (l : List (List Int)) (s : W5), w5R s → (∀ c ∈ l, c.length = 64) →
    Evn (fun f => (f_sha1_Sum_t f).1 l ((z, (s, ())), ((b, ()), ((), ((), ((((b.length / 64 * 64 : Nat) : Int), ()), ())))))) ((), (t20 (b20 ((chunks 64 (if b.length % 64 + 9 > 64 then 2 else 1) (tailB b)).foldl stepW (l.foldl stepW s))), ()))
  | [], s, hs, _ => sum_p5_nil z s hs b hb hok
  | c :: l, s, hs, hl => by
    have hc := hl c (List.mem_cons_self ..)
    rw [List.foldl_cons]
    refine (sum_p5 z b hb hok l (stepW s c) (stepW_R s c) (fun q hq => hl q (List.mem_cons_of_mem _ hq))).step fun f => ?_
    simp only [t_sha1_Sum]
    rw [sum_p5_cons, hc, sha_step s c hc]; rfl
/-- The words of a text's digest. -/
def shaW (b : List Int) : W5 := (chunks 64 (if b.length % 64 + 9 > 64 then 2 else 1) (tailB b)).foldl stepW ((chunks 64 (b.length / 64) (b.take (b.length / 64 * 64))).foldl stepW begW)
theorem shaW_R (b : List Int) : w5R (shaW b) := fold_R (fold_R (by unfold w5R begW; decide) _) _
theorem sum_m (T : TT_sha1_Sum) (b : List Int) : f_sha1_Sum_m T ((), ((b, ()), ())) =
    bif decide ((0 : Int) ≤ (0 : Int)) && decide ((0 : Int) ≤ imul .i64 (iquo .i64 (b.length : Int) 64) 64) && decide (imul .i64 (iquo .i64 (b.length : Int) 64) 64 ≤ (b.length : Int)) then
      ((g_slices_Chunk_byte_byte ((), ((List.drop (Int.toNat 0) (List.take (Int.toNat (imul .i64 (iquo .i64 (b.length : Int) 64) 64)) b), ()), (((64 : Int), ()), ())))).bind fun x6 =>
      (F_slices_Chunk_byte_byte_1 (x6.1.1.1, (x6.1.2.1.1, ()))).bind fun x7 =>
      T.1 x7 ((t20 [], (begW, ())), ((b, ()), ((), ((), ((imul .i64 (iquo .i64 (b.length : Int) 64) 64, ()), ())))))) else none := by kernel_rfl
theorem sha_sum (b : List Int) (hb : b.length ≤ 1000000) (hok : okBy b) : g_sha1_Sum ((), ((b, ()), ())) = some ((), (t20 (b20 (shaW b)), ())) := by
  have e1 : iquo .i64 (b.length : Int) 64 = ((b.length / 64 : Nat) : Int) := by
    unfold iquo
    rw [Int.tdiv_eq_ediv_of_nonneg (by omega)]
    exact IntWalk.i64_in _ (by omega)
  have e2 : imul .i64 ((b.length / 64 : Nat) : Int) 64 = ((b.length / 64 * 64 : Nat) : Int) := by rw [imul_i64 (by omega)]; omega
  have hlen : (b.take (b.length / 64 * 64)).length = b.length / 64 * 64 := by rw [List.length_take]; omega
  have hch := chunk_all (b.take (b.length / 64 * 64)) 64 (b.length / 64) (by decide) (by omega) hlen
  rw [show ((64 : Nat) : Int) = 64 from rfl] at hch
  have hfn := chunk_fn (b.take (b.length / 64 * 64)) 64 (by decide)
  refine ((sum_p5 (t20 []) b hb hok (chunks 64 (b.length / 64) (b.take (b.length / 64 * 64))) begW (by unfold w5R begW; decide) (chunks_len64 _ _ hlen)).cast fun f => ?_).lim
  rw [sum_m]
  simp only [e1, e2, Int.toNat_natCast, show (0 : Int).toNat = 0 from rfl, List.drop_zero, hfn, Option.bind_some, hch, and_dec, cond_dec]
  rw [if_pos (by omega)]
end Go.Proofs.YtcnngodgngmghaaGreatDoor.Ev
