/- Bytes, chunk by chunk. -/
import Derived.Test.YtcnngodgngmghaaGreatDoorEvG
import Derived.Test.YtcnngodgngmghaaGreatDoorEvE
namespace Go.Proofs.YtcnngodgngmghaaGreatDoor.Ev
open Go
set_option linter.unusedVariables false
set_option linter.unusedSimpArgs false
theorem Evn.bindS {R S : Type} {F : Nat → Option R} {r : R} {f : R → Option S} {o : S} (h : Evn F r) (e : f r = Option.some o) : Evn (fun k => (F k).bind f) o := by
  obtain ⟨n, h⟩ := h
  exact ⟨n, fun k hk => by show (F k).bind f = _; rw [h k hk]; exact e⟩
def chunks (s : Nat) : Nat → List Int → List (List Int)
  | 0, _ => []
  | m + 1, b => b.take s :: chunks s m (b.drop s)
theorem chunks_length (s : Nat) : ∀ m b, (chunks s m b).length = m
  | 0, _ => rfl
  | m + 1, b => by simp [chunks, chunks_length s m]
theorem chunks_mem (s : Nat) : ∀ m b c, c ∈ chunks s m b → (∀ x ∈ c, x ∈ b) ∧ c.length ≤ s
  | 0, b, c, h => by cases h
  | m + 1, b, c, h => by
    rcases List.mem_cons.1 h with rfl | h
    · exact ⟨fun x hx => List.mem_of_mem_take hx, by simp; omega⟩
    · have := chunks_mem s m _ c h
      exact ⟨fun x hx => List.mem_of_mem_drop (this.1 x hx), this.2⟩
theorem chunks_take (s : Nat) : ∀ m (b : List Int), chunks s m (b.take (m * s)) = chunks s m b
  | 0, _ => rfl
  | m + 1, b => by
    have hm : (m + 1) * s = s + m * s := by rw [Nat.succ_mul, Nat.add_comm]
    rw [chunks, chunks, hm, List.take_take, Nat.min_eq_left (Nat.le_add_right _ _), List.drop_take, show s + m * s - s = m * s by omega, chunks_take s m]
theorem chunk_p1 (b : List Int) (s : Nat) (hs : 0 < s) (hl : b.length ≤ 140737488355328) : ∀ m i, b.length = i + m * s →
    Evn (fun k => (f_slices_Chunk_byte_byte_1_t k).1 ((), ((some b, ()), ((some (s : Int), ()), (((i : Int), ()), ()))))) (chunks s m (b.drop i))
  | 0, i, h => by
    refine Evn.step (Evn.const fun _ => rfl) fun k => ?_
    rw [show f_slices_Chunk_byte_byte_1_t (k + 1) = (f_slices_Chunk_byte_byte_1_p1 (f_slices_Chunk_byte_byte_1_t k), ()) from rfl]
    simp only [f_slices_Chunk_byte_byte_1_p1, fitsS_dec, Option.bind_some, Option.isNone_none, Option.isNone_some, Option.isSome_none, Option.isSome_some, Bool.not_true, Bool.not_false, cond_true, cond_false, cond_dec, beq_int, bne_int, not_dec]
    rw [if_neg (by omega)]; rfl
  | m + 1, i, h => by
    have hm : (m + 1) * s = m * s + s := Nat.succ_mul m s
    have ih := chunk_p1 b s hs hl m (i + s) (by omega)
    refine Evn.step (Evn.bindS ih (f := fun x => Option.some ((b.drop i).take s :: x)) (by rw [← List.drop_drop]; rfl)) fun k => ?_
    rw [show f_slices_Chunk_byte_byte_1_t (k + 1) = (f_slices_Chunk_byte_byte_1_p1 (f_slices_Chunk_byte_byte_1_t k), ()) from rfl]
    simp only [f_slices_Chunk_byte_byte_1_p1, fitsS_dec, Option.bind_some, Option.isNone_none, Option.isNone_some, Option.isSome_none, Option.isSome_some, Bool.not_true, Bool.not_false, cond_true, cond_false, cond_dec, beq_int, bne_int, not_dec, and_dec, List.isEmpty_nil]
    rw [if_pos (by omega), if_pos (by omega)]
    simp only [Int.toNat_natCast, List.take_length, List.length_drop]
    have e : (if (((b.length - i : Nat)) : Int) < (s : Int) then ((b.length - i : Nat) : Int) else (s : Int)) = (s : Int) := by rw [if_neg (by omega)]
    rw [e, iadd_i64 (by omega), if_pos (by omega)]
    rw [show ((i : Int) + (s : Int)).toNat = i + s by omega, List.drop_take, show i + s - i = s by omega]
    rw [show ((i : Int) + (s : Int)) = ((i + s : Nat) : Int) by push_cast; rfl]
theorem chunk_all (b : List Int) (s m : Nat) (hs : 0 < s) (hl : b.length ≤ 140737488355328) (h : b.length = m * s) : F_slices_Chunk_byte_byte_1 (b, ((s : Int), ())) = some (chunks s m b) := by
  have := chunk_p1 b s hs hl m 0 (by omega)
  rw [List.drop_zero] at this
  exact (this.cast fun k => rfl).lim
theorem chunk_fn (b : List Int) (s : Int) (hs : 0 < s) : g_slices_Chunk_byte_byte ((), ((b, ()), ((s, ()), ()))) = some (((b, ()), ((s, ()), ())), ((), ())) := by
  simp only [g_slices_Chunk_byte_byte, f_slices_Chunk_byte_byte_m, fitsS_dec, Option.bind_some, Option.isNone_none, Option.isNone_some, Option.isSome_none, Option.isSome_some, Bool.not_true, Bool.not_false, cond_true, cond_false, cond_dec, beq_int, bne_int, not_dec]
  rw [if_neg (by omega)]
end Go.Proofs.YtcnngodgngmghaaGreatDoor.Ev
