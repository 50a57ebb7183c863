/- The reader's runs of bytes out of a set. -/
import Derived.Test.YtcnngodgngmghaaGreatDoorEv32
import Derived.Test.YtcnngodgngmghaaGreatDoorPuScan
namespace Go.Proofs.YtcnngodgngmghaaGreatDoor.Ev
open Go
set_option linter.unusedVariables false
set_option linter.unusedSimpArgs false
theorem ib_mem : ∀ (l : List UInt8) (c : UInt8), (0 ≤ Lib.indexByte l c) ↔ c ∈ l := by
  intro l c
  induction l with
  | nil => simp [Lib.indexByte]
  | cons b l ih =>
    have hg := Lib.indexByte_ge l c
    simp only [Lib.indexByte, List.mem_cons]
    by_cases h : b = c
    · subst h; simp
    · have h' : ¬ c = b := fun q => h q.symm
      simp only [beq_iff_eq, h, if_false, h', false_or]
      rw [← ih]
      by_cases q : Lib.indexByte l c = -1
      · rw [if_pos q, q]
      · rw [if_neg q]; omega
theorem sc_index (S : List Int) (hS : okBy S) (c : Int) (hc : 0 ≤ c ∧ c < 256) : ∃ v : Int, g_strings_IndexByte ((), ((strOf S, ()), ((c, ()), ()))) = some ((), ((v, ()), ())) ∧ (0 ≤ v ↔ c ∈ S) := by
  refine ⟨_, rfl, ?_⟩
  rw [ib_mem]
  have e : bytesOf (strOf S) = S := by_str hS
  constructor
  · intro h
    rw [← e]
    have : ((c.toNat.toUInt8.toNat : Nat) : Int) = c := by
      rw [show c.toNat.toUInt8.toNat = c.toNat % 256 from rfl]; omega
    rw [← this]
    exact List.mem_map_of_mem (f := fun b : UInt8 => (b.toNat : Int)) h
  · intro h
    rw [← e] at h
    obtain ⟨b, hb, hbc⟩ := List.mem_map.1 h
    have : c.toNat.toUInt8 = b := by
      rw [← hbc]; simp
    simp only [this]; exact hb
/-- How many bytes of the set a text begins with. -/
def runN (S : List Int) : List Int → Nat
  | [] => 0
  | x :: l => if x ∈ S then runN S l + 1 else 0
theorem runN_le (S : List Int) : ∀ l : List Int, runN S l ≤ l.length
  | [] => Nat.le_refl _
  | x :: l => by
    unfold runN
    have := runN_le S l
    split <;> simp only [List.length_cons] <;> omega
theorem runN_at {S : List Int} : ∀ {l : List Int} {i : Nat}, i < runN S l → l.getD i 0 ∈ S
  | [], i, h => by simp [runN] at h
  | x :: l, i, h => by
    unfold runN at h
    split at h
    · rename_i c
      cases i with
      | zero => exact c
      | succ i => exact runN_at (l := l) (by omega)
    · omega
theorem runN_stop {S : List Int} : ∀ {l : List Int}, runN S l < l.length → ¬ l.getD (runN S l) 0 ∈ S
  | [], h => by simp [runN] at h
  | x :: l, h => by
    unfold runN at h ⊢
    split
    · rename_i c
      rw [if_pos c] at h
      exact runN_stop (l := l) (by simp only [List.length_cons] at h; omega)
    · rename_i c; exact c
theorem scan_run_p4 (s : ByteArray) (x : X) (h : x.wf s) (hs : s.size ≤ 1000000) (S : List Int) (hS : okBy S) : ∀ (k i : Nat), i + k = x.rest.length → i ≤ runN S x.rest →
    Evn (fun f => (f_scan_Scanner_string_Run_io_t f).1 (x.t s, ((), ((strOf S, ()), ((strOf x.rest, ()), (((i : Int), ()), ())))))) ((takeX (runN S x.rest) x).t s, ((strOf (x.rest.take (runN S x.rest)), ()), ((), ()))) := by
  have ho := X.ok_rest h
  have hl := runN_le S x.rest
  have fin : ∀ i : Nat, i = runN S x.rest → (i < x.rest.length → ¬ x.rest.getD i 0 ∈ S) → Evn (fun f => (f_scan_Scanner_string_Run_io_t f).1 (x.t s, ((), ((strOf S, ()), ((strOf x.rest, ()), (((i : Int), ()), ())))))) ((takeX (runN S x.rest) x).t s, ((strOf (x.rest.take (runN S x.rest)), ()), ((), ()))) := by
    intro i hi hn
    subst hi
    have ht := scan_take s x h hs _ hl
    simp only [X.t] at ht
    refine Evn.some 1 fun f => ?_
    simp only [t_scan_Scanner_string_Run_io, f_scan_Scanner_string_Run_io_p4, X.t, fitsS_dec, Option.bind_some, Option.isNone_none, Option.isNone_some, Option.isSome_none, Option.isSome_some, Bool.not_true, Bool.not_false, cond_true, cond_false, cond_dec, beq_int, bne_int, not_dec, str_size, and_dec]
    by_cases c : runN S x.rest < x.rest.length
    · have hb := by_at (strOf x.rest) (i := ((runN S x.rest : Nat) : Int)) (by omega) (by rw [str_size]; omega)
      rw [by_str ho.1, Int.toNat_natCast] at hb
      have hc := okBy_at ho.1 (runN S x.rest)
      obtain ⟨v, hv1, hv2⟩ := sc_index S hS (x.rest.getD (runN S x.rest) 0) hc
      rw [if_pos (by omega), if_pos (by omega), hb, hv1]
      simp only [Option.bind_some, cond_dec, ge_iff_le]
      rw [if_neg (fun q => hn c (hv2.1 q)), ht]; rfl
    · rw [if_neg (by omega), ht]; rfl
  intro k; induction k with
  | zero =>
    intro i hi hr
    exact fin i (by omega) (fun q => by omega)
  | succ k ih =>
    intro i hi hr
    by_cases q : i = runN S x.rest
    · exact fin i q (fun q2 => by rw [q]; exact runN_stop (by omega))
    · refine (ih (i + 1) (by omega) (by omega)).step fun f => ?_
      have hb := by_at (strOf x.rest) (i := (i : Int)) (by omega) (by rw [str_size]; omega)
      rw [by_str ho.1, Int.toNat_natCast] at hb
      have hc := okBy_at ho.1 i
      obtain ⟨v, hv1, hv2⟩ := sc_index S hS (x.rest.getD i 0) hc
      simp only [t_scan_Scanner_string_Run_io, f_scan_Scanner_string_Run_io_p4, X.t, fitsS_dec, Option.bind_some, Option.isNone_none, Option.isNone_some, Option.isSome_none, Option.isSome_some, Bool.not_true, Bool.not_false, cond_true, cond_false, cond_dec, beq_int, bne_int, not_dec, str_size, and_dec]
      rw [if_pos (by omega), if_pos (by omega), hb, hv1]
      simp only [Option.bind_some, cond_dec, ge_iff_le]
      rw [if_pos (hv2.2 (runN_at (by omega))), iadd_i64 (by omega)]; rfl
theorem scan_run (s : ByteArray) (x : X) (h : x.wf s) (hs : s.size ≤ 1000000) (S : List Int) (hS : okBy S) : g_scan_Scanner_string_Run_io (x.t s, ((), ((strOf S, ()), ()))) = some ((takeX (runN S x.rest) x).t s, ((strOf (x.rest.take (runN S x.rest)), ()), ((), ()))) := by
  refine ((scan_run_p4 s x h hs S hS x.rest.length 0 (by omega) (Nat.zero_le _)).cast fun f => ?_).lim
  simp only [f_scan_Scanner_string_Run_io_m, X.t, scan_rest s x h, Option.bind_some]; rfl
@[reducible] def figL : List Int := [48, 49, 50, 51, 52, 53, 54, 55, 56, 57]
theorem run_lead : ∀ l : List Int, runN figL l = lead l
  | [] => rfl
  | x :: l => by
    have h : x ∈ figL ↔ isF x := by
      unfold isF
      simp only [figL, List.mem_cons, List.not_mem_nil, or_false]; omega
    unfold runN lead
    rw [run_lead l]
    by_cases c : isF x
    · rw [if_pos c, if_pos (h.2 c)]
    · rw [if_neg c, if_neg (fun q => c (h.1 q))]
end Go.Proofs.YtcnngodgngmghaaGreatDoor.Ev
