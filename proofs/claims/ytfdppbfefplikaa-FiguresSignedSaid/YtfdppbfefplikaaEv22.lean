/- Each operation tells one thing, by what it reads. -/
import Derived.Test.YtfdppbfefplikaaEv14
namespace Go.Proofs.Ytfdppbfefplikaa.Ev
open Go
set_option linter.unusedVariables false
set_option linter.unusedSimpArgs false
section
variable {E : Env} {R : Type} {out : R} {bs bs2 : Boxes}
/-- One value. -/
def Det (f : (R : Type) → (AV → Option R) → Option R) {R : Type} (K : AV → Option R) (out : R) : Prop :=
  ∃ v, K v = some out ∧ ∀ (R' : Type) (K' : AV → Option R'), f R' K' = K' v
theorem det_intBin {op : BinOp} {k : IntKind} {x y : Int} {K : AV → Option R} (h : evIntBin op k x y K = some out) : Det (fun R K => evIntBin op k x y K) K out := by
  unfold evIntBin at h
  cases op <;> simp only at h <;>
    first
      | exact ⟨_, h, fun R' K' => rfl⟩
      | (cases hz : (y == 0) <;> rw [hz] at h <;> simp only [cond_true, cond_false] at h
         · exact ⟨_, h, fun R' K' => by simp only [evIntBin, hz, cond_false]⟩
         · cases h)
      | cases h
theorem det_strBin {op : BinOp} {x y : ByteArray} {K : AV → Option R} (h : evStrBin op x y K = some out) : Det (fun R K => evStrBin op x y K) K out := by
  unfold evStrBin at h
  cases op <;> simp only at h <;>
    first
      | exact ⟨_, h, fun R' K' => rfl⟩
      | (obtain ⟨h1, h2⟩ := bif_some h
         exact ⟨_, h2, fun R' K' => by simp only [evStrBin, h1, cond_true]⟩)
      | cases h
theorem det_eq {T : TypeId} {cst neg : Bool} {x y : AV} {K : AV → Option R} (hk : isSliceK (kindOf E T) = false) (h : evEq E T cst neg x y K = some out) : Det (fun R K => evEq E T cst neg x y K) K out := by
  unfold evEq at h
  simp only at h
  split at h
  · rename_i hT
    exact ⟨_, h, fun R' K' => by simp only [evEq, hT]⟩
  · rename_i hT
    cases cst with
    | false => cases h
    | true => exact ⟨_, h, fun R' K' => by simp only [evEq, hT, cond_true]⟩
  · rename_i hn hT
    cases cst with
    | false => cases h
    | true =>
      refine ⟨_, h, fun R' K' => ?_⟩
      simp only [evEq, hT]
      rfl
  · rename_i hT
    exact ⟨_, h, fun R' K' => by simp only [evEq, hT]⟩
  · cases h
  · rename_i hT
    exact ⟨_, h, fun R' K' => by simp only [evEq, hT]⟩
  · rename_i e t l hT
    rw [hT] at hk; cases hk
  · rename_i e hT
    rw [hT] at hk; cases hk
  · rename_i fs l m hT
    split at h
    · rename_i ks hks
      split at h
      · rename_i b hb
        exact ⟨_, h, fun R' K' => by simp only [evEq, hT, hks, hb]⟩
      · cases h
    · cases h
  · cases h
theorem det_bin {op : BinOp} {T : TypeId} {cst : Bool} {x y : AV} {K : AV → Option R} (hk : isSliceK (kindOf E T) = false) (h : evBin E op T cst x y K = some out) : Det (fun R K => evBin E op T cst x y K) K out := by
  unfold evBin at h
  split at h
  · rename_i k p k' q
    split at h
    · cases hd : decide (q < 0) <;> rw [hd] at h <;> simp only [cond_true, cond_false] at h
      · exact ⟨_, h, fun R' K' => by simp only [evBin, hd, cond_false]⟩
      · cases h
    · cases hd : decide (q < 0) <;> rw [hd] at h <;> simp only [cond_true, cond_false] at h
      · exact ⟨_, h, fun R' K' => by simp only [evBin, hd, cond_false]⟩
      · cases h
    · rename_i h1 h2
      obtain ⟨hkk, h⟩ := bif_some h
      obtain ⟨v, h3, h4⟩ := det_intBin h
      refine ⟨v, h3, fun R' K' => ?_⟩
      have := h4 R' K'
      cases op <;> first | exact (h1 rfl).elim | exact (h2 rfl).elim | (simp only [evBin, hkk, cond_true]; exact this)
  · obtain ⟨v, h3, h4⟩ := det_strBin h
    exact ⟨v, h3, fun R' K' => h4 R' K'⟩
  · rename_i h1 h2
    have key : ∀ (R' : Type) (K' : AV → Option R'), evBin E op T cst x y K' = (match op with | .eql => evEq E T cst false x y K' | .neq => evEq E T cst true x y K' | _ => none) := by
      intro R' K'
      unfold evBin
      split
      · exact (h1 _ _ _ _ rfl rfl).elim
      · exact (h2 _ _ rfl rfl).elim
      · cases op <;> rfl
    split at h
    · obtain ⟨v, h3, h4⟩ := det_eq hk h
      exact ⟨v, h3, fun R' K' => (key R' K').trans (h4 R' K')⟩
    · obtain ⟨v, h3, h4⟩ := det_eq hk h
      exact ⟨v, h3, fun R' K' => (key R' K').trans (h4 R' K')⟩
    · cases h
theorem det_un {op : UnOp} {x : AV} {K : AV → Option R} (h : evUn op x K = some out) : Det (fun R K => evUn op x K) K out := by
  unfold evUn at h
  split at h <;> first | exact ⟨_, h, fun R' K' => rfl⟩ | cases h
theorem det_packK {n : Nat} {ag : Bool} {cells : List AV} {K : AV → Option R} (h : packK n ag cells K = some out) : Det (fun R K => packK n ag cells K) K out := by
  unfold packK at h
  obtain ⟨h1, h⟩ := bif_some h
  cases ag with
  | true => exact ⟨_, h, fun R' K' => by simp only [packK, h1, cond_true]⟩
  | false =>
    simp only [cond_false] at h
    split at h
    · exact ⟨_, h, fun R' K' => by simp only [packK, h1, cond_true, cond_false]⟩
    · cases h
theorem det_pack {r : Row} {cells : List AV} {K : AV → Option R} (h : pack r cells K = some out) : Det (fun R K => pack r cells K) K out := by
  unfold pack at h
  split at h
  · cases h
  · rename_i hk
    obtain ⟨v, h3, h4⟩ := det_packK h
    refine ⟨v, h3, fun R' K' => ?_⟩
    have := h4 R' K'
    show pack r cells K' = K' v
    unfold pack
    split
    · rename_i h5; exact (hk h5).elim
    · exact this
theorem getBox_agr {b v : Nat} (h : look bs2 b = look bs b) : getBox bs2 b v = getBox bs b v := by simp only [getBox, h]
theorem det_load {T : TypeId} {x : AV} {K : AV → Option R} (h : evLoad E T x bs K = some out) : ∃ v, K v = some out ∧ ∀ bs2, (∀ b ∈ ment [x], look bs2 b = look bs b) → ∀ (R' : Type) (K' : AV → Option R'), evLoad E T x bs2 K' = K' v := by
  unfold evLoad at h
  split at h
  · cases h
  · rename_i r hr
    split at h
    · rename_i b v off
      split at h
      · rename_i T' cells hb
        obtain ⟨u, h3, h4⟩ := det_pack h
        exact ⟨u, h3, fun bs2 ha R' K' => by simp only [evLoad, hr, getBox_agr (ha b (by simp [ment])), hb]; exact h4 R' K'⟩
      · cases h
    · obtain ⟨u, h3, h4⟩ := det_pack h
      exact ⟨u, h3, fun bs2 ha R' K' => by simp only [evLoad, hr]; exact h4 R' K'⟩
    · rename_i b v i off
      split at h
      · rename_i T' t xs hb
        obtain ⟨u, h3, h4⟩ := det_pack h
        exact ⟨u, h3, fun bs2 ha R' K' => by simp only [evLoad, hr, getBox_agr (ha b (by simp [ment])), hb]; exact h4 R' K'⟩
      · cases h
    · cases h
theorem det_fieldAddr {T : TypeId} {x : AV} {f : Nat} {K : AV → Option R} (h : evFieldAddr E T x f bs K = some out) : ∃ v, K v = some out ∧ ∀ bs2, (∀ b ∈ ment [x], look bs2 b = look bs b) → ∀ (R' : Type) (K' : AV → Option R'), evFieldAddr E T x f bs2 K' = K' v := by
  unfold evFieldAddr at h
  split at h
  · rename_i fs hk
    split at h
    · rename_i o n ag hf
      cases hn : Nat.beq n 0 <;> rw [hn] at h <;> simp only [cond_true, cond_false] at h
      · split at h
        · rename_i b v off
          obtain ⟨h1, h⟩ := bif_some h
          exact ⟨_, h, fun bs2 ha R' K' => by simp only [evFieldAddr, hk, hf, hn, cond_false, getBox_agr (ha b (by simp [ment])), h1, cond_true]⟩
        · exact ⟨_, h, fun bs2 ha R' K' => by simp only [evFieldAddr, hk, hf, hn, cond_false]⟩
        · rename_i b v i off
          obtain ⟨h1, h⟩ := bif_some h
          exact ⟨_, h, fun bs2 ha R' K' => by simp only [evFieldAddr, hk, hf, hn, cond_false, getBox_agr (ha b (by simp [ment])), h1, cond_true]⟩
        · cases h
      · cases h
    · cases h
  · cases h
theorem det_field {T : TypeId} {x : AV} {f : Nat} {K : AV → Option R} (h : evField E T x f K = some out) : Det (fun R K => evField E T x f K) K out := by
  unfold evField at h
  split at h
  · rename_i fs l hk
    split at h
    · rename_i o n ag hf
      obtain ⟨h1, h⟩ := bif_some h
      cases ag with
      | true => exact ⟨_, h, fun R' K' => by simp only [evField, hk, hf, h1, cond_true]⟩
      | false =>
        simp only [cond_false] at h
        split at h
        · rename_i c hc
          refine ⟨_, h, fun R' K' => ?_⟩
          simp only [evField, hk, hf, h1, cond_true, cond_false]
          rw [hc]
        · cases h
    · cases h
  · cases h
theorem pickN_det {n j : Nat} {i : Int} {f : Nat → Option R} (h : pickN n j i f = some out) : ∃ q, (∀ (R' : Type) (f' : Nat → Option R'), pickN n j i f' = f' q) ∧ f q = some out := by
  induction n generalizing j with
  | zero => cases h
  | succ n ih =>
    simp only [pickN] at h
    by_cases e : i = (j : Int)
    · rw [decide_eq_true e, cond_true] at h
      exact ⟨j, fun R' f' => by simp only [pickN, decide_eq_true e, cond_true], h⟩
    · rw [decide_eq_false e, cond_false] at h
      obtain ⟨q, h1, h2⟩ := ih h
      exact ⟨q, fun R' f' => by simp only [pickN, decide_eq_false e, cond_false, h1], h2⟩
theorem pack_det {r : Row} {cells : List AV} {K : AV → Option R} (h : pack r cells K = some out) : ∃ v, (∀ (R' : Type) (K' : AV → Option R'), pack r cells K' = K' v) ∧ K v = some out := by
  have hko : r.kind ≠ .other := fun e => by simp only [pack, e] at h; cases h
  have hp : ∀ (R' : Type) (K' : AV → Option R'), pack r cells K' = packK r.size (isAggK r.kind) cells K' := fun R' K' => by
    unfold pack
    revert hko
    cases r.kind <;> intro hko <;> first | exact absurd rfl hko | rfl
  rw [hp] at h
  unfold packK at h
  obtain ⟨h1, h⟩ := bif_some h
  cases ha : isAggK r.kind with
  | true =>
    rw [ha] at h
    exact ⟨_, fun R' K' => by rw [hp]; simp only [packK, h1, ha, cond_true], h⟩
  | false =>
    rw [ha] at h
    simp only [cond_false] at h
    split at h
    · rename_i c _
      exact ⟨c, fun R' K' => by rw [hp]; simp only [packK, h1, ha, cond_true, cond_false], h⟩
    · cases h
theorem det_indexAddr {T : TypeId} {x i : AV} {K : AV → Option R} (h : evIndexAddr E T x i bs K = some out) : ∃ v, K v = some out ∧ ∀ bs2, (∀ b ∈ ment [x], look bs2 b = look bs b) → ∀ (R' : Type) (K' : AV → Option R'), evIndexAddr E T x i bs2 K' = K' v := by
  unfold evIndexAddr at h
  split at h
  · rename_i j hj
    split at h
    · rename_i e t l hk
      obtain ⟨h1, h⟩ := bif_some h
      obtain ⟨h2, h⟩ := bif_some h
      exact ⟨_, h, fun bs2 ha R' K' => by simp only [evIndexAddr, hj, hk, h1, h2, cond_true]⟩
    · rename_i e b v hk
      split at h
      · rename_i e' t xs hb
        obtain ⟨h1, h⟩ := bif_some h
        obtain ⟨h2, h⟩ := bif_some h
        exact ⟨_, h, fun bs2 ha R' K' => by simp only [evIndexAddr, hj, hk, getBox_agr (ha b (by simp [ment])), hb, h1, h2, cond_true]⟩
      · cases h
    · rename_i n e b v off hk
      split at h
      · rename_i r hr
        obtain ⟨h1, h⟩ := bif_some h
        obtain ⟨q, hq, h⟩ := pickN_det h
        exact ⟨_, h, fun bs2 ha R' K' => by simp only [evIndexAddr, hj, hk, hr, getBox_agr (ha b (by simp [ment])), h1, cond_true, hq]⟩
      · cases h
    · rename_i n e t y off hk
      split at h
      · rename_i r hr
        obtain ⟨h1, h⟩ := bif_some h
        obtain ⟨q, hq, h⟩ := pickN_det h
        exact ⟨_, h, fun bs2 ha R' K' => by simp only [evIndexAddr, hj, hk, hr, h1, cond_true, hq]⟩
      · cases h
    · cases h
  · cases h
theorem det_index {T : TypeId} {x i : AV} {K : AV → Option R} (h : evIndex E T x i K = some out) : Det (fun R K => evIndex E T x i K) K out := by
  unfold evIndex at h
  split at h
  · rename_i s j hk hj
    obtain ⟨h1, h⟩ := bif_some h
    exact ⟨_, h, fun R' K' => by simp only [evIndex, hk, hj, h1, cond_true]⟩
  · rename_i n e l j hk hj
    split at h
    · rename_i r hr
      obtain ⟨h1, h⟩ := bif_some h
      obtain ⟨q, hq, h⟩ := pickN_det h
      obtain ⟨v, hv, h⟩ := pack_det h
      exact ⟨v, h, fun R' K' => by simp only [evIndex, hk, hj, hr, h1, cond_true, hq, hv]⟩
    · cases h
  · cases h
theorem det_slice {T : TypeId} {x : AV} {lo hi : Option Int} {K : AV → Option R} (h : evSlice E T x lo hi bs K = some out) : ∃ v, K v = some out ∧ ∀ (bs2 : Boxes) (R' : Type) (K' : AV → Option R'), evSlice E T x lo hi bs2 K' = K' v := by
  unfold evSlice at h
  split at h
  · rename_i s hk
    obtain ⟨h1, h⟩ := bif_some h
    exact ⟨_, h, fun bs2 R' K' => by simp only [evSlice, hk, h1, cond_true]⟩
  · rename_i e t xs hk
    obtain ⟨h1, h⟩ := bif_some h
    obtain ⟨h2, h⟩ := bif_some h
    exact ⟨_, h, fun bs2 R' K' => by simp only [evSlice, hk, h1, h2, cond_true]⟩
  · rename_i n e t y off hk
    split at h
    · rename_i r hr
      split at h
      · rename_i xs hxs
        obtain ⟨h1, h⟩ := bif_some h
        obtain ⟨h2, h⟩ := bif_some h
        exact ⟨_, h, fun bs2 R' K' => by simp only [evSlice, hk, hr, hxs, h1, h2, cond_true]⟩
      · cases h
    · cases h
  · cases h
theorem det_build {T : TypeId} {parts : List (Nat × AV)} {K : AV → Option R} (h : evBuild E T parts K = some out) : Det (fun R K => evBuild E T parts K) K out := by
  unfold evBuild at h
  split at h
  · rename_i r hr
    obtain ⟨h1, h⟩ := bif_some h
    split at h
    · rename_i fs hk
      split at h
      · rename_i cells hc
        exact ⟨_, h, fun R' K' => by simp only [evBuild, hr, h1, hk, hc, cond_true]⟩
      · cases h
    · rename_i n e hk
      split at h
      · rename_i re hre
        split at h
        · rename_i cells hc
          exact ⟨_, h, fun R' K' => by simp only [evBuild, hr, h1, hk, hre, hc, cond_true]⟩
        · cases h
      · cases h
    · cases h
  · cases h
theorem det_len {T : TypeId} {x : AV} {K : AV → Option R} (h : evLen E T x bs K = some out) : ∃ v, K v = some out ∧ ∀ bs2, (∀ b ∈ ment [x], look bs2 b = look bs b) → ∀ (R' : Type) (K' : AV → Option R'), evLen E T x bs2 K' = K' v := by
  unfold evLen at h
  split at h
  · rename_i s hk
    exact ⟨_, h, fun bs2 ha R' K' => by simp only [evLen, hk]⟩
  · rename_i e t l hk
    exact ⟨_, h, fun bs2 ha R' K' => by simp only [evLen, hk]⟩
  · rename_i e hk
    exact ⟨_, h, fun bs2 ha R' K' => by simp only [evLen, hk]⟩
  · rename_i e b v hk
    split at h
    · rename_i T' t xs hb
      exact ⟨_, h, fun bs2 ha R' K' => by simp only [evLen, hk, getBox_agr (ha b (by simp [ment])), hb]⟩
    · cases h
  · rename_i n e hk
    refine ⟨_, h, fun bs2 ha R' K' => ?_⟩
    simp only [evLen, hk]
  · cases h
theorem det_mm {mx : Bool} {l : List AV} {K : AV → Option R} (h : evMm mx l K = some out) : Det (fun R K => evMm mx l K) K out := by
  unfold evMm at h
  split at h
  · obtain ⟨h1, h⟩ := bif_some h
    exact ⟨_, h, fun R' K' => by simp only [evMm, h1, cond_true]⟩
  · cases h
theorem det_assert {T : TypeId} {ok : Bool} {x : AV} {K : AV → Option R} (h : evAssert E T ok x K = some out) : Det (fun R K => evAssert E T ok x K) K out := by
  unfold evAssert at h
  split at h
  · split at h
    · rename_i z hz
      obtain ⟨h1, h⟩ := bif_some h
      exact ⟨_, h, fun R' K' => by simp only [evAssert, hz, h1, cond_true]⟩
    · cases h
  · cases h
end
end Go.Proofs.Ytfdppbfefplikaa.Ev
