/- Each operation: one value and new entries ahead of the boxes, by its footprint. -/
import Derived.Test.YtfdppbfefplikaaEv22
namespace Go.Proofs.Ytfdppbfefplikaa.Ev
open Go
set_option linter.unusedVariables false
set_option linter.unusedSimpArgs false
section
variable {P : Program} {E : Env} {R : Type} {out : R} {bs bs2 : Boxes}
theorem asTy_bs : ∀ (t : Ty) (x : AV), asTy bs t x = asTy bs2 t x := by
  intro t x
  unfold asTy
  split <;> rfl
theorem gather_bs : ∀ (t : Ty) (l : List AV), gather bs t l = gather bs2 t l
  | .pair a b, l => by
    simp only [gather]
    rw [gather_bs a l]
    split
    · rw [gather_bs b]
    · rfl
  | .unit, l => rfl
  | .int k, l => by cases l <;> simp only [gather]; rw [asTy_bs]
  | .bool, l => by cases l <;> simp only [gather]; rw [asTy_bs]
  | .str, l => by cases l <;> simp only [gather]; rw [asTy_bs]
  | .err, l => by cases l <;> simp only [gather]; rw [asTy_bs]
  | .sl t, l => by cases l <;> simp only [gather]; rw [asTy_bs]
  | .nptr t, l => by cases l <;> simp only [gather]; rw [asTy_bs]
theorem gatherAll_bs (t : Ty) : ∀ (l : List (Nat × AV)) (n : Nat), gatherAll bs t n l = gatherAll bs2 t n l
  | [], n => rfl
  | (i, v) :: l, n => by
    simp only [gatherAll]
    rw [gather_bs (bs2 := bs2) t (leaves v), gatherAll_bs t l (n + 1)]
theorem Eff.mono {A A' : Option (List Nat)} {f : Boxes → (R : Type) → (AV → Boxes → Option R) → Option R} {K : AV → Boxes → Option R} (h : Eff A f bs K out)
    (h1 : ∀ bs2, Agr A' bs bs2 → Agr A bs bs2) (h2 : ∀ b, InA A b → InA A' b) : Eff A' f bs K out := by
  obtain ⟨v, ch, k1, k2, k3⟩ := h
  exact ⟨v, ch, k1, fun bs2 ha => k2 bs2 (h1 bs2 ha), fun x hx => h2 _ (k3 x hx)⟩
/-- A value alone. -/
theorem Eff.val {A : Option (List Nat)} {f : Boxes → (R : Type) → (AV → Boxes → Option R) → Option R} {K : AV → Boxes → Option R}
    (h : ∃ v, K v bs = some out ∧ ∀ bs2, Agr A bs bs2 → ∀ (R' : Type) (K' : AV → Boxes → Option R'), f bs2 R' K' = K' v bs2) : Eff A f bs K out := by
  obtain ⟨v, h1, h2⟩ := h
  exact ⟨v, [], h1, h2, fun x hx => by cases hx⟩
theorem nextVer_agr {b : Nat} (h : look bs2 b = look bs b) : nextVer bs2 b = nextVer bs b := by simp only [nextVer, h]
theorem eff_newRow {d : Option Nat} {T : TypeId} {t : Ty} {xs : List t.den} {K : AV → Boxes → Option R} (h : newRow d bs T t xs K = some out) :
    Eff (some (nidL d)) (fun bs R K => newRow d bs T t xs K) bs K out := by
  cases d with
  | none => cases h
  | some d =>
    refine ⟨_, [(d, (nextVer bs d, .row T t xs))], h, fun bs2 ha R' K' => ?_, fun x hx => ?_⟩
    · simp only [newRow, nextVer_agr (ha d (by simp [nidL])), List.singleton_append]
    · simp only [List.mem_singleton] at hx; subst hx; simp [InA, nidL]
theorem eff_newVar {d : Option Nat} {T : TypeId} {cells : List AV} {K : AV → Boxes → Option R} (h : newVar d bs T cells K = some out) :
    Eff (some (nidL d)) (fun bs R K => newVar d bs T cells K) bs K out := by
  cases d with
  | none => cases h
  | some d =>
    simp only [newVar] at h
    obtain ⟨h1, h⟩ := bif_some h
    refine ⟨_, [(d, (nextVer bs d, .var T cells))], h, fun bs2 ha R' K' => ?_, fun x hx => ?_⟩
    · simp only [newVar, h1, cond_true, nextVer_agr (ha d (by simp [nidL])), List.singleton_append]
    · simp only [List.mem_singleton] at hx; subst hx; simp [InA, nidL]
theorem eff_buildSlice {d : Option Nat} {T : TypeId} {n : Nat} {parts : List (Nat × AV)} {K : AV → Boxes → Option R} (h : evBuildSlice E d T n parts bs K = some out) :
    Eff (some (nidL d)) (fun bs R K => evBuildSlice E d T n parts bs K) bs K out := by
  unfold evBuildSlice at h
  split at h
  · rename_i e hk
    split at h
    · rename_i r hr
      obtain ⟨h1, h⟩ := bif_some h
      split at h
      · rename_i xs hxs
        obtain ⟨v, ch, k1, k2, k3⟩ := eff_newRow h
        refine ⟨v, ch, k1, fun bs2 ha R' K' => ?_, k3⟩
        simp only [evBuildSlice, hk, hr, h1, cond_true]
        rw [gatherAll_bs (bs2 := bs) r.shape parts 0, hxs]
        exact k2 bs2 ha R' K'
      · cases h
    · cases h
  · cases h
theorem eff_makeSlice {d : Option Nat} {T : TypeId} {x y : AV} {K : AV → Boxes → Option R} (h : evMakeSlice E d T x y bs K = some out) :
    Eff (some (nidL d)) (fun bs R K => evMakeSlice E d T x y bs K) bs K out := by
  unfold evMakeSlice at h
  split at h
  · rename_i n m e hk
    split at h
    · rename_i r hr
      split at h
      · rename_i z hz
        obtain ⟨h1, h⟩ := bif_some h
        obtain ⟨v, ch, k1, k2, k3⟩ := eff_newRow h
        refine ⟨v, ch, k1, fun bs2 ha R' K' => ?_, k3⟩
        simp only [evMakeSlice, hk, hr]
        rw [gather_bs (bs2 := bs) r.shape r.zero, hz]
        simp only [h1, cond_true]
        exact k2 bs2 ha R' K'
      · cases h
    · cases h
  · cases h
theorem srcOf_agr {e : TypeId} {t : Ty} {y : AV} (h : ∀ b ∈ ment [y], look bs2 b = look bs b) : srcOf E bs2 e t y = srcOf E bs e t y := by
  unfold srcOf
  split <;> try rfl
  rename_i b v
  rw [getBox_agr (h b (by simp [ment]))]
theorem eff_append {d : Option Nat} {T : TypeId} {x y : AV} {K : AV → Boxes → Option R} {A : List Nat} (hd : ∀ b ∈ nidL d, b ∈ A) (hx : ∀ b ∈ ment [x], b ∈ A) (hy : ∀ b ∈ ment [y], b ∈ A)
    (h : evAppend E d T x y bs K = some out) : Eff (some A) (fun bs R K => evAppend E d T x y bs K) bs K out := by
  unfold evAppend at h
  split at h
  · rename_i e hk
    split at h
    · rename_i r hr
      obtain ⟨h1, h⟩ := bif_some h
      split at h
      · rename_i ys hys
        split at h
        · obtain ⟨h2, h⟩ := bif_some h
          obtain ⟨v, ch, k1, k2, k3⟩ := eff_newRow h
          refine ⟨v, ch, k1, fun bs2 ha R' K' => ?_, fun q hq => hd _ (k3 q hq)⟩
          simp only [evAppend, hk, hr, h1, cond_true]
          rw [srcOf_agr (bs := bs) (fun b hb => ha b (hy b hb)), hys]
          simp only [h2, cond_true]
          exact k2 bs2 (fun b hb => ha b (hd b hb)) R' K'
        · rename_i b v _
          split at h
          · rename_i e' t xs hb
            obtain ⟨h2, h⟩ := bif_some h
            split at h
            · rename_i et
              subst et
              obtain ⟨h3, h⟩ := bif_some h
              obtain ⟨v', ch, k1, k2, k3⟩ := eff_newRow h
              have hbA : b ∈ A := hx b (by simp [ment])
              refine ⟨v', ch ++ [(b, (v, .dead))], by simpa [kill] using k1, fun bs2 ha R' K' => ?_, fun q hq => ?_⟩
              · simp only [evAppend, hk, hr, h1, cond_true]
                rw [srcOf_agr (bs := bs) (fun b hb => ha b (hy b hb)), hys]
                simp only [getBox_agr (ha b hbA), hb, h2, cond_true, h3, dif_pos]
                have := k2 (kill bs2 b v) (fun c hc => by
                  have h5 := ha c (hd c hc)
                  unfold kill
                  by_cases e6 : b = c
                  · subst e6; rw [look_cons_eq, look_cons_eq]
                  · rw [look_cons_ne _ _ e6, look_cons_ne _ _ e6]; exact h5) R' K'
                refine Eq.trans this ?_
                simp [kill]
              · rcases List.mem_append.1 hq with hq | hq
                · exact hd _ (k3 q hq)
                · simp only [List.mem_singleton] at hq; subst hq; exact hbA
            · cases h
          · cases h
        · cases h
      · cases h
    · cases h
  · cases h
theorem eff_store {T : TypeId} {x y : AV} {K : AV → Boxes → Option R} (h : evStore E T x y bs (fun bs => K .und bs) = some out) :
    Eff (some (ment [x])) (fun bs R K => evStore E T x y bs fun bs => K .und bs) bs K out := by
  unfold evStore at h
  split at h
  · cases h
  · rename_i r hr
    obtain ⟨h1, h⟩ := bif_some h
    split at h
    · rename_i b v off _
      split at h
      · rename_i T' cells hb
        obtain ⟨h2, h⟩ := bif_some h
        refine ⟨.und, [(b, (v, _))], h, fun bs2 ha R' K' => ?_, fun q hq => ?_⟩
        · simp only [evStore, hr, h1, cond_true, getBox_agr (ha b (by simp [ment])), hb, h2, List.singleton_append]
        · simp only [List.mem_singleton] at hq; subst hq; simp [InA, ment]
      · cases h
    · rename_i b v i off _
      split at h
      · rename_i T' t xs hb
        split at h
        · rename_i z hz
          obtain ⟨h2, h⟩ := bif_some h
          refine ⟨.und, [(b, (v, _))], h, fun bs2 ha R' K' => ?_, fun q hq => ?_⟩
          · simp only [evStore, hr, h1, cond_true, getBox_agr (ha b (by simp [ment])), hb]
            rw [gather_bs (bs2 := bs), hz]
            simp only [h2, cond_true, List.singleton_append]
          · simp only [List.mem_singleton] at hq; subst hq; simp [InA, ment]
        · cases h
      · cases h
    · cases h
theorem eff_conv {d : Option Nat} {src dst : TypeId} {x : AV} {K : AV → Boxes → Option R} (h : evConv E d src dst x bs K = some out) : Eff (some (ment [x])) (fun bs R K => evConv E d src dst x bs K) bs K out := by
  unfold evConv at h
  split at h
  · rename_i hs hd
    exact Eff.val ⟨_, h, fun bs2 ha R' K' => by simp only [evConv, hs, hd]⟩
  · rename_i hs hd
    exact Eff.val ⟨_, h, fun bs2 ha R' K' => by simp only [evConv, hs, hd]⟩
  · rename_i hs hd
    split at h
    · rename_i hk
      exact Eff.val ⟨_, h, fun bs2 ha R' K' => by simp only [evConv, hs, hd, hk]⟩
    · cases h
  · rename_i hs hd
    split at h
    · rename_i hk
      exact Eff.val ⟨_, h, fun bs2 ha R' K' => by simp only [evConv, hs, hd, hk]⟩
    · cases h
  · rename_i e b v hs hd
    split at h
    · rename_i e' xs hk hb
      obtain ⟨h1, h⟩ := bif_some h
      exact Eff.val ⟨_, h, fun bs2 ha R' K' => by simp only [evConv, hs, hd, hk, getBox_agr (ha b (by simp [ment])), hb, h1, cond_true]⟩
    · cases h
  · rename_i hs hd
    split at h
    · rename_i hk
      exact Eff.val ⟨_, h, fun bs2 ha R' K' => by simp only [evConv, hs, hd, hk]⟩
    · cases h
  · cases h
end
end Go.Proofs.Ytfdppbfefplikaa.Ev
