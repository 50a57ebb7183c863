/- The evaluator's control flow is sound over the kit's rules for code. -/
import Derived.Test.YtfdppbfefplikaaEv1
namespace Go.Proofs.Ytfdppbfefplikaa.Ev
open Go
set_option linter.unusedVariables false
section
variable {R : Type} {P : Program}
abbrev Post := Exit → Act → World → Prop
/-- The relation between an abstract state and a machine's: any one that the operations keep. -/
abbrev SRel := St → Act → World → Prop

/-- What follows is good: whatever it tells, the post holds. -/
structure Good (Rl : SRel) (out : R) (K : Kont R) (Q : Post) : Prop where
  normal : ∀ st a w, Rl st a w → K.normal st = some out → Q .normal a w
  ret : ∀ st a w, Rl st a w → K.ret st = some out → Q .ret a w
  exits : ∀ i st a w, Rl st a w → findExit K.exits i st = some out → Q (.exit i) a w

/-- At a region: its operations, one behind the other. -/
def RegOk (P : Program) (E : Env) (Rl : SRel) (out : R) : Prop :=
  ∀ (all ops : List Oper) (st : St) (K : St → Option R) (a : Act) (w : World) (Q : Post),
    Rl st a w → evOpsF E all ops st K = some out → (∀ st' a' w', Rl st' a' w' → K st' = some out → Q .normal a' w') →
    wpList P all.toArray Q ops a w
/-- At a region that draws its order. -/
def DrawOk (P : Program) (E : Env) (Rl : SRel) (out : R) : Prop :=
  ∀ (id : Nat) (ops : Array Oper) (st : St) (K : St → Option R) (a : Act) (w : World) (Q : Post),
    Rl st a w → evOpsD E ops.toList ops.toList 0 (freezeT E st (frzOf E.frz (some (1000000 + id)))) [] K = some out → (∀ st' a' w', Rl st' a' w' → K st' = some out → Q .normal a' w') →
    (Code.region id ops true).wp P Q a w
structure CondOk (Rl : SRel) : Prop where
  yes : ∀ st a w t b, Rl st a w → getS st.slots t = .val .bool b → a.eval (.tmp t) = .bool b
  set : ∀ st a w t b, Rl st a w → getS st.slots t = .val .bool b → Rl ⟨setS st.slots t (.val .bool b), st.bs⟩ a w

/-- All points of a piece of code, with what is asked at each. -/
def AllPts (P : Program) (E : Env) (T : Nat → St → Option R) (cuts : List Nat) (lv : Nat) (φ : Nat → (Act → World → Prop) → Prop) :
    Code → Nat → Kont R → Post → Prop
  | .seq a b, n, K, Q =>
    (memN cuts n = true → φ n (b.wp P Q)) ∧
    AllPts P E T cuts lv φ a (n + 1) { K with normal := bif memN cuts n then T n else evCode E T cuts b (n + 1 + cnt a) K } (Exit.then (b.wp P Q) Q) ∧
    AllPts P E T cuts lv φ b (n + 1 + cnt a) K Q
  | .loop b, n, K, Q =>
    φ n (Code.rounds P b Q lv) ∧ AllPts P E T cuts lv φ b (n + 1) { K with normal := T n } (Exit.then (Code.rounds P b Q lv) Q)
  | .cond _ a b, n, K, Q => AllPts P E T cuts lv φ a n K Q ∧ AllPts P E T cuts lv φ b (n + cnt a) K Q
  | .block i b, n, K, Q => AllPts P E T cuts lv φ b n { K with exits := (i, K.normal) :: K.exits } (Exit.inBlock i Q)
  | _, _, _, _ => True

/-- At a point: what the table tells there is good. -/
def Holds (Rl : SRel) (T : Nat → St → Option R) (out : R) (n : Nat) (W : Act → World → Prop) : Prop :=
  ∀ st a w, T n st = some out → Rl st a w → W a w

variable {E : Env} {Rl : SRel} {T : Nat → St → Option R} {cuts : List Nat} {lv : Nat} {out : R}

theorem good_seq {K : Kont R} {Q : Post} {N : St → Option R} {W : Act → World → Prop} (h : Good Rl out K Q)
    (hn : ∀ st a w, Rl st a w → N st = some out → W a w) : Good Rl out { K with normal := N } (Exit.then W Q) :=
  ⟨hn, h.ret, h.exits⟩
theorem good_block {K : Kont R} {Q : Post} {i : Nat} (h : Good Rl out K Q) : Good Rl out { K with exits := (i, K.normal) :: K.exits } (Exit.inBlock i Q) := by
  refine ⟨h.normal, h.ret, fun j st a w hr hj => ?_⟩
  simp only [findExit] at hj
  simp only [Exit.inBlock]
  by_cases e : j = i
  · subst e
    rw [if_pos rfl]
    rw [show Nat.beq j j = true from Nat.beq_refl j] at hj
    exact h.normal _ _ _ hr hj
  · rw [if_neg e]
    have hb : Nat.beq i j = false := by
      cases hh : Nat.beq i j with
      | false => rfl
      | true => exact absurd (Nat.eq_of_beq_eq_true hh).symm e
    rw [hb] at hj
    exact h.exits _ _ _ _ hr hj

/-- THE EVALUATOR IS SOUND, as far as its table is. -/
theorem evCode_sound (hreg : RegOk (R := R) P E Rl out) (hdr : DrawOk (R := R) P E Rl out) (hc : CondOk Rl) : ∀ (c : Code) (n : Nat) (K : Kont R) (Q : Post) (st : St) (a : Act) (w : World),
    AllPts P E T cuts lv (Holds Rl T out) c n K Q → Good Rl out K Q → Rl st a w → evCode E T cuts c n K st = some out → c.wp P Q a w
  | .skip, n, K, Q, st, a, w, _, hg, hr, he => wp_skip (hg.normal _ _ _ hr he)
  | .region id ops draw, n, K, Q, st, a, w, _, hg, hr, he => by
    simp only [evCode] at he
    cases draw with
    | true => exact hdr id ops st K.normal a w Q hr he (fun st' a' w' h1 h2 => hg.normal _ _ _ h1 h2)
    | false => exact wp_region_list (by simpa using hreg ops.toList ops.toList st K.normal a w Q hr he (fun st' a' w' h1 h2 => hg.normal _ _ _ h1 h2))
  | .seq x y, n, K, Q, st, a, w, hp, hg, hr, he => by
    obtain ⟨h1, h2, h3⟩ := hp
    refine wp_seq ?_
    refine evCode_sound hreg hdr hc x (n + 1) _ _ st a w h2 (good_seq hg fun st' a' w' hr' hn => ?_) hr he
    cases hm : memN cuts n with
    | true => rw [hm] at hn; exact h1 hm st' a' w' hn hr'
    | false => rw [hm] at hn; exact evCode_sound hreg hdr hc y _ K Q st' a' w' h3 hg hr' hn
  | .cond c x y, n, K, Q, st, a, w, hp, hg, hr, he => by
    obtain ⟨h1, h2⟩ := hp
    simp only [evCode] at he
    cases c with
    | tmp t =>
      simp only at he
      split at he
      · rename_i b hb
        refine wp_cond (t := b) (hc.yes _ _ _ _ _ hr hb) ?_
        have hs := hc.set _ _ _ _ _ hr hb
        cases b with
        | true => exact evCode_sound hreg hdr hc x n K Q _ a w h1 hg hs he
        | false => exact evCode_sound hreg hdr hc y _ K Q _ a w h2 hg hs he
      · cases he
    | const v =>
      cases v with
      | bool b =>
        refine wp_cond (t := b) rfl ?_
        cases b with
        | true => exact evCode_sound hreg hdr hc x n K Q st a w h1 hg hr he
        | false => exact evCode_sound hreg hdr hc y _ K Q st a w h2 hg hr he
      | _ => cases he
    | _ => cases he
  | .block i b, n, K, Q, st, a, w, hp, hg, hr, he => by
    exact wp_block (evCode_sound hreg hdr hc b n _ _ st a w hp (good_block hg) hr he)
  | .loop b, n, K, Q, st, a, w, hp, hg, hr, he => by
    exact wp_loop_rounds lv (hp.1 st a w he hr)
  | .exit i, n, K, Q, st, a, w, _, hg, hr, he => wp_exit (hg.exits _ _ _ _ hr he)
  | .ret, n, K, Q, st, a, w, _, hg, hr, he => wp_ret (hg.ret _ _ _ hr he)
  | .rangeFunc _ _ _ _, _, _, _, _, _, _, _, _, _, he => by simp [evCode] at he
  | .scope _, _, _, _, _, _, _, _, _, _, he => by simp [evCode] at he
  | .label _, _, _, _, _, _, _, _, _, _, he => by simp [evCode] at he
  | .goto _, _, _, _, _, _, _, _, _, _, he => by simp [evCode] at he
  | .refuse _, _, _, _, _, _, _, _, _, _, he => by simp [evCode] at he

/-- What is told from point j on. -/
noncomputable def evAt (E : Env) (T : Nat → St → Option R) (cuts : List Nat) (j : Nat) : Code → Nat → Kont R → St → Option R
  | .seq a b, n, K, st =>
    bif Nat.beq n j then evCode E T cuts b (n + 1 + cnt a) K st
    else bif Nat.ble (n + 1 + cnt a) j then evAt E T cuts j b (n + 1 + cnt a) K st
    else evAt E T cuts j a (n + 1) { K with normal := bif memN cuts n then T n else evCode E T cuts b (n + 1 + cnt a) K } st
  | .loop b, n, K, st =>
    bif Nat.beq n j then evCode E T cuts b (n + 1) { K with normal := T n } st
    else evAt E T cuts j b (n + 1) { K with normal := T n } st
  | .cond _ a b, n, K, st => bif Nat.ble (n + cnt a) j then evAt E T cuts j b (n + cnt a) K st else evAt E T cuts j a n K st
  | .block i b, n, K, st => evAt E T cuts j b n { K with exits := (i, K.normal) :: K.exits } st
  | _, _, _, _ => none

theorem rounds_mono {c : Code} {Q Q' : Post} (h : ∀ e a w, Q e a w → Q' e a w) : ∀ (n m : Nat), n ≤ m → ∀ a w, Code.rounds P c Q n a w → Code.rounds P c Q' m a w
  | 0, _, _, _, _, h0 => h0.elim
  | n + 1, 0, hn, _, _, _ => by omega
  | n + 1, m + 1, hn, a, w, h0 => by
    refine wp_mono (Q := Exit.then (Code.rounds P c Q n) Q) h0 fun e a w hq => ?_
    cases e with
    | normal => exact rounds_mono h n m (by omega) a w hq
    | _ => exact h _ _ _ hq

theorem then_mono {W W' : Act → World → Prop} {Q Q' : Post} (hw : ∀ a w, W a w → W' a w) (h : ∀ e a w, Q e a w → Q' e a w) : ∀ e a w, Exit.then W Q e a w → Exit.then W' Q' e a w := by
  intro e a w hq
  cases e with
  | normal => exact hw _ _ hq
  | _ => exact h _ _ _ hq
theorem block_mono {i : Nat} {Q Q' : Post} (h : ∀ e a w, Q e a w → Q' e a w) : ∀ e a w, Exit.inBlock i Q e a w → Exit.inBlock i Q' e a w := by
  intro e a w hq
  cases e with
  | exit j =>
    simp only [Exit.inBlock] at hq ⊢
    by_cases e : j = i
    · rw [if_pos e] at hq ⊢; exact h _ _ _ hq
    · rw [if_neg e] at hq ⊢; exact h _ _ _ hq
  | _ => exact h _ _ _ hq

theorem beq_no {a b : Nat} (h : a ≠ b) : Nat.beq a b = false := by
  cases hh : Nat.beq a b with
  | false => rfl
  | true => exact absurd (Nat.eq_of_beq_eq_true hh) h
theorem ble_no {a b : Nat} (h : b < a) : Nat.ble a b = false := by
  cases hh : Nat.ble a b with
  | false => rfl
  | true => have := Nat.le_of_ble_eq_true hh; omega

/-- One round more of the table: every point holds at the next level, if it tells there what the code tells from there on by the table's last state. -/
theorem step_pts (hreg : RegOk (R := R) P E Rl out) (hdr : DrawOk (R := R) P E Rl out) (hc : CondOk Rl) (T' : Nat → St → Option R)
    (root : Nat → St → Option R) (heq : ∀ j st, T' j st = some out → ∃ st', root j st' = some out ∧ ∀ a w, Rl st a w → Rl st' a w) :
    ∀ (c : Code) (n : Nat) (K K' : Kont R) (Q Q' : Post),
      (∀ j, n ≤ j → j < n + cnt c → ∀ st, root j st = evAt E T cuts j c n K st) →
      AllPts P E T cuts lv (Holds Rl T out) c n K Q → Good Rl out K Q → (∀ e a w, Q e a w → Q' e a w) →
      AllPts P E T' cuts (lv + 1) (Holds Rl T' out) c n K' Q'
  | .seq x y, n, K, K', Q, Q', hroot, hp, hg, hq => by
    obtain ⟨h1, h2, h3⟩ := hp
    have hg' : Good Rl out { K with normal := bif memN cuts n then T n else evCode E T cuts y (n + 1 + cnt x) K } (Exit.then (y.wp P Q) Q) :=
      good_seq hg fun st' a' w' hr' hn => by
        cases hm : memN cuts n with
        | true => rw [hm] at hn; exact h1 hm st' a' w' hn hr'
        | false => rw [hm] at hn; exact evCode_sound hreg hdr hc y _ K Q st' a' w' h3 hg hr' hn
    refine ⟨fun hm st a w ht hr => ?_, ?_, ?_⟩
    · obtain ⟨st', he, hr'⟩ := heq n st ht
      rw [hroot n (Nat.le_refl _) (by simp only [cnt]; omega) st'] at he
      simp only [evAt, show Nat.beq n n = true from Nat.beq_refl n, cond_true] at he
      exact wp_mono (evCode_sound hreg hdr hc y _ K Q st' a w h3 hg (hr' a w hr) he) hq
    · refine step_pts hreg hdr hc T' root heq x (n + 1) _ _ _ _ (fun j hj1 hj2 st => ?_) h2 hg' (then_mono (fun a w h => wp_mono h hq) hq)
      rw [hroot j (by omega) (by simp only [cnt]; omega) st]
      simp only [evAt, beq_no (show n ≠ j by omega), ble_no (show j < n + 1 + cnt x by omega), cond_false]
    · refine step_pts hreg hdr hc T' root heq y (n + 1 + cnt x) K K' Q Q' (fun j hj1 hj2 st => ?_) h3 hg hq
      rw [hroot j (by omega) (by simp only [cnt]; omega) st]
      simp only [evAt, beq_no (show n ≠ j by omega), Nat.ble_eq_true_of_le hj1, cond_false, cond_true]
  | .loop b, n, K, K', Q, Q', hroot, hp, hg, hq => by
    obtain ⟨h1, h2⟩ := hp
    have hg' : Good Rl out { K with normal := T n } (Exit.then (Code.rounds P b Q lv) Q) := good_seq hg fun st' a' w' hr' hn => h1 st' a' w' hn hr'
    refine ⟨fun st a w ht hr => ?_, ?_⟩
    · obtain ⟨st', he, hr'⟩ := heq n st ht
      rw [hroot n (Nat.le_refl _) (by simp only [cnt]; omega) st'] at he
      simp only [evAt, show Nat.beq n n = true from Nat.beq_refl n, cond_true] at he
      have hw := evCode_sound hreg hdr hc b _ _ _ st' a w h2 hg' (hr' a w hr) he
      exact rounds_mono hq (lv + 1) (lv + 1) (Nat.le_refl _) a w hw
    · refine step_pts hreg hdr hc T' root heq b (n + 1) _ _ _ _ (fun j hj1 hj2 st => ?_) h2 hg' (then_mono (fun a w h => rounds_mono hq _ _ (Nat.le_succ _) a w h) hq)
      rw [hroot j (by omega) (by simp only [cnt]; omega) st]
      simp only [evAt, beq_no (show n ≠ j by omega), cond_false]
  | .cond c x y, n, K, K', Q, Q', hroot, hp, hg, hq => by
    obtain ⟨h1, h2⟩ := hp
    refine ⟨step_pts hreg hdr hc T' root heq x n K K' Q Q' (fun j hj1 hj2 st => ?_) h1 hg hq, step_pts hreg hdr hc T' root heq y _ K K' Q Q' (fun j hj1 hj2 st => ?_) h2 hg hq⟩
    · rw [hroot j (by omega) (by simp only [cnt]; omega) st]
      simp only [evAt, ble_no (show j < n + cnt x by omega), cond_false]
    · rw [hroot j (by omega) (by simp only [cnt]; omega) st]
      simp only [evAt, Nat.ble_eq_true_of_le hj1, cond_true]
  | .block i b, n, K, K', Q, Q', hroot, hp, hg, hq => by
    refine step_pts hreg hdr hc T' root heq b n _ _ _ _ (fun j hj1 hj2 st => ?_) hp (good_block hg) (block_mono hq)
    rw [hroot j hj1 (by simp only [cnt]; omega) st]
    simp only [evAt]
  | .skip, _, _, _, _, _, _, _, _, _ => trivial
  | .region _ _ _, _, _, _, _, _, _, _, _, _ => trivial
  | .exit _, _, _, _, _, _, _, _, _, _ => trivial
  | .ret, _, _, _, _, _, _, _, _, _ => trivial
  | .rangeFunc _ _ _ _, _, _, _, _, _, _, _, _, _ => trivial
  | .scope _, _, _, _, _, _, _, _, _, _ => trivial
  | .label _, _, _, _, _, _, _, _, _, _ => trivial
  | .goto _, _, _, _, _, _, _, _, _, _ => trivial
  | .refuse _, _, _, _, _, _, _, _, _, _ => trivial

theorem all_none (h : ∀ j st, T j st ≠ some out) : ∀ (c : Code) (n : Nat) (K : Kont R) (Q : Post), AllPts P E T cuts lv (Holds Rl T out) c n K Q
  | .seq x y, n, K, Q => ⟨fun _ st a w ht _ => absurd ht (h _ _), all_none h x _ _ _, all_none h y _ _ _⟩
  | .loop b, n, K, Q => ⟨fun st a w ht _ => absurd ht (h _ _), all_none h b _ _ _⟩
  | .cond _ x y, n, K, Q => ⟨all_none h x _ _ _, all_none h y _ _ _⟩
  | .block _ b, n, K, Q => all_none h b _ _ _
  | .skip, _, _, _ => trivial
  | .region _ _ _, _, _, _ => trivial
  | .exit _, _, _, _ => trivial
  | .ret, _, _, _ => trivial
  | .rangeFunc _ _ _ _, _, _, _ => trivial
  | .scope _, _, _, _ => trivial
  | .label _, _, _, _ => trivial
  | .goto _, _, _, _ => trivial
  | .refuse _, _, _, _ => trivial

/-- A whole body, by a table that is told round by round. -/
theorem body_sound (hreg : RegOk (R := R) P E Rl out) (hdr : DrawOk (R := R) P E Rl out) (hc : CondOk Rl) (Tf : Nat → Nat → St → Option R) (c : Code) (K : Kont R) (Q : Post)
    (h0 : ∀ j st, Tf 0 j st = none)
    (hs : ∀ k j st, Tf (k + 1) j st = some out → ∃ st', evAt E (Tf k) cuts j c 0 K st' = some out ∧ ∀ a w, Rl st a w → Rl st' a w)
    (hg : Good Rl out K Q) (k : Nat) (st : St) (a : Act) (w : World) (hr : Rl st a w) (he : evCode E (Tf k) cuts c 0 K st = some out) : c.wp P Q a w := by
  have key : ∀ k, AllPts P E (Tf k) cuts k (Holds Rl (Tf k) out) c 0 K Q := by
    intro k
    induction k with
    | zero => exact all_none (fun j st => by rw [h0]; simp) c 0 K Q
    | succ k ih =>
      exact step_pts hreg hdr hc (Tf (k + 1)) (fun j st => evAt E (Tf k) cuts j c 0 K st) (hs k) c 0 K K Q Q (fun _ _ _ _ => rfl) ih hg (fun _ _ _ h => h)
  exact evCode_sound hreg hdr hc c 0 K Q st a w (key k) hg hr he
end
end Go.Proofs.Ytfdppbfefplikaa.Ev
