/- Mail dates: gaps and remarks, by the program and by its reference. -/
import Derived.Test.YtddnfappkfiidaaGreatPuRun
namespace Go.Proofs.YtddnfappkfiidaaGreat.Ev
open Go
set_option linter.unusedVariables false
set_option linter.unusedSimpArgs false
/-- What follows a remark that is d deep. -/
def rmk : Nat → List Int → Option (List Int)
  | _, [] => none
  | d, x :: l => if x = 92 then (match l with | [] => none | _ :: r => rmk d r) else if x = 40 then rmk (d + 1) l else if x = 41 then (if d = 1 then some l else rmk (d - 1) l) else rmk d l
theorem rmk_cut : ∀ (n d : Nat) (l r : List Int), l.length ≤ n → rmk d l = some r → ∃ p, l = p ++ r ∧ p ≠ [] := by
  intro n; induction n with
  | zero =>
    intro d l r hn h
    cases l with
    | nil => simp [rmk] at h
    | cons x l => simp at hn
  | succ n ih =>
    intro d l r hn h
    cases l with
    | nil => simp [rmk] at h
    | cons x l =>
      simp only [List.length_cons] at hn
      unfold rmk at h
      by_cases c1 : x = 92
      · rw [if_pos c1] at h
        cases l with
        | nil => simp at h
        | cons y l =>
          simp only at h
          obtain ⟨p, hp, _⟩ := ih d l r (by simp only [List.length_cons] at hn; omega) h
          exact ⟨x :: y :: p, by rw [hp]; rfl, by simp⟩
      · rw [if_neg c1] at h
        have go : ∀ d', rmk d' l = some r → ∃ p, x :: l = p ++ r ∧ p ≠ [] := fun d' h' => by
          obtain ⟨p, hp, _⟩ := ih d' l r (by omega) h'
          exact ⟨x :: p, by rw [hp]; rfl, by simp⟩
        by_cases c2 : x = 40
        · rw [if_pos c2] at h; exact go _ h
        · rw [if_neg c2] at h
          by_cases c3 : x = 41
          · rw [if_pos c3] at h
            by_cases c4 : d = 1
            · rw [if_pos c4] at h
              simp only [Option.some.injEq] at h
              exact ⟨[x], by rw [h]; rfl, by simp⟩
            · rw [if_neg c4] at h; exact go _ h
          · rw [if_neg c3] at h; exact go _ h
def spc (x : Int) : Prop := x = 32 ∨ x = 9 ∨ x = 13 ∨ x = 10
instance (x : Int) : Decidable (spc x) := by unfold spc; infer_instance
/-- What follows a gap. -/
def gpF : Nat → List Int → Option (List Int)
  | 0, l => some l
  | _ + 1, [] => some []
  | n + 1, x :: l => if spc x then gpF n l else if x = 40 then (match rmk 1 l with | none => none | some r => gpF n r) else some (x :: l)
def gp (l : List Int) : Option (List Int) := gpF l.length l
theorem gpF_eq : ∀ (n m : Nat) (l : List Int), l.length ≤ n → l.length ≤ m → gpF n l = gpF m l := by
  intro n; induction n with
  | zero =>
    intro m l hn hm
    have : l = [] := List.length_eq_zero_iff.1 (by omega)
    subst this
    cases m <;> rfl
  | succ n ih =>
    intro m l hn hm
    cases l with
    | nil => cases m <;> rfl
    | cons x l =>
      cases m with
      | zero => simp at hm
      | succ m =>
        simp only [List.length_cons] at hn hm
        simp only [gpF]
        by_cases c1 : spc x
        · rw [if_pos c1, if_pos c1]; exact ih m l (by omega) (by omega)
        · rw [if_neg c1, if_neg c1]
          by_cases c2 : x = 40
          · rw [if_pos c2, if_pos c2]
            cases h : rmk 1 l with
            | none => rfl
            | some r =>
              obtain ⟨p, hp, _⟩ := rmk_cut l.length 1 l r (Nat.le_refl _) h
              have : r.length ≤ l.length := by rw [hp, List.length_append]; omega
              exact ih m r (by omega) (by omega)
          · rw [if_neg c2, if_neg c2]
theorem gp_nil : gp [] = some [] := rfl
theorem gp_spc {x : Int} (h : spc x) (l : List Int) : gp (x :: l) = gp l := by
  unfold gp; simp only [List.length_cons, gpF, if_pos h]
theorem gp_rem (l : List Int) : gp (40 :: l) = match rmk 1 l with | none => none | some r => gp r := by
  unfold gp
  simp only [List.length_cons, gpF]
  rw [if_neg (by unfold spc; decide)]
  simp only [if_true]
  cases h : rmk 1 l with
  | none => rfl
  | some r =>
    obtain ⟨p, hp, _⟩ := rmk_cut l.length 1 l r (Nat.le_refl _) h
    exact gpF_eq _ _ _ (by rw [hp, List.length_append]; omega) (Nat.le_refl _)
theorem gp_no {x : Int} (h : ¬ spc x) (h2 : x ≠ 40) (l : List Int) : gp (x :: l) = some (x :: l) := by
  unfold gp; simp only [List.length_cons, gpF, if_neg h, if_neg h2]
theorem gp_cut : ∀ (n : Nat) (l r : List Int), l.length ≤ n → gp l = some r → ∃ p, l = p ++ r := by
  intro n; induction n with
  | zero =>
    intro l r hn h
    have : l = [] := List.length_eq_zero_iff.1 (by omega)
    subst this
    rw [gp_nil] at h
    exact ⟨[], by rw [← Option.some.inj h]; rfl⟩
  | succ n ih =>
    intro l r hn h
    cases l with
    | nil => rw [gp_nil] at h; exact ⟨[], by rw [← Option.some.inj h]; rfl⟩
    | cons x l =>
      simp only [List.length_cons] at hn
      by_cases c1 : spc x
      · rw [gp_spc c1] at h
        obtain ⟨p, hp⟩ := ih l r (by omega) h
        exact ⟨x :: p, by rw [hp]; rfl⟩
      · by_cases c2 : x = 40
        · subst c2
          rw [gp_rem] at h
          cases hr : rmk 1 l with
          | none => rw [hr] at h; cases h
          | some q =>
            rw [hr] at h
            obtain ⟨p, hp, _⟩ := rmk_cut l.length 1 l q (Nat.le_refl _) hr
            obtain ⟨p2, hp2⟩ := ih q r (by have := congrArg List.length hp; rw [List.length_append] at this; omega) h
            exact ⟨40 :: (p ++ p2), by rw [hp, hp2]; simp⟩
        · rw [gp_no c1 c2] at h
          exact ⟨[], by rw [Option.some.inj h]; rfl⟩
/-- A remark is one that is deep and then the rest. -/
theorem rmk_split : ∀ (n d : Nat) (l : List Int), l.length ≤ n → 1 ≤ d → ∀ e : Nat, 1 ≤ e → rmk (d + e) l = (rmk e l).bind (rmk d) := by
  intro n; induction n with
  | zero =>
    intro d l hn hd e he
    have : l = [] := List.length_eq_zero_iff.1 (by omega)
    subst this
    simp [rmk]
  | succ n ih =>
    intro d l hn hd e he
    cases l with
    | nil => simp [rmk]
    | cons x l =>
      simp only [List.length_cons] at hn
      conv => lhs; unfold rmk
      conv => rhs; unfold rmk
      by_cases c1 : x = 92
      · rw [if_pos c1, if_pos c1]
        cases l with
        | nil => rfl
        | cons y l => simp only; exact ih d l (by simp only [List.length_cons] at hn; omega) hd e he
      · rw [if_neg c1, if_neg c1]
        by_cases c2 : x = 40
        · rw [if_pos c2, if_pos c2, Nat.add_assoc]; exact ih d l (by omega) hd (e + 1) (by omega)
        · rw [if_neg c2, if_neg c2]
          by_cases c3 : x = 41
          · rw [if_pos c3, if_pos c3]
            by_cases c4 : e = 1
            · rw [if_pos c4, if_neg (by omega)]; simp [c4]
            · rw [if_neg c4, if_neg (by omega), show d + e - 1 = d + (e - 1) by omega]
              exact ih d l (by omega) hd (e - 1) (by omega)
          · rw [if_neg c3, if_neg c3]; exact ih d l (by omega) hd e he
/-- Where a rest begins. -/
def posO (n : Nat) : Option (List Int) → Int
  | none => -1
  | some r => ((n - r.length : Nat) : Int)
theorem rest_at {s : ByteArray} {i : Nat} {x : Int} {l : List Int} (h : (bytesOf s).drop i = x :: l) : i < s.size ∧ (bytesOf s).getD i 0 = x ∧ (bytesOf s).drop (i + 1) = l ∧ i + (l.length + 1) = s.size := by
  have hl := by_len s
  have hlen := congrArg List.length h
  rw [List.length_drop, List.length_cons] at hlen
  refine ⟨by omega, ?_, ?_, by omega⟩
  · rw [List.getD_eq_getElem?_getD]
    have := congrArg (fun z => z[0]?) h
    simp only [List.getElem?_drop, Nat.add_zero, List.getElem?_cons_zero] at this
    rw [this]; rfl
  · rw [← List.drop_drop, h]; rfl
theorem rest_end {s : ByteArray} {i : Nat} (hi : i ≤ s.size) (h : (bytesOf s).drop i = []) : i = s.size := by
  have hl := by_len s
  have hlen := congrArg List.length h
  rw [List.length_drop] at hlen
  simp only [List.length_nil] at hlen; omega
theorem remark_p3 (s : ByteArray) (hs : s.size ≤ 1000000) : ∀ (n : Nat) (l : List Int) (i d : Nat), l.length ≤ n → i ≤ s.size → (bytesOf s).drop i = l → 1 ≤ d → d + l.length ≤ 2000000 →
    Evn (fun f => (f_mail_remark_t f).1 ((), ((s, ()), (((i : Int), ()), (((d : Int), ()), ()))))) ((), ((posO s.size (rmk d l), ()), ())) := by
  intro n; induction n with
  | zero =>
    intro l i d hn hi hl hd hb
    have : l = [] := List.length_eq_zero_iff.1 (by omega)
    subst this
    have := rest_end hi hl
    refine Evn.some 1 fun f => ?_
    simp only [t_mail_remark, f_mail_remark_p3, fitsS_dec, Option.bind_some, Option.isNone_none, Option.isNone_some, Option.isSome_none, Option.isSome_some, Bool.not_true, Bool.not_false, cond_true, cond_false, cond_dec, beq_int, bne_int, not_dec, rmk, posO]
    rw [if_neg (by omega)]
  | succ n ih =>
    intro l i d hn hi hl hd hb
    cases l with
    | nil =>
      have := rest_end hi hl
      refine Evn.some 1 fun f => ?_
      simp only [t_mail_remark, f_mail_remark_p3, fitsS_dec, Option.bind_some, Option.isNone_none, Option.isNone_some, Option.isSome_none, Option.isSome_some, Bool.not_true, Bool.not_false, cond_true, cond_false, cond_dec, beq_int, bne_int, not_dec, rmk, posO]
      rw [if_neg (by omega)]
    | cons x l =>
      obtain ⟨k1, k2, k3, k4⟩ := rest_at hl
      simp only [List.length_cons] at hn hb
      have hbt := by_at s (i := (i : Int)) (by omega) (by omega)
      rw [Int.toNat_natCast, k2] at hbt
      have e1 : iadd .i64 (i : Int) 1 = ((i + 1 : Nat) : Int) := by rw [iadd_i64 (by omega)]; rfl
      have e2 : iadd .i64 ((i + 1 : Nat) : Int) 1 = ((i + 2 : Nat) : Int) := by rw [iadd_i64 (by omega)]; omega
      have e3 : iadd .i64 (d : Int) 1 = ((d + 1 : Nat) : Int) := by rw [iadd_i64 (by omega)]; rfl
      have e4 : isub .i64 (d : Int) 1 = ((d - 1 : Nat) : Int) := by rw [isub_i64 (by omega)]; omega
      have hin : (0 : Int) ≤ (i : Int) ∧ (i : Int) < (s.size : Int) := by omega
      unfold rmk
      by_cases c1 : x = 92
      · subst c1
        rw [if_pos rfl]
        cases l with
        | nil =>
          have k5 := rest_end (by omega) k3
          refine Evn.some 2 fun f => ?_
          simp only [t_mail_remark, f_mail_remark_p3, hbt, e1, e2, fitsS_dec, Option.bind_some, Option.isNone_none, Option.isNone_some, Option.isSome_none, Option.isSome_some, Bool.not_true, Bool.not_false, cond_true, cond_false, cond_dec, beq_int, bne_int, not_dec, and_dec, hin, and_self, if_true]
          rw [if_neg (by omega), if_neg (by omega)]; rfl
        | cons y r =>
          obtain ⟨k5, k6, k7, k8⟩ := rest_at k3
          refine (ih r (i + 2) d (by simp only [List.length_cons] at hn; omega) (by omega) k7 hd (by simp only [List.length_cons] at hb; omega)).step fun f => ?_
          simp only [t_mail_remark, f_mail_remark_p3, hbt, e1, e2, fitsS_dec, Option.bind_some, Option.isNone_none, Option.isNone_some, Option.isSome_none, Option.isSome_some, Bool.not_true, Bool.not_false, cond_true, cond_false, cond_dec, beq_int, bne_int, not_dec, and_dec, hin, and_self, if_true]
          rw [if_neg (by omega)]
      · rw [if_neg c1]
        by_cases c2 : x = 40
        · subst c2
          rw [if_pos rfl]
          refine (ih l (i + 1) (d + 1) (by omega) (by omega) k3 (by omega) (by omega)).step fun f => ?_
          simp only [t_mail_remark, f_mail_remark_p3, hbt, e1, e2, e3, fitsS_dec, Option.bind_some, Option.isNone_none, Option.isNone_some, Option.isSome_none, Option.isSome_some, Bool.not_true, Bool.not_false, cond_true, cond_false, cond_dec, beq_int, bne_int, not_dec, and_dec, hin, and_self, if_true]
          rw [if_neg (by decide), if_neg (by omega)]
        · rw [if_neg c2]
          by_cases c3 : x = 41
          · subst c3
            rw [if_pos rfl]
            by_cases c4 : d = 1
            · rw [if_pos c4]
              refine Evn.some 1 fun f => ?_
              simp only [t_mail_remark, f_mail_remark_p3, hbt, e1, e4, fitsS_dec, Option.bind_some, Option.isNone_none, Option.isNone_some, Option.isSome_none, Option.isSome_some, Bool.not_true, Bool.not_false, cond_true, cond_false, cond_dec, beq_int, bne_int, not_dec, and_dec, hin, and_self, if_true]
              rw [if_neg (by decide), if_neg (by decide), if_pos (by omega)]
              simp only [posO]
              congr 4; omega
            · rw [if_neg c4]
              refine (ih l (i + 1) (d - 1) (by omega) (by omega) k3 (by omega) (by omega)).step fun f => ?_
              simp only [t_mail_remark, f_mail_remark_p3, hbt, e1, e4, fitsS_dec, Option.bind_some, Option.isNone_none, Option.isNone_some, Option.isSome_none, Option.isSome_some, Bool.not_true, Bool.not_false, cond_true, cond_false, cond_dec, beq_int, bne_int, not_dec, and_dec, hin, and_self, if_true]
              rw [if_neg (by decide), if_neg (by decide), if_neg (by omega)]
          · rw [if_neg c3]
            refine (ih l (i + 1) d (by omega) (by omega) k3 (by omega) (by omega)).step fun f => ?_
            simp only [t_mail_remark, f_mail_remark_p3, hbt, e1, fitsS_dec, Option.bind_some, Option.isNone_none, Option.isNone_some, Option.isSome_none, Option.isSome_some, Bool.not_true, Bool.not_false, cond_true, cond_false, cond_dec, beq_int, bne_int, not_dec, and_dec, hin, and_self, if_true]
            rw [if_neg c1, if_neg c2, if_neg c3, if_neg (by omega)]
theorem mail_remark (s : ByteArray) (hs : s.size ≤ 1000000) {i : Nat} {l : List Int} (h : (bytesOf s).drop i = 40 :: l) : g_mail_remark ((), ((s, ()), (((i : Int), ()), ()))) = some ((), ((posO s.size (rmk 1 l), ()), ())) := by
  obtain ⟨k1, k2, k3, k4⟩ := rest_at h
  have hbt := by_at s (i := (i : Int)) (by omega) (by omega)
  rw [Int.toNat_natCast, k2] at hbt
  have e1 : iadd .i64 (i : Int) 1 = ((i + 1 : Nat) : Int) := by rw [iadd_i64 (by omega)]; rfl
  have e0 : iadd .i64 0 1 = 1 := by rw [iadd_i64 (by omega)]; rfl
  have hin : (0 : Int) ≤ (i : Int) ∧ (i : Int) < (s.size : Int) := by omega
  have := remark_p3 s hs l.length l (i + 1) 1 (Nat.le_refl _) (by omega) k3 (Nat.le_refl _) (by omega)
  have h2 : Evn (fun f => (f_mail_remark_t f).1 ((), ((s, ()), (((i : Int), ()), ((0, ()), ()))))) ((), ((posO s.size (rmk 1 l), ()), ())) := this.step fun f => by
    simp only [t_mail_remark, f_mail_remark_p3, hbt, e1, e0, fitsS_dec, Option.bind_some, Option.isNone_none, Option.isNone_some, Option.isSome_none, Option.isSome_some, Bool.not_true, Bool.not_false, cond_true, cond_false, cond_dec, beq_int, bne_int, not_dec, and_dec, hin, and_self, if_true]
    rw [if_neg (by decide), if_neg (by decide)]; rfl
  refine (h2.cast fun f => ?_).lim
  simp only [f_mail_remark_m]
theorem gap_p3 (s : ByteArray) (hs : s.size ≤ 1000000) : ∀ (n : Nat) (l : List Int) (i : Nat), l.length ≤ n → i ≤ s.size → (bytesOf s).drop i = l →
    Evn (fun f => (f_mail_Gap_t f).1 ((), ((s, ()), (((i : Int), ()), ())))) ((), ((posO s.size (gp l), ()), ())) := by
  have lsp : (⟨#[32, 9, 13, 10]⟩ : ByteArray) = strOf [32, 9, 13, 10] := by kernel_rfl
  have osp : okBy [32, 9, 13, 10] := by intro x hx; simp only [List.mem_cons, List.not_mem_nil, or_false] at hx; omega
  have nil : ∀ i : Nat, i = s.size → Evn (fun f => (f_mail_Gap_t f).1 ((), ((s, ()), (((i : Int), ()), ())))) ((), ((posO s.size (gp []), ()), ())) := fun i hi => by
    refine Evn.some 1 fun f => ?_
    simp only [t_mail_Gap, f_mail_Gap_p3, fitsS_dec, Option.bind_some, Option.isNone_none, Option.isNone_some, Option.isSome_none, Option.isSome_some, Bool.not_true, Bool.not_false, cond_true, cond_false, cond_dec, beq_int, bne_int, not_dec, gp_nil, posO, List.length_nil, ge_iff_le]
    rw [if_pos (by omega), if_neg (by omega)]
    congr 4; omega
  intro n; induction n with
  | zero =>
    intro l i hn hi hl
    have : l = [] := List.length_eq_zero_iff.1 (by omega)
    subst this
    exact nil i (rest_end hi hl)
  | succ n ih =>
    intro l i hn hi hl
    cases l with
    | nil => exact nil i (rest_end hi hl)
    | cons x l =>
      obtain ⟨k1, k2, k3, k4⟩ := rest_at hl
      simp only [List.length_cons] at hn
      have hbt := by_at s (i := (i : Int)) (by omega) (by omega)
      rw [Int.toNat_natCast, k2] at hbt
      have hx := okBy_at (by_ok s) i
      rw [k2] at hx
      have e1 : iadd .i64 (i : Int) 1 = ((i + 1 : Nat) : Int) := by rw [iadd_i64 (by omega)]; rfl
      have hin : (0 : Int) ≤ (i : Int) ∧ (i : Int) < (s.size : Int) := by omega
      obtain ⟨v, hv1, hv2⟩ := sc_index [32, 9, 13, 10] osp x hx
      have hm : x ∈ [(32 : Int), 9, 13, 10] ↔ spc x := by unfold spc; simp
      by_cases c1 : spc x
      · have hv3 : 0 ≤ v := hv2.2 (hm.2 c1)
        rw [gp_spc c1]
        refine (ih l (i + 1) (by omega) (by omega) k3).step fun f => ?_
        simp only [t_mail_Gap, f_mail_Gap_p3, lsp, hbt, hv1, e1, fitsS_dec, Option.bind_some, Option.isNone_none, Option.isNone_some, Option.isSome_none, Option.isSome_some, Bool.not_true, Bool.not_false, cond_true, cond_false, cond_dec, beq_int, bne_int, not_dec, and_dec, hin, and_self, if_true, ge_iff_le, hv3]
      · have hv3 : ¬ 0 ≤ v := fun q => c1 (hm.1 (hv2.1 q))
        by_cases c2 : x = 40
        · subst c2
          have hrm := mail_remark s hs hl
          rw [gp_rem]
          cases hr : rmk 1 l with
          | none =>
            rw [hr] at hrm
            refine Evn.some 1 fun f => ?_
            simp only [t_mail_Gap, f_mail_Gap_p3, lsp, hbt, hv1, hrm, fitsS_dec, Option.bind_some, Option.isNone_none, Option.isNone_some, Option.isSome_none, Option.isSome_some, Bool.not_true, Bool.not_false, cond_true, cond_false, cond_dec, beq_int, bne_int, not_dec, and_dec, hin, and_self, if_true, ge_iff_le, hv3, if_false, posO]
            rw [if_pos (by decide)]
          | some r =>
            rw [hr] at hrm
            obtain ⟨p, hp, hp2⟩ := rmk_cut l.length 1 l r (Nat.le_refl _) hr
            have hll : l.length = p.length + r.length := by rw [hp, List.length_append]
            have hd : (bytesOf s).drop (s.size - r.length) = r := by
              have hB : bytesOf s = (bytesOf s).take (i + 1) ++ l := by rw [← k3, List.take_append_drop]
              have hlen : ((bytesOf s).take (i + 1)).length = i + 1 := by rw [List.length_take, by_len]; omega
              rw [hB, hp, ← List.append_assoc]
              rw [List.drop_left' (by rw [List.length_append, hlen]; omega)]
            refine (ih r (s.size - r.length) (by omega) (by omega) hd).step fun f => ?_
            simp only [t_mail_Gap, f_mail_Gap_p3, lsp, hbt, hv1, hrm, fitsS_dec, Option.bind_some, Option.isNone_none, Option.isNone_some, Option.isSome_none, Option.isSome_some, Bool.not_true, Bool.not_false, cond_true, cond_false, cond_dec, beq_int, bne_int, not_dec, and_dec, hin, and_self, if_true, ge_iff_le, hv3, if_false, posO]
            rw [if_neg (by omega)]
        · rw [gp_no c1 c2]
          refine Evn.some 1 fun f => ?_
          simp only [t_mail_Gap, f_mail_Gap_p3, lsp, hbt, hv1, fitsS_dec, Option.bind_some, Option.isNone_none, Option.isNone_some, Option.isSome_none, Option.isSome_some, Bool.not_true, Bool.not_false, cond_true, cond_false, cond_dec, beq_int, bne_int, not_dec, and_dec, hin, and_self, if_true, ge_iff_le, hv3, if_false, c2, posO, List.length_cons]
          congr 4; omega
theorem mail_gap (s : ByteArray) (hs : s.size ≤ 1000000) (i : Nat) (hi : i ≤ s.size) : g_mail_Gap ((), ((s, ()), (((i : Int), ()), ()))) = some ((), ((posO s.size (gp ((bytesOf s).drop i)), ()), ())) := by
  refine ((gap_p3 s hs _ _ i (Nat.le_refl _) hi rfl).cast fun f => ?_).lim
  simp only [f_mail_Gap_m]
theorem mail_gap_out (s : ByteArray) (i : Int) (hi : i < 0 ∨ s.size ≤ i) : g_mail_Gap ((), ((s, ()), ((i, ()), ()))) = some ((), ((i, ()), ())) := by
  refine (Evn.some (F := fun f => f_mail_Gap_m (f_mail_Gap_t f) ((), ((s, ()), ((i, ()), ())))) 1 fun f => ?_).lim
  simp only [f_mail_Gap_m, t_mail_Gap, f_mail_Gap_p3, fitsS_dec, Option.bind_some, Option.isNone_none, Option.isNone_some, Option.isSome_none, Option.isSome_some, Bool.not_true, Bool.not_false, cond_true, cond_false, cond_dec, beq_int, bne_int, not_dec, ge_iff_le]
  by_cases c : 0 ≤ i
  · rw [if_pos c, if_neg (by omega)]
  · rw [if_neg c]
end Go.Proofs.YtddnfappkfiidaaGreat.Ev
