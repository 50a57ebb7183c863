/- Mail dates: zones' names. -/
import Derived.Test.YtddnfappkfiidaaGreatPuMailR
import Derived.Test.YtddnfappkfiidaaGreatPuDig
namespace Go.Proofs.YtddnfappkfiidaaGreat.Ev
open Go
set_option linter.unusedVariables false
set_option linter.unusedSimpArgs false
def up (x : Int) : Int := if 97 ≤ x ∧ x ≤ 122 then x - 32 else x
theorem up_ok {x : Int} (h : 0 ≤ x ∧ x < 256) : 0 ≤ up x ∧ up x < 256 := by unfold up; split <;> omega
theorem up_by {l : List Int} (h : okBy l) : okBy (l.map up) := fun x hx => by
  obtain ⟨y, hy, rfl⟩ := List.mem_map.1 hx
  exact up_ok (h y hy)
theorem set_mid (A B : List Int) (x y : Int) : (A ++ x :: B).set A.length y = A ++ y :: B := by
  induction A with
  | nil => rfl
  | cons a A ih => simp only [List.cons_append, List.length_cons, List.set_cons_succ, ih]
theorem get_mid (A B : List Int) (x : Int) : (A ++ x :: B).getD A.length 0 = x := by
  induction A with
  | nil => rfl
  | cons a A ih => simp only [List.cons_append, List.length_cons, List.getD_cons_succ, ih]
theorem great_p4 (m : Nat) (hm : m ≤ 1000000) : ∀ (Q P : List Int), okBy Q → P.length + Q.length = m →
    Evn (fun f => (f_mail_great_t f).1 ((P.map up ++ Q, ()), ((), ((), (((m : Int), ()), (((P.length : Int), ()), ())))))) ((), ((strOf ((P ++ Q).map up), ()), ())) := by
  intro Q; induction Q with
  | nil =>
    intro P ho hl
    simp only [List.length_nil, Nat.add_zero] at hl
    refine Evn.some 1 fun f => ?_
    simp only [t_mail_great, f_mail_great_p4, fitsS_dec, Option.bind_some, Option.isNone_none, Option.isNone_some, Option.isSome_none, Option.isSome_some, Bool.not_true, Bool.not_false, cond_true, cond_false, cond_dec, beq_int, bne_int, not_dec, List.append_nil]
    rw [if_neg (by omega)]
  | cons x Q ih =>
    intro P ho hl
    simp only [List.length_cons] at hl
    have hx := ho x List.mem_cons_self
    have ih' := ih (P ++ [x]) (fun y hy => ho y (List.mem_cons_of_mem _ hy)) (by rw [List.length_append, List.length_singleton]; omega)
    simp only [List.append_assoc, List.singleton_append, List.map_append, List.map_cons, List.map_nil] at ih'
    rw [List.map_append, List.map_cons]
    refine ih'.step fun f => ?_
    have hg : gd (.int .u8) (P.map up ++ x :: Q) (P.length : Int) = x := by
      rw [gd_u8, Int.toNat_natCast]
      have := get_mid (P.map up) Q x
      rw [List.length_map] at this; exact this
    have hs : (P.map up ++ x :: Q).set P.length (up x) = P.map up ++ up x :: Q := by
      have := set_mid (P.map up) Q x (up x)
      rw [List.length_map] at this; exact this
    have hl2 : (P.map up ++ x :: Q).length = m := by rw [List.length_append, List.length_map, List.length_cons]; omega
    have hn : ((P ++ [x]).length : Int) = (P.length : Int) + 1 := by rw [List.length_append]; rfl
    simp only [t_mail_great, f_mail_great_p4, hg, hl2, fitsS_dec, Option.bind_some, Option.isNone_none, Option.isNone_some, Option.isSome_none, Option.isSome_some, Bool.not_true, Bool.not_false, cond_true, cond_false, cond_dec, beq_int, bne_int, not_dec, and_dec, ge_iff_le, Int.toNat_natCast]
    rw [if_pos (by omega), if_pos (by omega)]
    have e1 : iadd .i64 (P.length : Int) 1 = (P.length : Int) + 1 := iadd_i64 (by omega)
    rw [hn]
    by_cases c1 : 97 ≤ x
    · rw [if_pos c1]
      by_cases c2 : x ≤ 122
      · have u1 : isub .u8 x 97 = x - 97 := by unfold isub; rw [wrap_u8]; omega
        have u2 : iadd .u8 (x - 97) 65 = x - 32 := by unfold iadd; rw [wrap_u8]; omega
        have hu : up x = x - 32 := if_pos ⟨c1, c2⟩
        rw [hu] at hs ⊢
        rw [if_pos c2, if_pos (by omega), u1, u2, hs, e1]
      · have hu : up x = x := if_neg (fun q => c2 q.2)
        rw [if_neg c2, e1, hu]
    · have hu : up x = x := if_neg (fun q => c1 q.1)
      rw [if_neg c1, e1, hu]
theorem mail_great (l : List Int) (ho : okBy l) (hl : l.length ≤ 1000000) : g_mail_great ((), ((strOf l, ()), ())) = some ((), ((strOf (l.map up), ()), ())) := by
  have := great_p4 l.length hl l [] ho (by simp)
  refine (this.cast fun f => ?_).lim
  simp only [f_mail_great_m, str_size, by_str ho, cond_dec]
  rw [if_pos (by omega)]; rfl
/-- A zone's name, in great letters: its shift, and whether it is one. -/
def zoV (u : List Int) : Int × Bool :=
  if u = [85, 84] then (0, true) else if u = [71, 77, 84] then (0, true) else if u = [69, 83, 84] then (-300, true) else if u = [67, 68, 84] then (-300, true) else if u = [69, 68, 84] then (-240, true) else
  if u = [67, 83, 84] then (-360, true) else if u = [77, 68, 84] then (-360, true) else if u = [77, 83, 84] then (-420, true) else if u = [80, 68, 84] then (-420, true) else if u = [80, 83, 84] then (-480, true) else
  if u = [74] then (0, false) else if u.length = 1 then (0, decide (65 ≤ u.getD 0 0 ∧ u.getD 0 0 ≤ 90)) else (0, false)
theorem zo_lit {u L : List Int} (hu : okBy u) (hL : okBy L) : ((strOf u).toList == (strOf L).toList) = decide (u = L) := str_toList_eq u L hu hL
theorem mail_zone (l : List Int) (ho : okBy l) (hl : l.length ≤ 1000000) : g_mail_Zone ((), ((strOf l, ()), ())) = some ((), (((zoV (l.map up)).1, ()), (((zoV (l.map up)).2, ()), ()))) := by
  have hg := mail_great l ho hl
  have hu := up_by ho
  have hll : (l.map up).length ≤ 1000000 := by rw [List.length_map]; exact hl
  simp only [g_mail_Zone, f_mail_Zone_m, hg, Option.bind_some]
  generalize l.map up = u at hu hll
  have o2 : ∀ a b : Int, (0 ≤ a ∧ a < 256) → (0 ≤ b ∧ b < 256) → okBy [a, b] := fun a b ha hb => okBy_cons ha (okBy_cons hb okBy_nil)
  have o3 : ∀ a b c : Int, (0 ≤ a ∧ a < 256) → (0 ≤ b ∧ b < 256) → (0 ≤ c ∧ c < 256) → okBy [a, b, c] := fun a b c ha hb hc => okBy_cons ha (okBy_cons hb (okBy_cons hc okBy_nil))
  have k1 := zo_lit hu (o2 85 84 (by omega) (by omega))
  have k2 := zo_lit hu (o3 71 77 84 (by omega) (by omega) (by omega))
  have k3 := zo_lit hu (o3 69 83 84 (by omega) (by omega) (by omega))
  have k4 := zo_lit hu (o3 67 68 84 (by omega) (by omega) (by omega))
  have k5 := zo_lit hu (o3 69 68 84 (by omega) (by omega) (by omega))
  have k6 := zo_lit hu (o3 67 83 84 (by omega) (by omega) (by omega))
  have k7 := zo_lit hu (o3 77 68 84 (by omega) (by omega) (by omega))
  have k8 := zo_lit hu (o3 77 83 84 (by omega) (by omega) (by omega))
  have k9 := zo_lit hu (o3 80 68 84 (by omega) (by omega) (by omega))
  have k10 := zo_lit hu (o3 80 83 84 (by omega) (by omega) (by omega))
  have k11 := zo_lit hu (okBy_cons (show (0 : Int) ≤ 74 ∧ (74 : Int) < 256 by omega) okBy_nil)
  rw [show strOf [85, 84] = (⟨#[85, 84]⟩ : ByteArray) by kernel_rfl] at k1
  rw [show strOf [71, 77, 84] = (⟨#[71, 77, 84]⟩ : ByteArray) by kernel_rfl] at k2
  rw [show strOf [69, 83, 84] = (⟨#[69, 83, 84]⟩ : ByteArray) by kernel_rfl] at k3
  rw [show strOf [67, 68, 84] = (⟨#[67, 68, 84]⟩ : ByteArray) by kernel_rfl] at k4
  rw [show strOf [69, 68, 84] = (⟨#[69, 68, 84]⟩ : ByteArray) by kernel_rfl] at k5
  rw [show strOf [67, 83, 84] = (⟨#[67, 83, 84]⟩ : ByteArray) by kernel_rfl] at k6
  rw [show strOf [77, 68, 84] = (⟨#[77, 68, 84]⟩ : ByteArray) by kernel_rfl] at k7
  rw [show strOf [77, 83, 84] = (⟨#[77, 83, 84]⟩ : ByteArray) by kernel_rfl] at k8
  rw [show strOf [80, 68, 84] = (⟨#[80, 68, 84]⟩ : ByteArray) by kernel_rfl] at k9
  rw [show strOf [80, 83, 84] = (⟨#[80, 83, 84]⟩ : ByteArray) by kernel_rfl] at k10
  rw [show strOf [74] = (⟨#[74]⟩ : ByteArray) by kernel_rfl] at k11
  simp only [k1, k2, k3, k4, k5, k6, k7, k8, k9, k10, k11, str_size, cond_dec, beq_int, and_dec]
  unfold zoV
  by_cases c1 : u = [85, 84]
  · rw [if_pos c1, if_pos c1]
  rw [if_neg c1, if_neg c1]
  by_cases c2 : u = [71, 77, 84]
  · rw [if_pos c2, if_pos c2]
  rw [if_neg c2, if_neg c2]
  by_cases c3 : u = [69, 83, 84]
  · rw [if_pos c3, if_pos c3]
  rw [if_neg c3, if_neg c3]
  by_cases c4 : u = [67, 68, 84]
  · rw [if_pos c4, if_pos c4]
  rw [if_neg c4, if_neg c4]
  by_cases c5 : u = [69, 68, 84]
  · rw [if_pos c5, if_pos c5]
  rw [if_neg c5, if_neg c5]
  by_cases c6 : u = [67, 83, 84]
  · rw [if_pos c6, if_pos c6]
  rw [if_neg c6, if_neg c6]
  by_cases c7 : u = [77, 68, 84]
  · rw [if_pos c7, if_pos c7]
  rw [if_neg c7, if_neg c7]
  by_cases c8 : u = [77, 83, 84]
  · rw [if_pos c8, if_pos c8]
  rw [if_neg c8, if_neg c8]
  by_cases c9 : u = [80, 68, 84]
  · rw [if_pos c9, if_pos c9]
  rw [if_neg c9, if_neg c9]
  by_cases c10 : u = [80, 83, 84]
  · rw [if_pos c10, if_pos c10]
  rw [if_neg c10, if_neg c10]
  by_cases c11 : u = [74]
  · rw [if_pos c11, if_pos c11]
  rw [if_neg c11, if_neg c11]
  by_cases c12 : u.length = 1
  · have hb := by_at (strOf u) (i := 0) (by omega) (by rw [str_size]; omega)
    rw [by_str hu, show Int.toNat 0 = 0 from rfl] at hb
    rw [if_pos (show (u.length : Int) = 1 by omega), if_pos c12, if_pos (show (0 : Int) ≤ 0 ∧ (0 : Int) < (u.length : Int) by omega), hb]
    simp only [ge_iff_le]
    by_cases q1 : 65 ≤ u.getD 0 0
    · rw [if_pos q1, if_pos (show (0 : Int) ≤ 0 ∧ (0 : Int) < (u.length : Int) by omega)]; simp only [q1, true_and]
    · rw [if_neg q1, decide_eq_false (fun q => q1 q.1)]
  · rw [if_neg (show ¬((u.length : Int) = 1) by omega), if_neg c12]
end Go.Proofs.YtddnfappkfiidaaGreat.Ev
