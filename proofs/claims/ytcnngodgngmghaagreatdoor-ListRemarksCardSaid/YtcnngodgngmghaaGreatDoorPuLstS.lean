/- Texts cut into lines; prefixes; what is gaps alone. -/
import Derived.Test.YtcnngodgngmghaaGreatDoorEv41
import Derived.Test.YtcnngodgngmghaaGreatDoorPuStr
import Derived.Test.YtcnngodgngmghaaGreatDoorPuLstA
import Derived.Lib.IndexBytes
import Derived.Lib.IndexLaws
namespace Go.Proofs.YtcnngodgngmghaaGreatDoor.Ev
open Go
set_option linter.unusedVariables false
set_option linter.unusedSimpArgs false
set_option maxRecDepth 4000
/-- The rows of a text; the first one has begun. -/
def rowsA : List Int → List Int → List (List Int)
  | cur, [] => [cur]
  | cur, x :: l => if x = 10 then cur :: rowsA [] l else rowsA (cur ++ [x]) l
theorem rowsA_none : ∀ (l cur : List Int), 10 ∉ l → rowsA cur l = [cur ++ l]
  | [], cur, _ => by rw [rowsA, List.append_nil]
  | x :: l, cur, h => by
    rw [rowsA, if_neg (fun q => h (by rw [q]; simp)), rowsA_none l _ (fun q => h (by simp [q])), List.append_assoc]; rfl
theorem rowsA_hit : ∀ (a cur b : List Int), 10 ∉ a → rowsA cur (a ++ 10 :: b) = (cur ++ a) :: rowsA [] b
  | [], cur, b, _ => by rw [List.nil_append, rowsA, if_pos rfl, List.append_nil]
  | x :: a, cur, b, h => by
    rw [List.cons_append, rowsA, if_neg (fun q => h (by rw [q]; simp)), rowsA_hit a _ b (fun q => h (by simp [q])), List.append_assoc]; rfl
theorem first10 (l : List Int) : 10 ∉ l ∨ ∃ a b, l = a ++ 10 :: b ∧ 10 ∉ a := by
  induction l with
  | nil => exact .inl (by simp)
  | cons x l ih =>
    by_cases c : x = 10
    · subst c; exact .inr ⟨[], l, rfl, by simp⟩
    · rcases ih with h | ⟨a, b, e, h⟩
      · exact .inl (by simp [h, Ne.symm c])
      · exact .inr ⟨x :: a, b, by rw [e]; rfl, by simp [h, Ne.symm c]⟩
theorem cut10 : ∀ {a b c d : List Int}, a ++ 10 :: b = c ++ 10 :: d → 10 ∉ a → 10 ∉ c → a = c ∧ b = d
  | [], b, [], d, e, _, _ => by simpa using e
  | [], b, y :: c, d, e, _, h => by
    simp only [List.nil_append, List.cons_append, List.cons.injEq] at e
    exact (h (by rw [← e.1]; simp)).elim
  | x :: a, b, [], d, e, h, _ => by
    simp only [List.nil_append, List.cons_append, List.cons.injEq] at e
    exact (h (by rw [e.1]; simp)).elim
  | x :: a, b, y :: c, d, e, h, k => by
    simp only [List.cons_append, List.cons.injEq] at e
    have := cut10 e.2 (fun q => h (by simp [q])) (fun q => k (by simp [q]))
    exact ⟨by rw [e.1, this.1], this.2⟩
/-! ### strings.Split -/
theorem split_rows : ∀ (n : Nat) (s : ByteArray), s.size ≤ n → Lib.splitB ⟨#[10]⟩ 0 (Lib.countB s ⟨#[10]⟩) s = (rowsA [] (bytesOf s)).map strOf := by
  intro n
  induction n with
  | zero =>
    intro s hs
    have hb : bytesOf s = [] := List.eq_nil_of_length_eq_zero (by rw [by_len]; omega)
    have hm : Lib.indexB s ⟨#[10]⟩ = -1 := by
      rw [show Lib.indexB s ⟨#[10]⟩ = Lib.index s.data.toList [10] from rfl, Lib.index_one]
      have : s.data.toList = [] := by
        unfold bytesOf at hb
        exact List.map_eq_nil_iff.1 hb
      rw [this]; rfl
    rw [Lib.countB_miss s _ hm, Lib.splitB_zero, hb, rowsA, ← hb]
    simp [str_by]
  | succ n ih =>
    intro s hs
    have hi : Lib.indexB s ⟨#[10]⟩ = Lib.indexByte s.data.toList 10 := by
      rw [show Lib.indexB s ⟨#[10]⟩ = Lib.index s.data.toList [10] from rfl, Lib.index_one]
    have conv : ∀ k : Nat, (bytesOf s)[k]? = some 10 ↔ s.data.toList[k]? = some 10 := fun k => by
      unfold bytesOf
      rw [List.getElem?_map]
      cases s.data.toList[k]? with
      | none => simp
      | some b =>
        simp only [Option.map_some, Option.some.injEq]
        constructor
        · intro q; exact UInt8.toNat_inj.1 (by show b.toNat = 10; omega)
        · rintro rfl; rfl
    rcases Lib.indexB_cases s ⟨#[10]⟩ with hm | ⟨i, hm, hr⟩
    · have hn : 10 ∉ bytesOf s := fun q => by
        obtain ⟨k, hk⟩ := List.getElem?_of_mem q
        exact Lib.indexByte_none (hi ▸ hm) k ((conv k).1 hk)
      rw [Lib.countB_miss s _ hm, Lib.splitB_zero, rowsA_none _ _ hn, List.nil_append]
      simp [str_by]
    · rw [show (⟨#[10]⟩ : ByteArray).size = 1 from rfl] at hr
      obtain ⟨h1, h2⟩ := Lib.indexByte_some (hi ▸ hm)
      have hl := by_len s
      have h3 := (conv i).2 h1
      have hlt : i < (bytesOf s).length := by omega
      have e : bytesOf s = (bytesOf s).take i ++ 10 :: (bytesOf s).drop (i + 1) := by
        conv => lhs; rw [← List.take_append_drop i (bytesOf s)]
        congr 1
        rw [List.drop_eq_getElem_cons hlt]
        congr 1
        rw [List.getElem?_eq_getElem hlt] at h3
        exact Option.some.inj h3
      have hn : 10 ∉ (bytesOf s).take i := fun q => by
        obtain ⟨k, hk⟩ := List.getElem?_of_mem q
        have hki : k < i := by
          have := (List.getElem?_eq_some_iff.1 hk).1
          rw [List.length_take] at this; omega
        rw [List.getElem?_take_of_lt hki] at hk
        exact h2 k hki ((conv k).1 hk)
      have hsz : (s.extract (i + 1) s.size).size ≤ n := by rw [ByteArray.size_extract]; omega
      have hb := by_cut s (i + 1) s.size
      rw [← hl, List.take_length] at hb
      rw [Lib.countB_hit s _ i (by decide) hm, Nat.add_comm, Lib.splitB_hit _ 0 _ s i hm, show (⟨#[10]⟩ : ByteArray).size = 1 from rfl, ih _ hsz]
      conv => rhs; rw [e, rowsA_hit _ _ _ hn, List.nil_append, List.map_cons]
      rw [← hl, hb]
      congr 1
      have h0 := by_cut s 0 (i + 0)
      rw [Nat.add_zero, List.drop_zero] at h0
      rw [Nat.add_zero, ← str_by (s.extract 0 i), h0]
theorem split_call (s : ByteArray) (hs : s.size ≤ 1000000) : g_strings_Split ((), ((s, ()), (((⟨#[10]⟩ : ByteArray), ()), ()))) = some ((), (((rowsA [] (bytesOf s)).map strOf, ()), ())) := by
  show lib_split _ = _
  unfold lib_split
  simp only
  rw [if_pos ⟨by omega, by decide⟩, split_rows s.size s (Nat.le_refl _)]
theorem has_prefixL (s p : ByteArray) : g_internal_stringslite_HasPrefix ((), ((s, ()), ((p, ()), ()))) = some ((), ((decide ((bytesOf s).take p.size = bytesOf p), ()), ())) := by
  have hl := by_len s
  have hp := by_len p
  simp only [g_internal_stringslite_HasPrefix, f_internal_stringslite_HasPrefix_m, fitsS_dec, Option.bind_some, Option.isNone_none, Option.isNone_some, Option.isSome_none, Option.isSome_some, Bool.not_true, Bool.not_false, cond_true, cond_false, cond_dec, beq_int, bne_int, not_dec, and_dec, ge_iff_le]
  by_cases c : p.size ≤ s.size
  · rw [if_pos (by omega), if_pos (by omega), str_eq, by_cut, Int.toNat_natCast]
    rfl
  · rw [if_neg (by omega), decide_eq_false]
    intro q
    have := congrArg List.length q
    rw [List.length_take] at this; omega
theorem drop_twice (p : UInt8 → Bool) : ∀ l : List UInt8, (∀ x ∈ l.dropWhile p, p x = true) → ∀ x ∈ l, p x = true
  | [], _, x, hx => by cases hx
  | y :: l, h, x, hx => by
    rw [List.dropWhile_cons] at h
    cases hy : p y with
    | true =>
      rw [hy, if_pos rfl] at h
      rcases List.mem_cons.1 hx with rfl | hx
      · exact hy
      · exact drop_twice p l h x hx
    | false =>
      rw [hy, if_neg (by decide)] at h
      have := h y (by simp)
      rw [hy] at this; cases this
theorem drop_all (p : UInt8 → Bool) : ∀ l : List UInt8, l.dropWhile p = [] ↔ ∀ x ∈ l, p x = true
  | [] => by simp
  | y :: l => by
    rw [List.dropWhile_cons]
    cases hy : p y with
    | true =>
      rw [if_pos rfl, drop_all p l]
      constructor
      · intro h x hx
        rcases List.mem_cons.1 hx with rfl | hx
        · exact hy
        · exact h x hx
      · intro h x hx; exact h x (by simp [hx])
    | false =>
      rw [if_neg (by decide)]
      constructor
      · intro h; cases h
      · intro h; have := h y (by simp); rw [hy] at this; cases this
theorem trimS_nil (l cs : List UInt8) : Lib.trimS l cs = [] ↔ ∀ x ∈ l, cs.contains x = true := by
  unfold Lib.trimS Lib.trimLeftS Lib.trimRightS
  rw [drop_all]
  constructor
  · intro h x hx
    have := drop_twice (cs.contains ·) l.reverse (fun y hy => h y (List.mem_reverse.2 hy)) x (List.mem_reverse.2 hx)
    exact this
  · intro h x hx
    exact h x (List.mem_reverse.1 ((List.dropWhile_sublist _).mem (List.mem_reverse.1 hx)))
theorem gap_sign (x : UInt8) : ([32, 9] : List UInt8).contains x = decide ((x.toNat : Int) ∈ gL) := by
  have key : ∀ n : Fin 256, ([32, 9] : List UInt8).contains (UInt8.ofNat n.val) = decide (n.val = 32 ∨ n.val = 9) := by decide
  have := key ⟨x.toNat, x.toNat_lt⟩
  simp only [UInt8.ofNat_toNat] at this
  rw [this]
  congr 1
  simp only [gL, List.mem_cons, List.not_mem_nil, or_false]
  exact propext ⟨fun h => by omega, fun h => by omega⟩
theorem trim_gaps (w : List Int) (hw : okBy w) (hl : w.length ≤ 1000000) : ∃ t : ByteArray, g_strings_Trim ((), ((strOf w, ()), ((strOf gL, ()), ()))) = some ((), ((t, ()), ())) ∧ ((t.toList == (strOf []).toList) = decide (∀ x ∈ w, x ∈ gL)) := by
  rw [← lst_gs]
  refine ⟨⟨(Lib.trimS (strOf w).data.toList [32, 9]).toArray⟩, ?_, ?_⟩
  · show lib_trim _ = _
    unfold lib_trim
    simp only
    rw [if_pos ⟨by rw [str_size]; omega, by decide, by decide⟩]
  · rw [ByteArray.toList_eq, ByteArray.toList_eq]
    have e1 : (Lib.trimS (strOf w).data.toList [32, 9] = []) ↔ ∀ x ∈ w, x ∈ gL := by
      rw [trimS_nil]
      have hb := by_str hw
      unfold bytesOf at hb
      constructor
      · intro h x hx
        rw [← hb] at hx
        obtain ⟨b, hb1, rfl⟩ := List.mem_map.1 hx
        have := h b hb1
        rw [gap_sign] at this
        exact of_decide_eq_true this
      · intro h b hb1
        rw [gap_sign]
        refine decide_eq_true (h _ ?_)
        rw [← hb]
        exact List.mem_map_of_mem hb1
    rw [show (strOf []).data.toList = [] from rfl, List.toList_toArray]
    by_cases c : ∀ x ∈ w, x ∈ gL
    · rw [decide_eq_true c, e1.2 c]; rfl
    · rw [decide_eq_false c]
      have := fun q => c (e1.1 q)
      cases hh : Lib.trimS (strOf w).data.toList [32, 9] with
      | nil => exact absurd hh this
      | cons _ _ => rfl
theorem str_prefix (l p : List Int) (hl : okBy l) (hp : okBy p) : g_strings_HasPrefix ((), ((strOf l, ()), ((strOf p, ()), ()))) = some ((), ((decide (l.take p.length = p), ()), ())) := by
  simp only [g_strings_HasPrefix, f_strings_HasPrefix_m, has_prefixL, Option.bind_some, by_str hl, by_str hp, str_size]
/-- A text without its last feed. -/
def chop (l : List Int) : List Int := if l.getLast? = some 10 then l.dropLast else l
theorem str_chop (l : List Int) (hl : okBy l) (hs : l.length ≤ 1000000) : g_strings_TrimSuffix ((), ((strOf l, ()), ((strOf [10], ()), ()))) = some ((), ((strOf (chop l), ()), ())) := by
  have hx : g_internal_stringslite_HasSuffix ((), ((strOf l, ()), ((strOf [10], ()), ()))) = some ((), ((decide (l.getLast? = some 10), ()), ())) := by
    simp only [g_internal_stringslite_HasSuffix, f_internal_stringslite_HasSuffix_m, fitsS_dec, Option.bind_some, Option.isNone_none, Option.isNone_some, Option.isSome_none, Option.isSome_some, Bool.not_true, Bool.not_false, cond_true, cond_false, cond_dec, beq_int, bne_int, not_dec, and_dec, ge_iff_le, str_size, List.length_cons, List.length_nil, str_cut, List.take_length, Int.toNat_natCast]
    cases hc : l with
    | nil => simp
    | cons a t =>
      have hne : a :: t ≠ [] := by simp
      rw [← hc] at hne ⊢
      have hpos : 0 < l.length := by rw [hc]; simp
      rw [if_pos (by omega), isub_i64 (by omega), if_pos (by omega)]
      rw [show (((l.length : Int) - ((0 + 1 : Nat) : Int))).toNat = l.length - 1 by omega]
      rw [str_toList_eq _ _ (okBy_drop hl _) (by intro x hx; rw [List.mem_singleton.1 hx]; decide)]
      have hd : l.drop (l.length - 1) = [l.getLast hne] := by
        rw [List.drop_eq_getElem_cons (by omega), List.drop_eq_nil_of_le (by omega), List.getLast_eq_getElem]
      rw [hd, List.getLast?_eq_some_getLast hne]
      simp
  simp only [g_strings_TrimSuffix, f_strings_TrimSuffix_m, g_internal_stringslite_TrimSuffix, f_internal_stringslite_TrimSuffix_m, hx, fitsS_dec, Option.bind_some, Option.isNone_none, Option.isNone_some, Option.isSome_none, Option.isSome_some, Bool.not_true, Bool.not_false, cond_true, cond_false, cond_dec, beq_int, bne_int, not_dec, and_dec, str_size, List.length_cons, List.length_nil, str_cut, List.drop_zero, show (0 : Int).toNat = 0 from rfl]
  unfold chop
  by_cases c : l.getLast? = some 10
  · rw [if_pos c, if_pos c]
    have hpos : 0 < l.length := by
      cases l with
      | nil => cases c
      | cons _ _ => simp
    rw [isub_i64 (by omega), if_pos (by omega), show (((l.length : Int) - ((0 + 1 : Nat) : Int))).toNat = l.length - 1 by omega, ← List.dropLast_eq_take]
    rfl
  · rw [if_neg c, if_neg c]; rfl
end Go.Proofs.YtcnngodgngmghaaGreatDoor.Ev
