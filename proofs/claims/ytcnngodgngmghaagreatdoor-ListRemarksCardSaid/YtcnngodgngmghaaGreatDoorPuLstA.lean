/- Leap tables as texts: gaps, the end of a line, words of signs. -/
import Derived.Test.YtcnngodgngmghaaGreatDoorEv43
import Derived.Test.YtcnngodgngmghaaGreatDoorPuRun
import Derived.Test.YtcnngodgngmghaaGreatDoorPuDig
namespace Go.Proofs.YtcnngodgngmghaaGreatDoor.Ev
open Go
set_option linter.unusedVariables false
set_option linter.unusedSimpArgs false
@[reducible] def gL : List Int := [32, 9]
@[reducible] def hxL : List Int := [48, 49, 50, 51, 52, 53, 54, 55, 56, 57, 97, 98, 99, 100, 101, 102, 65, 66, 67, 68, 69, 70]
@[reducible] def hxS : List Int := [48, 49, 50, 51, 52, 53, 54, 55, 56, 57, 97, 98, 99, 100, 101, 102]
theorem lst_gs : (⟨#[32, 9]⟩ : ByteArray) = strOf gL := by kernel_rfl
theorem lst_hx : (⟨#[48, 49, 50, 51, 52, 53, 54, 55, 56, 57, 97, 98, 99, 100, 101, 102, 65, 66, 67, 68, 69, 70]⟩ : ByteArray) = strOf hxL := by kernel_rfl
theorem lst_hs : (⟨#[48, 49, 50, 51, 52, 53, 54, 55, 56, 57, 97, 98, 99, 100, 101, 102]⟩ : ByteArray) = strOf hxS := by kernel_rfl
theorem gL_ok : okBy gL := by unfold okBy; decide
theorem hxL_ok : okBy hxL := by unfold okBy; decide
theorem take_run (S l : List Int) : l.take (runN S l) = [] ↔ runN S l = 0 := by
  have := runN_le S l
  rw [List.take_eq_nil_iff]
  constructor
  · rintro (h | h)
    · exact h
    · subst h; rfl
  · exact .inl
/-- Gaps, one at least. -/
def gapY (n : Nat) (x : X) : X := if runN gL x.rest = 0 then failX n 2 x else takeX (runN gL x.rest) x
theorem takeX_zero (x : X) : takeX 0 x = x := by cases x <;> simp [takeX]
theorem gapY_wf {s : ByteArray} {x : X} (h : x.wf s) : (gapY s.size x).wf s := by
  unfold gapY
  split
  · exact failX_wf h 2
  · exact takeX_wf h _
theorem lst_gap (s : ByteArray) (x : X) (h : x.wf s) (hs : s.size ≤ 1000000) : g_leaplist_gap_io (x.t s, ((), ())) = some ((gapY s.size x).t s, ((), ())) := by
  simp only [g_leaplist_gap_io, f_leaplist_gap_io_m, lst_gs, scan_run s x h hs gL gL_ok, Option.bind_some, sc_nil, str_emp, cond_dec, take_run]
  unfold gapY
  by_cases c : runN gL x.rest = 0
  · rw [if_pos c, if_pos c, c, takeX_zero]
    have := scan_fail s x 2
    rw [this]; rfl
  · rw [if_neg c, if_neg c]
/-- Gaps at the end of a line, and no more. -/
def endY (x : X) : Option Int := (takeX (runN gL x.rest) x).end
theorem lst_end (s : ByteArray) (x : X) (h : x.wf s) (hs : s.size ≤ 1000000) : g_leaplist_end_io (x.t s, ((), ())) = some ((takeX (runN gL x.rest) x).t s, ((endY x, ()), ((), ()))) := by
  have he := scan_end s (takeX (runN gL x.rest) x) (takeX_wf h _)
  simp only [X.p] at he
  simp only [g_leaplist_end_io, f_leaplist_end_io_m, lst_gs, scan_run s x h hs gL gL_ok, Option.bind_some, X.t, he]; rfl
/-! ### signs -/
def lowH (x : Int) : Int := if 65 ≤ x ∧ x ≤ 90 then x + 32 else x
def hexD (x : Int) : Int := if x ≤ 57 then x - 48 else if x ≤ 70 then x - 55 else x - 87
def hexV (l : List Int) : Int := l.foldl (fun n x => n * 16 + hexD x) 0
theorem lowB (b : UInt8) : ((Lib.lowerB b).toNat : Int) = lowH (b.toNat : Int) := by
  have e : Lib.isUpperB b = true ↔ (65 ≤ b.toNat ∧ b.toNat ≤ 90) := by
    simp [Lib.isUpperB, UInt8.le_iff_toNat_le]
  have hb := b.toNat_lt
  unfold Lib.lowerB lowH
  by_cases c : 65 ≤ b.toNat ∧ b.toNat ≤ 90
  · rw [if_pos (e.2 c), if_pos (by omega), UInt8.toNat_add, show (32 : UInt8).toNat = 32 from rfl]; omega
  · rw [if_neg (fun q => c (e.1 q)), if_neg (by omega)]
theorem lst_lower (l : List Int) (ho : okBy l) (hl : l.length ≤ 1000000) (h : ∀ x ∈ l, x < 128) : g_strings_ToLower ((), ((strOf l, ()), ())) = some ((), ((strOf (l.map lowH), ()), ())) := by
  show lib_toLower _ = _
  unfold lib_toLower
  simp only
  have hb : bytesOf (strOf l) = l := by_str ho
  rw [if_pos]
  · congr 4
    apply by_inj
    rw [by_str]
    · unfold bytesOf at hb ⊢
      simp only [List.toList_toArray, Lib.toLowerA, List.map_map]
      conv => rhs; rw [← hb]
      rw [List.map_map]
      exact List.map_congr_left fun b _ => lowB b
    · intro x hx
      obtain ⟨y, hy, rfl⟩ := List.mem_map.1 hx
      have := ho y hy
      have := h y hy
      unfold lowH
      split <;> omega
  · refine ⟨by rw [str_size]; omega, ?_⟩
    rw [List.all_eq_true]
    intro b hbm
    have : ((b.toNat : Int)) ∈ l := by
      rw [← hb]; unfold bytesOf
      exact List.mem_map_of_mem (f := fun b : UInt8 => (b.toNat : Int)) hbm
    have := h _ this
    rw [decide_eq_true_eq]; omega
theorem hex_index : ∀ c ∈ hxS, g_strings_IndexByte ((), ((strOf hxS, ()), ((c, ()), ()))) = some ((), ((hexD c, ()), ())) := by
  intro c hc
  simp only [hxS, List.mem_cons, List.not_mem_nil, or_false] at hc
  rcases hc with rfl | rfl | rfl | rfl | rfl | rfl | rfl | rfl | rfl | rfl | rfl | rfl | rfl | rfl | rfl | rfl <;> kernel_rfl
theorem hxS_range : ∀ c ∈ hxS, 0 ≤ hexD c ∧ hexD c < 16 := by decide
theorem low_hex : ∀ c ∈ hxL, lowH c ∈ hxS ∧ hexD (lowH c) = hexD c := by decide
theorem hxL_low : ∀ c ∈ hxL, c < 128 := by decide
theorem ior_four {n x : Int} (hn : 0 ≤ n) (h2 : n < 268435456) (h0 : 0 ≤ x) (h1 : x < 16) : ior .u32 (ishl .u32 n 4) x = n * 16 + x := by
  obtain ⟨a, rfl⟩ := Int.eq_ofNat_of_zero_le hn
  obtain ⟨y, rfl⟩ := Int.eq_ofNat_of_zero_le h0
  have hy : y < 16 := by omega
  have ha : a < 268435456 := by omega
  have e1 : ishl .u32 (a : Int) 4 = (a <<< 4 : Nat) := by
    unfold ishl
    rw [wrap_u32, show min (4 : Int).toNat (IntKind.bits .u32) = 4 from rfl, Nat.shiftLeft_eq]
    omega
  rw [e1]
  unfold ior
  have hlt : a <<< 4 < 2 ^ IntKind.bits .u32 := by rw [Nat.shiftLeft_eq]; simp only [IntKind.bits]; omega
  have e2 : (BitVec.ofInt (IntKind.bits .u32) ((a <<< 4 : Nat) : Int) ||| BitVec.ofInt (IntKind.bits .u32) (y : Int)).toNat = a <<< 4 + y := by
    rw [BitVec.toNat_or, BitVec.toNat_ofInt, BitVec.toNat_ofInt]
    have k1 : (((a <<< 4 : Nat) : Int) % ((2 ^ IntKind.bits .u32 : Nat) : Int)).toNat = a <<< 4 := by
      rw [← Int.natCast_emod, Int.toNat_natCast, Nat.mod_eq_of_lt hlt]
    have k2 : ((y : Int) % ((2 ^ IntKind.bits .u32 : Nat) : Int)).toNat = y := by
      rw [← Int.natCast_emod, Int.toNat_natCast, Nat.mod_eq_of_lt (by simp only [IntKind.bits]; omega)]
    rw [k1, k2, Nat.shiftLeft_add_eq_or_of_lt (by omega)]
  rw [e2, wrap_u32, Nat.shiftLeft_eq]
  omega
theorem hexV_snoc (l : List Int) (x : Int) : hexV (l ++ [x]) = hexV l * 16 + hexD x := by simp [hexV]
theorem hexV_range : ∀ (n : Nat) (l : List Int), l.length = n → (∀ x ∈ l, x ∈ hxS) → 0 ≤ hexV l ∧ hexV l < 16 ^ n
  | 0, l, h, _ => by rw [List.eq_nil_of_length_eq_zero h]; decide
  | n + 1, l, h, hf => by
    have hne : l ≠ [] := by intro e; rw [e] at h; cases h
    rw [← List.dropLast_concat_getLast hne, hexV_snoc]
    have h1 := hexV_range n l.dropLast (by rw [List.length_dropLast]; omega) (fun x hx => hf x (List.dropLast_subset l hx))
    have h2 := hxS_range _ (hf _ (List.getLast_mem hne))
    rw [Int.pow_succ]
    omega
theorem word_p9 (x : X) (s : ByteArray) (t : List Int) (ht : ∀ c ∈ t, c ∈ hxS) (hl : t.length ≤ 8) (ho : okBy t) : ∀ (k i : Nat), i + k = t.length →
    Evn (fun f => (f_leaplist_word_io_t f).1 (x.t s, ((), ((strOf t, ()), ((hexV (t.take i), ()), (((t.length : Int), ()), (((i : Int), ()), ()))))))) (x.t s, ((hexV t, ()), ((), ()))) := by
  intro k
  induction k with
  | zero =>
    intro i hi
    refine Evn.some 1 fun f => ?_
    simp only [t_leaplist_word_io, f_leaplist_word_io_p9, X.t, fitsS_dec, Option.bind_some, Option.isNone_none, Option.isNone_some, Option.isSome_none, Option.isSome_some, Bool.not_true, Bool.not_false, cond_true, cond_false, cond_dec, beq_int, bne_int, not_dec]
    rw [if_neg (by omega), List.take_of_length_le (by omega)]
  | succ k ih =>
    intro i hi
    refine (ih (i + 1) (by omega)).step fun f => ?_
    have hb := by_at (strOf t) (i := (i : Int)) (by omega) (by rw [str_size]; omega)
    rw [by_str ho, Int.toNat_natCast] at hb
    have hmem : t.getD i 0 ∈ t := by
      rw [List.getD_eq_getElem?_getD, List.getElem?_eq_getElem (by omega)]; exact List.getElem_mem _
    have hc := ht _ hmem
    have hr := hexV_range i (t.take i) (by rw [List.length_take]; omega) (fun x hx => ht x (List.mem_of_mem_take hx))
    have hd := hxS_range _ hc
    have hp : (16 : Int) ^ i ≤ 16 ^ 7 := by
      have : 16 ^ i ≤ 16 ^ 7 := Nat.pow_le_pow_right (by omega) (by omega)
      exact_mod_cast this
    have e1 : hexV (t.take (i + 1)) = hexV (t.take i) * 16 + hexD (t.getD i 0) := by
      rw [List.take_add_one, ← hexV_snoc]
      congr 2
      rw [List.getD_eq_getElem?_getD, List.getElem?_eq_getElem (by omega)]; rfl
    have e2 : iconv .u32 (hexD (t.getD i 0)) = hexD (t.getD i 0) := by rw [iconv_u32]; omega
    simp only [t_leaplist_word_io, f_leaplist_word_io_p9, X.t, fitsS_dec, Option.bind_some, Option.isNone_none, Option.isNone_some, Option.isSome_none, Option.isSome_some, Bool.not_true, Bool.not_false, cond_true, cond_false, cond_dec, beq_int, bne_int, not_dec, str_size, and_dec, hb, lst_hs, hex_index _ hc, e2]
    rw [if_pos (by omega), if_pos (by omega), ior_four hr.1 (by omega) hd.1 hd.2, ← e1, iadd_i64 (by omega)]; rfl
/-- A word of signs. -/
def wdY (n : Nat) (x : X) : X × Int :=
  if runN hxL x.rest = 0 ∨ 8 < runN hxL x.rest then (failX n 2 (takeX (runN hxL x.rest) x), 0) else (takeX (runN hxL x.rest) x, hexV (x.rest.take (runN hxL x.rest)))
theorem wdY_wf {s : ByteArray} {x : X} (h : x.wf s) : (wdY s.size x).1.wf s := by
  unfold wdY
  split
  · exact failX_wf (takeX_wf h _) 2
  · exact takeX_wf h _
theorem run_mem {S l : List Int} : ∀ c ∈ l.take (runN S l), c ∈ S := by
  intro c hc
  obtain ⟨i, hi, rfl⟩ := List.getElem_of_mem hc
  have hl := runN_le S l
  rw [List.length_take] at hi
  have := runN_at (S := S) (l := l) (i := i) (by omega)
  rw [List.getElem_take]
  rwa [List.getD_eq_getElem?_getD, List.getElem?_eq_getElem (by omega)] at this
theorem hexV_low : ∀ {l : List Int}, (∀ c ∈ l, c ∈ hxL) → hexV (l.map lowH) = hexV l := by
  intro l h
  unfold hexV
  rw [List.foldl_map]
  have : ∀ (l : List Int) (n : Int), (∀ c ∈ l, c ∈ hxL) → l.foldl (fun n x => n * 16 + hexD (lowH x)) n = l.foldl (fun n x => n * 16 + hexD x) n := by
    intro l
    induction l with
    | nil => intro n _; rfl
    | cons a l ih =>
      intro n h
      simp only [List.foldl_cons]
      rw [(low_hex a (h a (List.mem_cons_self ..))).2]
      exact ih _ fun c hc => h c (List.mem_cons_of_mem _ hc)
  exact this l 0 h
theorem lst_word (s : ByteArray) (x : X) (h : x.wf s) (hs : s.size ≤ 1000000) : g_leaplist_word_io (x.t s, ((), ())) = some ((wdY s.size x).1.t s, (((wdY s.size x).2, ()), ((), ()))) := by
  have hr := X.ok_rest h
  have hl := runN_le hxL x.rest
  have hm : ∀ c ∈ x.rest.take (runN hxL x.rest), c ∈ hxL := run_mem
  have hlen : (x.rest.take (runN hxL x.rest)).length = runN hxL x.rest := by rw [List.length_take]; omega
  have hlow := lst_lower (x.rest.take (runN hxL x.rest)) (okBy_take hr.1 _) (by omega) (fun c hc => hxL_low c (hm c hc))
  have hmap : (x.rest.take (runN hxL x.rest)).map lowH = [] ↔ runN hxL x.rest = 0 := by rw [List.map_eq_nil_iff, take_run]
  have hml : ((x.rest.take (runN hxL x.rest)).map lowH).length = runN hxL x.rest := by rw [List.length_map, hlen]
  have hf := scan_fail s (takeX (runN hxL x.rest) x) 2
  unfold wdY
  by_cases c0 : runN hxL x.rest = 0
  · rw [if_pos (.inl c0)]
    refine (Evn.const fun f => ?_).lim
    simp only [f_leaplist_word_io_m, lst_hx, scan_run s x h hs hxL hxL_ok, Option.bind_some, hlow, sc_nil, str_emp, cond_dec, hmap]
    rw [if_pos c0, hf]; rfl
  · by_cases c8 : 8 < runN hxL x.rest
    · rw [if_pos (.inr c8)]
      refine (Evn.const fun f => ?_).lim
      simp only [f_leaplist_word_io_m, lst_hx, scan_run s x h hs hxL hxL_ok, Option.bind_some, hlow, sc_nil, str_emp, cond_dec, hmap, str_size, hml, gt_iff_lt]
      rw [if_neg c0, if_pos (by omega), hf]; rfl
    · rw [if_neg (by omega)]
      have hS : ∀ c ∈ (x.rest.take (runN hxL x.rest)).map lowH, c ∈ hxS := by
        intro c hc
        obtain ⟨y, hy, rfl⟩ := List.mem_map.1 hc
        exact (low_hex y (hm y hy)).1
      have hoS : okBy ((x.rest.take (runN hxL x.rest)).map lowH) := fun c hc => by
        have : ∀ c ∈ hxS, 0 ≤ c ∧ c < 256 := by decide
        exact this c (hS c hc)
      have hw := word_p9 (takeX (runN hxL x.rest) x) s ((x.rest.take (runN hxL x.rest)).map lowH) hS (by omega) hoS _ 0 (Nat.zero_add _)
      rw [hexV_low hm] at hw
      refine (hw.cast fun f => ?_).lim
      simp only [f_leaplist_word_io_m, lst_hx, scan_run s x h hs hxL hxL_ok, Option.bind_some, hlow, sc_nil, str_emp, cond_dec, hmap, str_size, hml, gt_iff_lt]
      rw [if_neg c0, if_neg (by omega)]; rfl
end Go.Proofs.YtcnngodgngmghaaGreatDoor.Ev
