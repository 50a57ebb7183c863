/- Own texts, put together: see the row's text for what is proved. -/
import Derived.Test.YtcnngodgngmghaaGreatDoorPkListBack3
namespace Go.Proofs.YtcnngodgngmghaaGreatDoor.Ev
open Go
set_option linter.unusedVariables false
set_option linter.unusedSimpArgs false
@[reducible] def gL : List Int := [32, 9]
@[reducible] def hxL : List Int := [48, 49, 50, 51, 52, 53, 54, 55, 56, 57, 97, 98, 99, 100, 101, 102, 65, 66, 67, 68, 69, 70]
@[reducible] def hxS : List Int := [48, 49, 50, 51, 52, 53, 54, 55, 56, 57, 97, 98, 99, 100, 101, 102]
theorem Aox : (⟨#[32, 9]⟩ : ByteArray) = As gL := by kernel_rfl
theorem A1a : (⟨#[48, 49, 50, 51, 52, 53, 54, 55, 56, 57, 97, 98, 99, 100, 101, 102, 65, 66, 67, 68, 69, 70]⟩ : ByteArray) = As hxL := by kernel_rfl
theorem A8f : (⟨#[48, 49, 50, 51, 52, 53, 54, 55, 56, 57, 97, 98, 99, 100, 101, 102]⟩ : ByteArray) = As hxS := by kernel_rfl
theorem A13 : I6 gL := by unfold I6; decide
theorem Azn : I6 hxL := by unfold I6; decide
theorem Aoa (S l : List Int) : l.take (Do S l) = [] ↔ Do S l = 0 := by
 have := Adw S l
 rw [List.take_eq_nil_iff]
 constructor
 ·rintro (h | h)
  ·exact h
  ·subst h; rfl
 ·exact .inl
def To (n : Nat) (x : X) : X := if Do gL x.rest = 0 then Av8 n 2 x else El (Do gL x.rest) x
theorem Yf (x : X) : El 0 x = x := by cases x <;> simp [El]
theorem Aad {s : ByteArray} {x : X} (h : x.wf s) : (To s.size x).wf s := by
 unfold To
 split
 ·exact Atx h 2
 ·exact Sv h _
theorem Aab (s : ByteArray) (x : X) (h : x.wf s) (hs : s.size <= 1000000) : Da (x.t s, ((), ())) = some ((To s.size x).t s, ((), ())) := by
 simp only [Da, Ri, Aox, Vp s x h hs gL A13, Option.bind_some, Zo, Aea, Ac, Aoa]
 unfold To
 by_cases c : Do gL x.rest = 0
 ·rw [if_pos c, if_pos c, c, Yf]
  have := Ap1 s x 2
  rw [this]; rfl
 ·rw [if_neg c, if_neg c]
def Aff (x : X) : Option Int := (El (Do gL x.rest) x).end
theorem Ax6 (s : ByteArray) (x : X) (h : x.wf s) (hs : s.size <= 1000000) : D1 (x.t s, ((), ())) = some ((El (Do gL x.rest) x).t s, ((Aff x, ()), ((), ()))) := by
 have he := Ac8 s (El (Do gL x.rest) x) (Sv h _)
 simp only [X.p] at he
 simp only [D1, Rs, Aox, Vp s x h hs gL A13, Option.bind_some, X.t, he]; rfl
def At5 (x : Int) : Int := if 65 <= x /\ x <= 90 then x + 32 else x
def Ara (x : Int) : Int := if x <= 57 then x - 48 else if x <= 70 then x - 55 else x - 87
def Aoi (l : List Int) : Int := l.foldl (fun n x => n * 16 + Ara x) 0
theorem A91 (b : UInt8) : ((Lib.lowerB b).toNat : Int) = At5 (b.toNat : Int) := by
 have e : Lib.isUpperB b = true ↔ (65 <= b.toNat /\ b.toNat <= 90) := by
  simp [Lib.isUpperB, UInt8.le_iff_toNat_le]
 have hb := b.toNat_lt
 unfold Lib.lowerB At5
 by_cases c : 65 <= b.toNat /\ b.toNat <= 90
 ·rw [if_pos (e.2 c), if_pos (by omega), UInt8.toNat_add, show (32 : UInt8).toNat = 32 from rfl]; omega
 ·rw [if_neg (fun q => c (e.1 q)), if_neg (by omega)]
theorem Ay9 (l : List Int) (ho : I6 l) (hl : l.length <= 1000000) (h : ∀ x ∈ l, x < 128) : J8 ((), ((As l, ()), ())) = some ((), ((As (l.map At5), ()), ())) := by
 show Rn _ = _
 unfold Rn
 simp only
 have hb : bytesOf (As l) = l := Iu ho
 rw [if_pos]
 ·congr 4
  apply Ak5
  rw [Iu]
  ·unfold bytesOf at hb ⊢
   simp only [List.toList_toArray, Lib.toLowerA, List.map_map]
   conv => rhs; rw [<- hb]
   rw [List.map_map]
   exact List.map_congr_left fun b _ => A91 b
  ·intro x hx
   obtain ⟨y, hy, rfl⟩ := List.mem_map.1 hx
   have := ho y hy
   have := h y hy
   unfold At5
   split <;> omega
 ·refine ⟨by rw [Ce]; omega, ?_⟩
  rw [List.all_eq_true]
  intro b hbm
  have : ((b.toNat : Int)) ∈ l := by
   rw [<- hb]; unfold bytesOf
   exact List.mem_map_of_mem (f := fun b : UInt8 => (b.toNat : Int)) hbm
  have := h _ this
  rw [decide_eq_true_eq]; omega
theorem A0v : ∀ c ∈ hxS, Et ((), ((As hxS, ()), ((c, ()), ()))) = some ((), ((Ara c, ()), ())) := by
 intro c hc
 simp only [hxS, List.mem_cons, List.not_mem_nil, or_false] at hc
 rcases hc with rfl | rfl | rfl | rfl | rfl | rfl | rfl | rfl | rfl | rfl | rfl | rfl | rfl | rfl | rfl | rfl <;> kernel_rfl
theorem Apq : ∀ c ∈ hxS, 0 <= Ara c /\ Ara c < 16 := by decide
theorem Asu : ∀ c ∈ hxL, At5 c ∈ hxS /\ Ara (At5 c) = Ara c := by decide
theorem A4v : ∀ c ∈ hxL, c < 128 := by decide
theorem A2l {n x : Int} (hn : 0 <= n) (h2 : n < 268435456) (h0 : 0 <= x) (h1 : x < 16) : ior .u32 (Axs .u32 n 4) x = n * 16 + x := by
 obtain ⟨a, rfl⟩ := Int.eq_ofNat_of_zero_le hn
 obtain ⟨y, rfl⟩ := Int.eq_ofNat_of_zero_le h0
 have hy : y < 16 := by omega
 have ha : a < 268435456 := by omega
 have e1 : Axs .u32 (a : Int) 4 = (a <<< 4 : Nat) := by
  unfold Axs
  rw [wrap_u32, show min (4 : Int).toNat (IntKind.bits .u32) = 4 from rfl, Nat.shiftLeft_eq]
  omega
 rw [e1]
 unfold ior
 have hlt : a <<< 4 < 2 ^ IntKind.bits .u32 := by rw [Nat.shiftLeft_eq]; simp only [IntKind.bits]; omega
 have e2 : (BitVec.ofInt (IntKind.bits .u32) ((a <<< 4 : Nat) : Int) ||| BitVec.ofInt (IntKind.bits .u32) (y : Int)).toNat = a <<< 4 + y := by
  rw [BitVec.toNat_or, BitVec.toNat_ofInt, BitVec.toNat_ofInt]
  have k1 : (((a <<< 4 : Nat) : Int) % ((2 ^ IntKind.bits .u32 : Nat) : Int)).toNat = a <<< 4 := by
   rw [<- Int.natCast_emod, Int.toNat_natCast, Nat.mod_eq_of_lt hlt]
  have k2 : ((y : Int) % ((2 ^ IntKind.bits .u32 : Nat) : Int)).toNat = y := by
   rw [<- Int.natCast_emod, Int.toNat_natCast, Nat.mod_eq_of_lt (by simp only [IntKind.bits]; omega)]
  rw [k1, k2, Nat.shiftLeft_add_eq_or_of_lt (by omega)]
 rw [e2, wrap_u32, Nat.shiftLeft_eq]
 omega
theorem Aq5 (l : List Int) (x : Int) : Aoi (l ++ [x]) = Aoi l * 16 + Ara x := by simp [Aoi]
theorem Adi : ∀ (n : Nat) (l : List Int), l.length = n -> (∀ x ∈ l, x ∈ hxS) -> 0 <= Aoi l /\ Aoi l < 16 ^ n
 | 0, l, h, _ => by rw [List.eq_nil_of_length_eq_zero h]; decide
 | n + 1, l, h, hf => by
  have hne : l ≠ [] := by intro e; rw [e] at h; cases h
  rw [<- List.dropLast_concat_getLast hne, Aq5]
  have h1 := Adi n l.dropLast (by rw [List.length_dropLast]; omega) (fun x hx => hf x (List.dropLast_subset l hx))
  have h2 := Apq _ (hf _ (List.getLast_mem hne))
  rw [Int.pow_succ]
  omega
theorem A6e (x : X) (s : ByteArray) (t : List Int) (ht : ∀ c ∈ t, c ∈ hxS) (hl : t.length <= 8) (ho : I6 t) : ∀ (k i : Nat), i + k = t.length ->
  Evn (fun f => (Dk f).1 (x.t s, ((), ((As t, ()), ((Aoi (t.take i), ()), (((t.length : Int), ()), (((i : Int), ()), ()))))))) (x.t s, ((Aoi t, ()), ((), ()))) := by
 intro k
 induction k with
 | zero =>
  intro i hi
  refine Evn.some 1 fun f => ?_
  simp only [R8, G3, X.t, Ag, Option.bind_some, Option.isNone_none, Option.isNone_some, Option.isSome_none, Option.isSome_some, Bool.not_true, Bool.not_false, cond_true, cond_false, Ac, Ap, Ar, Ao]
  rw [if_neg (by omega), List.take_of_length_le (by omega)]
 | succ k ih =>
  intro i hi
  refine (ih (i + 1) (by omega)).step fun f => ?_
  have hb := As9 (As t) (i := (i : Int)) (by omega) (by rw [Ce]; omega)
  rw [Iu ho, Int.toNat_natCast] at hb
  have hmem : t.getD i 0 ∈ t := by
   rw [List.getD_eq_getElem?_getD, List.getElem?_eq_getElem (by omega)]; exact List.getElem_mem _
  have hc := ht _ hmem
  have hr := Adi i (t.take i) (by rw [List.length_take]; omega) (fun x hx => ht x (List.mem_of_mem_take hx))
  have hd := Apq _ hc
  have hp : (16 : Int) ^ i <= 16 ^ 7 := by
   have : 16 ^ i <= 16 ^ 7 := Nat.pow_le_pow_right (by omega) (by omega)
   exact_mod_cast this
  have e1 : Aoi (t.take (i + 1)) = Aoi (t.take i) * 16 + Ara (t.getD i 0) := by
   rw [List.take_add_one, <- Aq5]
   congr 2
   rw [List.getD_eq_getElem?_getD, List.getElem?_eq_getElem (by omega)]; rfl
  have e2 : J4 .u32 (Ara (t.getD i 0)) = Ara (t.getD i 0) := by rw [A0n]; omega
  simp only [R8, G3, X.t, Ag, Option.bind_some, Option.isNone_none, Option.isNone_some, Option.isSome_none, Option.isSome_some, Bool.not_true, Bool.not_false, cond_true, cond_false, Ac, Ap, Ar, Ao, Ce, Ci, hb, A8f, A0v _ hc, e2]
  rw [if_pos (by omega), if_pos (by omega), A2l hr.1 (by omega) hd.1 hd.2, <- e1, A9 (by omega)]; rfl
def wdY (n : Nat) (x : X) : X × Int :=
 if Do hxL x.rest = 0 \/ 8 < Do hxL x.rest then (Av8 n 2 (El (Do hxL x.rest) x), 0) else (El (Do hxL x.rest) x, Aoi (x.rest.take (Do hxL x.rest)))
theorem Aqo {s : ByteArray} {x : X} (h : x.wf s) : (wdY s.size x).1.wf s := by
 unfold wdY
 split
 ·exact Atx (Sv h _) 2
 ·exact Sv h _
theorem Ay1 {S l : List Int} : ∀ c ∈ l.take (Do S l), c ∈ S := by
 intro c hc
 obtain ⟨i, hi, rfl⟩ := List.getElem_of_mem hc
 have hl := Adw S l
 rw [List.length_take] at hi
 have := Ars (S := S) (l := l) (i := i) (by omega)
 rw [List.getElem_take]
 rwa [List.getD_eq_getElem?_getD, List.getElem?_eq_getElem (by omega)] at this
theorem Auf : ∀ {l : List Int}, (∀ c ∈ l, c ∈ hxL) -> Aoi (l.map At5) = Aoi l := by
 intro l h
 unfold Aoi
 rw [List.foldl_map]
 have : ∀ (l : List Int) (n : Int), (∀ c ∈ l, c ∈ hxL) -> l.foldl (fun n x => n * 16 + Ara (At5 x)) n = l.foldl (fun n x => n * 16 + Ara x) n := by
  intro l
  induction l with
  | nil => intro n _; rfl
  | cons a l ih =>
   intro n h
   simp only [List.foldl_cons]
   rw [(Asu a (h a (List.mem_cons_self ..))).2]
   exact ih _ fun c hc => h c (List.mem_cons_of_mem _ hc)
 exact this l 0 h
theorem Acr (s : ByteArray) (x : X) (h : x.wf s) (hs : s.size <= 1000000) : Jg (x.t s, ((), ())) = some ((wdY s.size x).1.t s, (((wdY s.size x).2, ()), ((), ()))) := by
 have hr := X.ok_rest h
 have hl := Adw hxL x.rest
 have hm : ∀ c ∈ x.rest.take (Do hxL x.rest), c ∈ hxL := Ay1
 have hlen : (x.rest.take (Do hxL x.rest)).length = Do hxL x.rest := by rw [List.length_take]; omega
 have hlow := Ay9 (x.rest.take (Do hxL x.rest)) (Azu hr.1 _) (by omega) (fun c hc => A4v c (hm c hc))
 have hmap : (x.rest.take (Do hxL x.rest)).map At5 = [] ↔ Do hxL x.rest = 0 := by rw [List.map_eq_nil_iff, Aoa]
 have hml : ((x.rest.take (Do hxL x.rest)).map At5).length = Do hxL x.rest := by rw [List.length_map, hlen]
 have hf := Ap1 s (El (Do hxL x.rest) x) 2
 unfold wdY
 by_cases c0 : Do hxL x.rest = 0
 ·rw [if_pos (.inl c0)]
  refine (Evn.const fun f => ?_).lim
  simp only [Fk, A1a, Vp s x h hs hxL Azn, Option.bind_some, hlow, Zo, Aea, Ac, hmap]
  rw [if_pos c0, hf]; rfl
 ·by_cases c8 : 8 < Do hxL x.rest
  ·rw [if_pos (.inr c8)]
   refine (Evn.const fun f => ?_).lim
   simp only [Fk, A1a, Vp s x h hs hxL Azn, Option.bind_some, hlow, Zo, Aea, Ac, hmap, Ce, hml, gt_iff_lt]
   rw [if_neg c0, if_pos (by omega), hf]; rfl
  ·rw [if_neg (by omega)]
   have hS : ∀ c ∈ (x.rest.take (Do hxL x.rest)).map At5, c ∈ hxS := by
    intro c hc
    obtain ⟨y, hy, rfl⟩ := List.mem_map.1 hc
    exact (Asu y (hm y hy)).1
   have hoS : I6 ((x.rest.take (Do hxL x.rest)).map At5) := fun c hc => by
    have : ∀ c ∈ hxS, 0 <= c /\ c < 256 := by decide
    exact this c (hS c hc)
   have hw := A6e (El (Do hxL x.rest) x) s ((x.rest.take (Do hxL x.rest)).map At5) hS (by omega) hoS _ 0 (Nat.zero_add _)
   rw [Auf hm] at hw
   refine (hw.cast fun f => ?_).lim
   simp only [Fk, A1a, Vp s x h hs hxL Azn, Option.bind_some, hlow, Zo, Aea, Ac, hmap, Ce, hml, gt_iff_lt]
   rw [if_neg c0, if_neg (by omega)]; rfl
set_option maxRecDepth 4000
def Ny : List Int -> List Int -> List (List Int)
 | cur, [] => [cur]
 | cur, x :: l => if x = 10 then cur :: Ny [] l else Ny (cur ++ [x]) l
theorem Ala : ∀ (l cur : List Int), 10 ∉ l -> Ny cur l = [cur ++ l]
 | [], cur, _ => by rw [Ny, List.append_nil]
 | x :: l, cur, h => by
  rw [Ny, if_neg (fun q => h (by rw [q]; simp)), Ala l _ (fun q => h (by simp [q])), List.append_assoc]; rfl
theorem Aql : ∀ (a cur b : List Int), 10 ∉ a -> Ny cur (a ++ 10 :: b) = (cur ++ a) :: Ny [] b
 | [], cur, b, _ => by rw [List.nil_append, Ny, if_pos rfl, List.append_nil]
 | x :: a, cur, b, h => by
  rw [List.cons_append, Ny, if_neg (fun q => h (by rw [q]; simp)), Aql a _ b (fun q => h (by simp [q])), List.append_assoc]; rfl
theorem Awp : ∀ (n : Nat) (s : ByteArray), s.size <= n -> Lib.splitB ⟨#[10]⟩ 0 (Lib.countB s ⟨#[10]⟩) s = (Ny [] (bytesOf s)).map As := by
 intro n
 induction n with
 | zero =>
  intro s hs
  have hb : bytesOf s = [] := List.eq_nil_of_length_eq_zero (by rw [Ss]; omega)
  have hm : Lib.indexB s ⟨#[10]⟩ = -1 := by
   rw [show Lib.indexB s ⟨#[10]⟩ = Lib.index s.data.toList [10] from rfl, Lib.index_one]
   have : s.data.toList = [] := by
    unfold bytesOf at hb
    exact List.map_eq_nil_iff.1 hb
   rw [this]; rfl
  rw [Lib.countB_miss s _ hm, Lib.splitB_zero, hb, Ny, <- hb]
  simp [Aug]
 | succ n ih =>
  intro s hs
  have hi : Lib.indexB s ⟨#[10]⟩ = Lib.indexByte s.data.toList 10 := by
   rw [show Lib.indexB s ⟨#[10]⟩ = Lib.index s.data.toList [10] from rfl, Lib.index_one]
  have conv : ∀ k : Nat, (bytesOf s)[k]? = some 10 ↔ s.data.toList[k]? = some 10 := fun k => by
   unfold bytesOf
   rw [List.getElem?_map]
   cases s.data.toList[k]? with
   | none => simp
   | some b =>
    simp only [Option.map_some, Option.some.injEq]
    constructor
    ·intro q; exact UInt8.toNat_inj.1 (by show b.toNat = 10; omega)
    ·rintro rfl; rfl
  rcases Lib.indexB_cases s ⟨#[10]⟩ with hm | ⟨i, hm, hr⟩
  ·have hn : 10 ∉ bytesOf s := fun q => by
    obtain ⟨k, hk⟩ := List.getElem?_of_mem q
    exact Lib.indexByte_none (hi ▸ hm) k ((conv k).1 hk)
   rw [Lib.countB_miss s _ hm, Lib.splitB_zero, Ala _ _ hn, List.nil_append]
   simp [Aug]
  ·rw [show (⟨#[10]⟩ : ByteArray).size = 1 from rfl] at hr
   obtain ⟨h1, h2⟩ := Lib.indexByte_some (hi ▸ hm)
   have hl := Ss s
   have h3 := (conv i).2 h1
   have hlt : i < (bytesOf s).length := by omega
   have e : bytesOf s = (bytesOf s).take i ++ 10 :: (bytesOf s).drop (i + 1) := by
    conv => lhs; rw [<- List.take_append_drop i (bytesOf s)]
    congr 1
    rw [List.drop_eq_getElem_cons hlt]
    congr 1
    rw [List.getElem?_eq_getElem hlt] at h3
    exact Option.some.inj h3
   have hn : 10 ∉ (bytesOf s).take i := fun q => by
    obtain ⟨k, hk⟩ := List.getElem?_of_mem q
    have hki : k < i := by
     have := (List.getElem?_eq_some_iff.1 hk).1
     rw [List.length_take] at this; omega
    rw [List.getElem?_take_of_lt hki] at hk
    exact h2 k hki ((conv k).1 hk)
   have hsz : (s.extract (i + 1) s.size).size <= n := by rw [ByteArray.size_extract]; omega
   have hb := Akz s (i + 1) s.size
   rw [<- hl, List.take_length] at hb
   rw [Lib.countB_hit s _ i (by decide) hm, Nat.add_comm, Lib.splitB_hit _ 0 _ s i hm, show (⟨#[10]⟩ : ByteArray).size = 1 from rfl, ih _ hsz]
   conv => rhs; rw [e, Aql _ _ _ hn, List.nil_append, List.map_cons]
   rw [<- hl, hb]
   congr 1
   have h0 := Akz s 0 (i + 0)
   rw [Nat.add_zero, List.drop_zero] at h0
   rw [Nat.add_zero, <- Aug (s.extract 0 i), h0]
theorem Aw4 (s : ByteArray) (hs : s.size <= 1000000) : L6 ((), ((s, ()), (((⟨#[10]⟩ : ByteArray), ()), ()))) = some ((), (((Ny [] (bytesOf s)).map As, ()), ())) := by
 show X2 _ = _
 unfold X2
 simp only
 rw [if_pos ⟨by omega, by decide⟩, Awp s.size s (Nat.le_refl _)]
theorem Ar4 (s p : ByteArray) : Cd ((), ((s, ()), ((p, ()), ()))) = some ((), ((decide ((bytesOf s).take p.size = bytesOf p), ()), ())) := by
 have hl := Ss s
 have hp := Ss p
 simp only [Cd, Gm, Ag, Option.bind_some, Option.isNone_none, Option.isNone_some, Option.isSome_none, Option.isSome_some, Bool.not_true, Bool.not_false, cond_true, cond_false, Ac, Ap, Ar, Ao, Ci, ge_iff_le]
 by_cases c : p.size <= s.size
 ·rw [if_pos (by omega), if_pos (by omega), Ax9, Akz, Int.toNat_natCast]
  rfl
 ·rw [if_neg (by omega), decide_eq_false]
  intro q
  have := congrArg List.length q
  rw [List.length_take] at this; omega
theorem Aks (p : UInt8 -> Bool) : ∀ l : List UInt8, (∀ x ∈ l.dropWhile p, p x = true) -> ∀ x ∈ l, p x = true
 | [], _, x, hx => by cases hx
 | y :: l, h, x, hx => by
  rw [List.dropWhile_cons] at h
  cases hy : p y with
  | true =>
   rw [hy, if_pos rfl] at h
   rcases List.mem_cons.1 hx with rfl | hx
   ·exact hy
   ·exact Aks p l h x hx
  | false =>
   rw [hy, if_neg (by decide)] at h
   have := h y (by simp)
   rw [hy] at this; cases this
theorem Avl (p : UInt8 -> Bool) : ∀ l : List UInt8, l.dropWhile p = [] ↔ ∀ x ∈ l, p x = true
 | [] => by simp
 | y :: l => by
  rw [List.dropWhile_cons]
  cases hy : p y with
  | true =>
   rw [if_pos rfl, Avl p l]
   constructor
   ·intro h x hx
    rcases List.mem_cons.1 hx with rfl | hx
    ·exact hy
    ·exact h x hx
   ·intro h x hx; exact h x (by simp [hx])
  | false =>
   rw [if_neg (by decide)]
   constructor
   ·intro h; cases h
   ·intro h; have := h y (by simp); rw [hy] at this; cases this
theorem Ay5 (l cs : List UInt8) : Lib.trimS l cs = [] ↔ ∀ x ∈ l, cs.contains x = true := by
 unfold Lib.trimS Lib.trimLeftS Lib.trimRightS
 rw [Avl]
 constructor
 ·intro h x hx
  have := Aks (cs.contains ·) l.reverse (fun y hy => h y (List.mem_reverse.2 hy)) x (List.mem_reverse.2 hx)
  exact this
 ·intro h x hx
  exact h x (List.mem_reverse.1 ((List.dropWhile_sublist _).mem (List.mem_reverse.1 hx)))
theorem Aud (x : UInt8) : ([32, 9] : List UInt8).contains x = decide ((x.toNat : Int) ∈ gL) := by
 have key : ∀ n : Fin 256, ([32, 9] : List UInt8).contains (UInt8.ofNat n.val) = decide (n.val = 32 \/ n.val = 9) := by decide
 have := key ⟨x.toNat, x.toNat_lt⟩
 simp only [UInt8.ofNat_toNat] at this
 rw [this]
 congr 1
 simp only [gL, List.mem_cons, List.not_mem_nil, or_false]
 exact propext ⟨fun h => by omega, fun h => by omega⟩
theorem A08 (w : List Int) (hw : I6 w) (hl : w.length <= 1000000) : ∃ t : ByteArray, Oq ((), ((As w, ()), ((As gL, ()), ()))) = some ((), ((t, ()), ())) /\ ((t.toList == (As []).toList) = decide (∀ x ∈ w, x ∈ gL)) := by
 rw [<- Aox]
 refine ⟨⟨(Lib.trimS (As w).data.toList [32, 9]).toArray⟩, ?_, ?_⟩
 ·show Ach _ = _
  unfold Ach
  simp only
  rw [if_pos ⟨by rw [Ce]; omega, by decide, by decide⟩]
 ·rw [ByteArray.toList_eq, ByteArray.toList_eq]
  have e1 : (Lib.trimS (As w).data.toList [32, 9] = []) ↔ ∀ x ∈ w, x ∈ gL := by
   rw [Ay5]
   have hb := Iu hw
   unfold bytesOf at hb
   constructor
   ·intro h x hx
    rw [<- hb] at hx
    obtain ⟨b, hb1, rfl⟩ := List.mem_map.1 hx
    have := h b hb1
    rw [Aud] at this
    exact of_decide_eq_true this
   ·intro h b hb1
    rw [Aud]
    refine decide_eq_true (h _ ?_)
    rw [<- hb]
    exact List.mem_map_of_mem hb1
  rw [show (As []).data.toList = [] from rfl, List.toList_toArray]
  by_cases c : ∀ x ∈ w, x ∈ gL
  ·rw [decide_eq_true c, e1.2 c]; rfl
  ·rw [decide_eq_false c]
   have := fun q => c (e1.1 q)
   cases hh : Lib.trimS (As w).data.toList [32, 9] with
   | nil => exact absurd hh this
   | cons _ _ => rfl
theorem Adm (l p : List Int) (hl : I6 l) (hp : I6 p) : Dx ((), ((As l, ()), ((As p, ()), ()))) = some ((), ((decide (l.take p.length = p), ()), ())) := by
 simp only [Dx, Pa, Ar4, Option.bind_some, Iu hl, Iu hp, Ce]
def Aor (l : List Int) : List Int := if l.getLast? = some 10 then l.dropLast else l
theorem A2j (l : List Int) (hl : I6 l) (hs : l.length <= 1000000) : Fj ((), ((As l, ()), ((As [10], ()), ()))) = some ((), ((As (Aor l), ()), ())) := by
 have hx : Cc ((), ((As l, ()), ((As [10], ()), ()))) = some ((), ((decide (l.getLast? = some 10), ()), ())) := by
  simp only [Cc, Gl, Ag, Option.bind_some, Option.isNone_none, Option.isNone_some, Option.isSome_none, Option.isSome_some, Bool.not_true, Bool.not_false, cond_true, cond_false, Ac, Ap, Ar, Ao, Ci, ge_iff_le, Ce, List.length_cons, List.length_nil, Aid, List.take_length, Int.toNat_natCast]
  cases hc : l with
  | nil => simp
  | cons a t =>
   have hne : a :: t ≠ [] := by simp
   rw [<- hc] at hne ⊢
   have hpos : 0 < l.length := by rw [hc]; simp
   rw [if_pos (by omega), C5 (by omega), if_pos (by omega)]
   rw [show (((l.length : Int) - ((0 + 1 : Nat) : Int))).toNat = l.length - 1 by omega]
   rw [Anr _ _ (Apd hl _) (by intro x hx; rw [List.mem_singleton.1 hx]; decide)]
   have hd : l.drop (l.length - 1) = [l.getLast hne] := by
    rw [List.drop_eq_getElem_cons (by omega), List.drop_eq_nil_of_le (by omega), List.getLast_eq_getElem]
   rw [hd, List.getLast?_eq_some_getLast hne]
   simp
 simp only [Fj, Nm, Cw, Ga, hx, Ag, Option.bind_some, Option.isNone_none, Option.isNone_some, Option.isSome_none, Option.isSome_some, Bool.not_true, Bool.not_false, cond_true, cond_false, Ac, Ap, Ar, Ao, Ci, Ce, List.length_cons, List.length_nil, Aid, List.drop_zero, show (0 : Int).toNat = 0 from rfl]
 unfold Aor
 by_cases c : l.getLast? = some 10
 ·rw [if_pos c, if_pos c]
  have hpos : 0 < l.length := by
   cases l with
   | nil => cases c
   | cons _ _ => simp
  rw [C5 (by omega), if_pos (by omega), show (((l.length : Int) - ((0 + 1 : Nat) : Int))).toNat = l.length - 1 by omega, <- List.dropLast_eq_take]
  rfl
 ·rw [if_neg c, if_neg c]; rfl
def Ub (y : Int) : Prop := y % 4 = 0 /\ (y % 100 ≠ 0 \/ y % 400 = 0)
instance (y : Int) : Decidable (Ub y) := by unfold Ub; infer_instance
def A1h (y m : Int) : Int := if m = 2 then (if Ub y then 29 else 28) else if m = 4 \/ m = 6 \/ m = 9 \/ m = 11 then 30 else 31
def A81 (y : Int) : Int := if Ub y then 366 else 365
def Afk (y m d : Int) : Int :=
 if m <= 2 then 365 * (y - 1) + (y - 1) / 4 - (y - 1) / 100 + (y - 1) / 400 + (153 * (m + 9) + 2) / 5 + d - 1 - 719468
 else 365 * y + y / 4 - y / 100 + y / 400 + (153 * (m - 3) + 2) / 5 + d - 1 - 719468
theorem Awg (y m : Int) : 28 <= A1h y m /\ A1h y m <= 31 := by
 unfold A1h; split <;> (split <;> omega)
theorem Ah3 (a c : Int) (hc : 0 < c) (h : -9223372036854775807 <= a /\ a <= 9223372036854775807) : Li ((), ((a, ()), ((c, ()), ()))) = some ((), ((a / c, ()), ())) := by
 simp only [Li, Abt, Ag, Option.bind_some, Option.isNone_none, Option.isNone_some, Option.isSome_none, Option.isSome_some, Bool.not_true, Bool.not_false, cond_true, cond_false, Ac, Ap, Ar, Ao]
 rw [if_neg (by omega), if_neg (by omega), Aux hc (by omega), A22 c hc]
 have hm : 0 <= a % c := Int.emod_nonneg _ (by omega)
 have hn : 0 <= (-a) % c := Int.emod_nonneg _ (by omega)
 by_cases h0 : 0 <= a
 ·rw [if_pos h0, if_pos h0, if_neg (by omega)]
 ·rw [if_neg h0, if_neg h0]
  have e1 := Int.mul_ediv_add_emod a c
  have e2 := Int.mul_ediv_add_emod (-a) c
  have l1 := Int.emod_lt_of_pos a hc
  have l2 := Int.emod_lt_of_pos (-a) hc
  have q0 : 0 <= (-a) / c := Int.ediv_nonneg (by omega) (by omega)
  have q1 : (-a) / c <= -a := Int.ediv_le_self _ (by omega)
  by_cases h1 : -(-a % c) < 0
  ·rw [if_pos h1, C5 (by omega)]
   have : a / c = -(-a / c) - 1 := ((Int.ediv_emod_unique (r := c - -a % c) hc).2 ⟨by rw [Int.mul_sub, Int.mul_neg]; omega, by omega, by omega⟩).1
   rw [this]
  ·rw [if_neg h1]
   have : a / c = -(-a / c) := ((Int.ediv_emod_unique (r := 0) hc).2 ⟨by rw [Int.mul_neg]; omega, by omega, by omega⟩).1
   rw [this]
theorem Ak9 (y m d : Int) (hy : -20000 <= y /\ y <= 20000) (hm : 1 <= m /\ m <= 12) (hd : 1 <= d /\ d <= 31) : Lx ((), ((y, ()), ((m, ()), ((d, ()), ())))) = some ((), ((Afk y m d, ()), ())) := by
 simp only [Lx, Zr, Ag, Option.bind_some, Option.isNone_none, Option.isNone_some, Option.isSome_none, Option.isSome_some, Bool.not_true, Bool.not_false, cond_true, cond_false, Ac, Ap, Ar, Ao, Afk]
 by_cases h : m <= 2
 ·rw [if_pos h, if_pos h]
  simp (disch := omega) only [Ah3, Option.bind_some, C5, A9, Iq, S8]
  rw [show y - 1 - (y - 1) / 400 * 400 = (y - 1) % 400 by omega]
  congr 4
  omega
 ·rw [if_neg h, if_neg h]
  simp (disch := omega) only [Ah3, Option.bind_some, C5, A9, Iq, S8]
  rw [show y - y / 400 * 400 = y % 400 by omega]
  congr 4
  omega
theorem Aca : Ln ((), ()) = some ((), ((-4371587, ()), ())) := by
 simp only [Ln, Abl, Ak9 (-9999) 1 1 (by omega) (by omega) (by omega)]; rfl
theorem Agn : Nz ((), ()) = some ((), ((2932896, ()), ())) := by
 simp only [Nz, Afl, Ak9 9999 12 31 (by omega) (by omega) (by omega)]; rfl
structure RS where
 up : Option Int
 ex : Option Int
 dg : Option (Int × (Int × (Int × (Int × Int))))
 rows : List (Int × Int)
@[reducible] def RS.t (r : RS) : ((Option Int) × ((Option Int) × ((Option (Int × (Int × (Int × (Int × Int))))) × Unit))) × ((List (Int × Int)) × Unit) := ((r.up, (r.ex, (r.dg, ()))), (r.rows, ()))
def Afv (l : List Int) : Int × Option Int :=
 ((U4 l.length 1 13 (To l.length (.good l))).2, Aff (U4 l.length 1 13 (To l.length (.good l))).1)
theorem A2r (l : List Int) (hl : I6 l) (hs : l.length <= 1000000) : ∃ y z : X, Da ((X.good l).t (As l), ((), ())) = some (y.t (As l), ((), ())) /\
  Av (y.t (As l), ((), (((1 : Int), ()), (((13 : Int), ()), ())))) = some (z.t (As l), (((Afv l).1, ()), ((), ()))) /\
  D1 (z.t (As l), ((), ())) = some ((El (Do gL z.rest) z).t (As l), (((Afv l).2, ()), ((), ()))) := by
 have hz : (As l).size = l.length := Ce l
 have w0 : X.wf (As l) (.good l) := ⟨[], by rw [Iu hl]; rfl⟩
 have w1 := Aad w0
 have h1 := Aab (As l) (.good l) w0 (by omega)
 have h2 := Wk (As l) _ w1 (by omega) 1 13 (by omega)
 have h3 := Ax6 (As l) _ (Arm w1 1 13) (by omega)
 rw [hz] at h1 h2 h3
 exact ⟨_, _, h1, h2, h3⟩
theorem Anf (l : List Int) (hl : I6 l) : Db ((), ((As l, ()), ())) = some ((X.good l).t (As l), ((), ())) := by
 rw [A2z, Iu hl]
def Ph (n : Nat) : Nat -> X -> X × List Int
 | 0, x => (x, [])
 | k + 1, x => ((Ph n k (wdY n (To n x)).1).1, (wdY n (To n x)).2 :: (Ph n k (wdY n (To n x)).1).2)
@[reducible] def A7p (l : List Int) : Int × (Int × (Int × (Int × Int))) := (l.getD 0 0, (l.getD 1 0, (l.getD 2 0, (l.getD 3 0, l.getD 4 0))))
def A6w (l : List Int) : List Int × Option Int := ((Ph l.length 5 (.good l)).2, Aff (Ph l.length 5 (.good l)).1)
def Atf (r : RS) (l : List Int) : RS × Option Int :=
 match (A6w l).2 with
 | some c => (r, some c)
 | none => if r.dg.isSome then (r, some 2) else ({ r with dg := some (A7p (A6w l).1) }, none)
theorem A43 (r : RS) (s : ByteArray) (hs : s.size <= 1000000) (x : X) (h : x.wf s) (a b c d e : Int) : Evn (fun f => (Au f).1 (((r.up, (r.ex, (r.dg, ()))), (r.rows, ((s, (x.at s.size, (x.er, ()))), ((a, (b, (c, (d, (e, ()))))), ())))), ((), ((), ((), ((5, ()), ()))))))
  (((match Aff x with | some c => r | none => if r.dg.isSome then r else { r with dg := some (a, (b, (c, (d, e)))) }).t, (((match Aff x with | some c => some c | none => if r.dg.isSome then some 2 else none), ()), ((), ())))) := by
 have he := Ax6 s x h hs
 simp only [X.t] at he
 refine Evn.some 1 fun f => ?_
 simp only [C3, Bj, he, Ag, Option.bind_some, Option.isNone_none, Option.isNone_some, Option.isSome_none, Option.isSome_some, Bool.not_true, Bool.not_false, cond_true, cond_false, Ac, Ap, Ar, Ao]
 rw [if_neg (by decide)]
 cases Aff x with
 | some c => rfl
 | none =>
  simp only [Option.isNone_none, Bool.not_true, cond_false]
  cases hd : r.dg with
  | some _ => simp [hd]
  | none => simp
theorem A9f (r : RS) (s : ByteArray) (hs : s.size <= 1000000) (x : X) (h : x.wf s) (a b c d e : Int) : Evn (fun f => (Au f).1 (((r.up, (r.ex, (r.dg, ()))), (r.rows, ((s, (x.at s.size, (x.er, ()))), ((a, (b, (c, (d, (e, ()))))), ())))), ((), ((), ((), ((4, ()), ()))))))
  (((match Aff (Ph s.size 1 x).1 with | some c => r | none => if r.dg.isSome then r else { r with dg := some (a, (b, (c, (d, (Ph s.size 1 x).2.getD 0 0)))) }).t, (((match Aff (Ph s.size 1 x).1 with | some c => some c | none => if r.dg.isSome then some 2 else none), ()), ((), ())))) := by
 have hg := Aab s x h hs
 have w1 := Aad h
 have hw := Acr s _ w1 hs
 simp only [X.t] at hg hw
 have hn := A43 r s hs _ (Aqo w1) a b c d ((wdY s.size (To s.size x)).2)
 have e : Ph s.size 1 x = ((wdY s.size (To s.size x)).1, [(wdY s.size (To s.size x)).2]) := rfl
 rw [e]
 simp only [List.getD_cons_zero, List.getD_cons_succ]
 refine hn.step fun f => ?_
 simp only [C3, Bj, hg, hw, Option.bind_some, cond_true, cond_false, Bool.and_self, decide_true, decide_false, show decide ((4 : Int) < 5) = true from rfl, show decide ((0 : Int) <= 4) = true from rfl, show decide ((4 : Int) = 0) = false from rfl, show decide ((4 : Int) = 1) = false from rfl, show decide ((4 : Int) = 2) = false from rfl, show decide ((4 : Int) = 3) = false from rfl, show decide ((4 : Int) = 4) = true from rfl, show Cr .i64 (4 : Int) 1 = 5 from rfl]
theorem A9b (r : RS) (s : ByteArray) (hs : s.size <= 1000000) (x : X) (h : x.wf s) (a b c d e : Int) : Evn (fun f => (Au f).1 (((r.up, (r.ex, (r.dg, ()))), (r.rows, ((s, (x.at s.size, (x.er, ()))), ((a, (b, (c, (d, (e, ()))))), ())))), ((), ((), ((), ((3, ()), ()))))))
  (((match Aff (Ph s.size 2 x).1 with | some c => r | none => if r.dg.isSome then r else { r with dg := some (a, (b, (c, ((Ph s.size 2 x).2.getD 0 0, (Ph s.size 2 x).2.getD 1 0)))) }).t, (((match Aff (Ph s.size 2 x).1 with | some c => some c | none => if r.dg.isSome then some 2 else none), ()), ((), ())))) := by
 have hg := Aab s x h hs
 have w1 := Aad h
 have hw := Acr s _ w1 hs
 simp only [X.t] at hg hw
 have hn := A9f r s hs _ (Aqo w1) a b c ((wdY s.size (To s.size x)).2) e
 have e : Ph s.size 2 x = ((Ph s.size 1 (wdY s.size (To s.size x)).1).1, (wdY s.size (To s.size x)).2 :: (Ph s.size 1 (wdY s.size (To s.size x)).1).2) := rfl
 rw [e]
 simp only [List.getD_cons_zero, List.getD_cons_succ]
 refine hn.step fun f => ?_
 simp only [C3, Bj, hg, hw, Option.bind_some, cond_true, cond_false, Bool.and_self, decide_true, decide_false, show decide ((3 : Int) < 5) = true from rfl, show decide ((0 : Int) <= 3) = true from rfl, show decide ((3 : Int) = 0) = false from rfl, show decide ((3 : Int) = 1) = false from rfl, show decide ((3 : Int) = 2) = false from rfl, show decide ((3 : Int) = 3) = true from rfl, show Cr .i64 (3 : Int) 1 = 4 from rfl]
theorem A9d (r : RS) (s : ByteArray) (hs : s.size <= 1000000) (x : X) (h : x.wf s) (a b c d e : Int) : Evn (fun f => (Au f).1 (((r.up, (r.ex, (r.dg, ()))), (r.rows, ((s, (x.at s.size, (x.er, ()))), ((a, (b, (c, (d, (e, ()))))), ())))), ((), ((), ((), ((2, ()), ()))))))
  (((match Aff (Ph s.size 3 x).1 with | some c => r | none => if r.dg.isSome then r else { r with dg := some (a, (b, ((Ph s.size 3 x).2.getD 0 0, ((Ph s.size 3 x).2.getD 1 0, (Ph s.size 3 x).2.getD 2 0)))) }).t, (((match Aff (Ph s.size 3 x).1 with | some c => some c | none => if r.dg.isSome then some 2 else none), ()), ((), ())))) := by
 have hg := Aab s x h hs
 have w1 := Aad h
 have hw := Acr s _ w1 hs
 simp only [X.t] at hg hw
 have hn := A9b r s hs _ (Aqo w1) a b ((wdY s.size (To s.size x)).2) d e
 have e : Ph s.size 3 x = ((Ph s.size 2 (wdY s.size (To s.size x)).1).1, (wdY s.size (To s.size x)).2 :: (Ph s.size 2 (wdY s.size (To s.size x)).1).2) := rfl
 rw [e]
 simp only [List.getD_cons_zero, List.getD_cons_succ]
 refine hn.step fun f => ?_
 simp only [C3, Bj, hg, hw, Option.bind_some, cond_true, cond_false, Bool.and_self, decide_true, decide_false, show decide ((2 : Int) < 5) = true from rfl, show decide ((0 : Int) <= 2) = true from rfl, show decide ((2 : Int) = 0) = false from rfl, show decide ((2 : Int) = 1) = false from rfl, show decide ((2 : Int) = 2) = true from rfl, show Cr .i64 (2 : Int) 1 = 3 from rfl]
theorem A9i (r : RS) (s : ByteArray) (hs : s.size <= 1000000) (x : X) (h : x.wf s) (a b c d e : Int) : Evn (fun f => (Au f).1 (((r.up, (r.ex, (r.dg, ()))), (r.rows, ((s, (x.at s.size, (x.er, ()))), ((a, (b, (c, (d, (e, ()))))), ())))), ((), ((), ((), ((1, ()), ()))))))
  (((match Aff (Ph s.size 4 x).1 with | some c => r | none => if r.dg.isSome then r else { r with dg := some (a, ((Ph s.size 4 x).2.getD 0 0, ((Ph s.size 4 x).2.getD 1 0, ((Ph s.size 4 x).2.getD 2 0, (Ph s.size 4 x).2.getD 3 0)))) }).t, (((match Aff (Ph s.size 4 x).1 with | some c => some c | none => if r.dg.isSome then some 2 else none), ()), ((), ())))) := by
 have hg := Aab s x h hs
 have w1 := Aad h
 have hw := Acr s _ w1 hs
 simp only [X.t] at hg hw
 have hn := A9d r s hs _ (Aqo w1) a ((wdY s.size (To s.size x)).2) c d e
 have e : Ph s.size 4 x = ((Ph s.size 3 (wdY s.size (To s.size x)).1).1, (wdY s.size (To s.size x)).2 :: (Ph s.size 3 (wdY s.size (To s.size x)).1).2) := rfl
 rw [e]
 simp only [List.getD_cons_zero, List.getD_cons_succ]
 refine hn.step fun f => ?_
 simp only [C3, Bj, hg, hw, Option.bind_some, cond_true, cond_false, Bool.and_self, decide_true, decide_false, show decide ((1 : Int) < 5) = true from rfl, show decide ((0 : Int) <= 1) = true from rfl, show decide ((1 : Int) = 0) = false from rfl, show decide ((1 : Int) = 1) = true from rfl, show Cr .i64 (1 : Int) 1 = 2 from rfl]
theorem A9p (r : RS) (s : ByteArray) (hs : s.size <= 1000000) (x : X) (h : x.wf s) (a b c d e : Int) : Evn (fun f => (Au f).1 (((r.up, (r.ex, (r.dg, ()))), (r.rows, ((s, (x.at s.size, (x.er, ()))), ((a, (b, (c, (d, (e, ()))))), ())))), ((), ((), ((), ((0, ()), ()))))))
  (((match Aff (Ph s.size 5 x).1 with | some c => r | none => if r.dg.isSome then r else { r with dg := some ((Ph s.size 5 x).2.getD 0 0, ((Ph s.size 5 x).2.getD 1 0, ((Ph s.size 5 x).2.getD 2 0, ((Ph s.size 5 x).2.getD 3 0, (Ph s.size 5 x).2.getD 4 0)))) }).t, (((match Aff (Ph s.size 5 x).1 with | some c => some c | none => if r.dg.isSome then some 2 else none), ()), ((), ())))) := by
 have hg := Aab s x h hs
 have w1 := Aad h
 have hw := Acr s _ w1 hs
 simp only [X.t] at hg hw
 have hn := A9i r s hs _ (Aqo w1) ((wdY s.size (To s.size x)).2) b c d e
 have e : Ph s.size 5 x = ((Ph s.size 4 (wdY s.size (To s.size x)).1).1, (wdY s.size (To s.size x)).2 :: (Ph s.size 4 (wdY s.size (To s.size x)).1).2) := rfl
 rw [e]
 simp only [List.getD_cons_zero, List.getD_cons_succ]
 refine hn.step fun f => ?_
 simp only [C3, Bj, hg, hw, Option.bind_some, cond_true, cond_false, Bool.and_self, decide_true, decide_false, show decide ((0 : Int) < 5) = true from rfl, show decide ((0 : Int) <= 0) = true from rfl, show decide ((0 : Int) = 0) = true from rfl, show Cr .i64 (0 : Int) 1 = 1 from rfl]
theorem A5u (r : RS) (l : List Int) (hl : I6 l) (hs : l.length <= 1000000) : Fb (r.t, ((), ((As l, ()), ()))) = some ((Atf r l).1.t, (((Atf r l).2, ()), ((), ()))) := by
 have hz : (As l).size = l.length := Ce l
 have w0 : X.wf (As l) (.good l) := ⟨[], by rw [Iu hl]; rfl⟩
 have h := A9p r (As l) (by omega) (.good l) w0 0 0 0 0 0
 rw [hz] at h
 have hn := Anf l hl
 simp only [X.t, hz] at hn
 unfold Atf A6w
 generalize Ph l.length 5 (.good l) = p at h ⊢
 have e : (((match Aff p.1 with | some c => r | none => if r.dg.isSome then r else { r with dg := some (A7p p.2) }).t, (((match Aff p.1 with | some c => some c | none => if r.dg.isSome then some 2 else none), ()), ((), ())))) =
   (((match Aff p.1 with | some c => ((r, some c) : RS × Option Int) | none => if r.dg.isSome then (r, some 2) else ({ r with dg := some (A7p p.2) }, none)).1.t, (((match Aff p.1 with | some c => ((r, some c) : RS × Option Int) | none => if r.dg.isSome then (r, some 2) else ({ r with dg := some (A7p p.2) }, none)).2, ()), ((), ())))) := by
  cases Aff p.1 with
  | some c => rfl
  | none =>
   simp only
   cases r.dg.isSome <;> rfl
 refine (Evn.cast (out := _) (e ▸ h) fun f => ?_).lim
 simp only [Gv, RS.t, hn, Option.bind_some]
theorem Ayb : Wh ((), (((3 : Int), ()), (((0 : Int), ()), ()))) = some ((), ((-25567, ()), ((none, ()), ()))) := by
 have hz : Qo ((), (((3 : Int), ()), ())) = some ((), ((25567, ()), ((none, ()), ()))) := rfl
 simp only [Wh, Ajk, hz, Aca, Agn, Ag, Option.bind_some, Option.isNone_none, Option.isNone_some, Option.isSome_none, Option.isSome_some, Bool.not_true, Bool.not_false, cond_true, cond_false, Ac, Ap, Ar, Ao]
 rw [A9 (by omega), A9 (by omega), C5 (by omega)]
 rfl
def Arq (n : Int) : Int × Option Int := if n % 86400 = 0 then (n / 86400 - 25567, none) else (0, some 1)
theorem A0b (n : Int) (h : 0 <= n /\ n < 10000000000000) : Fh ((), ((n, ()), ())) = some ((), (((Arq n).1, ()), (((Arq n).2, ()), ()))) := by
 have e1 : Int.tmod n 86400 = n % 86400 := Int.tmod_eq_emod_of_nonneg h.1
 have e2 : Pg .i64 n 86400 = n / 86400 := by
  unfold Pg
  rw [Int.tdiv_eq_ediv_of_nonneg h.1]
  exact IntWalk.i64_in _ (by omega)
 simp only [Fh, Se, e1, e2, Ayb, Ag, Option.bind_some, Option.isNone_none, Option.isNone_some, Option.isSome_none, Option.isSome_some, Bool.not_true, Bool.not_false, cond_true, cond_false, Ac, Ap, Ar, Ao]
 unfold Arq
 by_cases c : n % 86400 = 0
 ·rw [if_neg (not_not_intro c), if_pos c, A9 (by omega)]
  congr 4
  omega
 ·rw [if_pos c, if_neg c]
theorem Anw (s : ByteArray) (x : X) (h : x.wf s) (hs : s.size <= 1000000) : Cn (x.t s, ((), (((x.rest.length : Int), ()), ()))) = some ((El x.rest.length x).t s, ((), ())) := by
 have hg := Adh s x
 have hf := Ajd s x h
 have ht := Ac2 s x h hs x.rest.length (Nat.le_refl _)
 simp only [X.p] at hg hf
 simp only [X.t] at ht
 simp only [Cn, H1, X.t, hg, hf, Ag, Option.bind_some, Option.isNone_none, Option.isNone_some, Option.isSome_none, Option.isSome_some, Bool.not_true, Bool.not_false, cond_true, cond_false, Ac, Ap, Ar, Ao, gt_iff_lt, Int.lt_irrefl, ht]
 cases x with
 | good l =>
  simp only [X.er, Option.isNone_none, Bool.not_true, cond_false, Bool.false_eq_true, if_false, not_true_eq_false]
  rw [if_neg (by omega)]
 | bad i c => rfl
def Wq (x : X) : X :=
 if Do gL x.rest = 0 then x else
  if A3z 35 (El (Do gL x.rest) x) then El (El 1 (El (Do gL x.rest) x)).rest.length (El 1 (El (Do gL x.rest) x)) else El (Do gL x.rest) x
def Ayz (l : List Int) : X × (Int × Int) :=
 let n := l.length
 let a := U4 n 1 13 (El (Do gL l) (.good l))
 let b := U4 n 1 4 (To n a.1)
 (Wq b.1, (a.2, b.2))
def Az5 (l : List Int) : Option Int × List (Int × Int) :=
 match (Ayz l).1.end with
 | some c => (some c, [])
 | none => match (Arq (Ayz l).2.1).2 with
  | some c => (some c, [])
  | none => (none, [((Arq (Ayz l).2.1).1, (Ayz l).2.2)])
theorem A5q (r : RS) (l : List Int) (hl : I6 l) (hs : l.length <= 1000000) (hr : r.rows.length <= 1000000) : D2 (r.t, ((), ((As l, ()), ()))) = some (({ r with rows := r.rows ++ (Az5 l).2 } : RS).t, (((Az5 l).1, ()), ((), ()))) := by
 have hz : (As l).size = l.length := Ce l
 have w0 : X.wf (As l) (.good l) := ⟨[], by rw [Iu hl]; rfl⟩
 have hn := Anf l hl
 have h1 := Vp (As l) (.good l) w0 (by omega) gL A13
 have w1 := Sv w0 (Do gL l)
 have h2 := Wk (As l) _ w1 (by omega) 1 13 (by omega)
 have w2 := Arm w1 1 13
 have v2 := Avx l.length 1 13 (by omega) (El (Do gL l) (.good l))
 have h3 := Aab (As l) _ w2 (by omega)
 have w3 := Aad w2
 have h4 := Wk (As l) _ w3 (by omega) 1 4 (by omega)
 have w4 := Arm w3 1 4
 rw [hz] at h2 h3 h4 w2 w3 w4
 have hrow : (Ayz l) = (Wq (U4 l.length 1 4 (To l.length (U4 l.length 1 13 (El (Do gL l) (.good l))).1)).1, ((U4 l.length 1 13 (El (Do gL l) (.good l))).2, (U4 l.length 1 4 (To l.length (U4 l.length 1 13 (El (Do gL l) (.good l))).1)).2)) := rfl
 generalize U4 l.length 1 13 (El (Do gL l) (.good l)) = a at *
 generalize U4 l.length 1 4 (To l.length a.1) = b at *
 have h5 := Vp (As l) b.1 w4 (by omega) gL A13
 have w5 := Sv w4 (Do gL b.1.rest)
 have h6 := Azc (As l) _ w5 (by omega) 35
 have fin : ∀ z : X, z.wf (As l) -> z = Wq b.1 -> (Be ((), ((z.p (As l), ()), ())) = some ((), ((z.end, ()), ()))) := fun z hz _ => Ac8 _ z hz
 have hday := A0b a.2 (by rw [show (10000000000000 : Int) = 10 ^ 13 from rfl]; exact v2)
 have he := Aea (b.1.rest.take (Do gL b.1.rest))
 simp only [Aoa] at he
 have room : ∀ x : Int × Int, decide (((r.rows.length + [x].length) * 16 : Nat) <= 140737488355328) = true /\ decide (r.rows.length + [x].length <= 9223372036854775807) = true := fun x => by
  simp only [List.length_cons, List.length_nil, decide_eq_true_eq]; omega
 have post : ∀ (o : Option Int) (x : Int × Int), o = (Ayz l).1.end -> x = ((Arq a.2).1, b.2) -> (match o with
   | some c => (some (r.t, ((some c, ()), ((), ()))) : Option ((((Option Int) × ((Option Int) × ((Option (Int × (Int × (Int × (Int × Int))))) × Unit))) × ((List (Int × Int)) × Unit)) × (((Option Int) × Unit) × (Unit × Unit))))
   | none => match (Arq a.2).2 with
    | some c => some (r.t, ((some c, ()), ((), ())))
    | none => some (({ r with rows := r.rows ++ [x] } : RS).t, ((none, ()), ((), ())))) = some (({ r with rows := r.rows ++ (Az5 l).2 } : RS).t, (((Az5 l).1, ()), ((), ()))) := by
  intro o x ho hx
  subst hx
  unfold Az5
  rw [<- ho, hrow]
  cases o with
  | some c => simp
  | none =>
   simp only
   cases hq : (Arq a.2).2 with
   | some c => simp
   | none => simp
 have k1 : ((1 : Nat) : Int) = 1 := rfl
 have k13 : ((13 : Nat) : Int) = 13 := rfl
 have k4 : ((4 : Nat) : Int) = 4 := rfl
 rw [show (X.good l).rest = l from rfl] at h1
 rw [k1, k13] at h2
 rw [k1, k4] at h4
 simp only [X.t, hz] at hn h1 h2 h3 h4 h5 h6
 simp only [D2, Kk, Aox, RS.t, hn, h1, h2, h3, h4, h5, Option.bind_some, Zo, he, Ao, Ac]
 by_cases c0 : Do gL b.1.rest = 0
 ·have ht : Wq b.1 = b.1 := by unfold Wq; rw [if_pos c0]
  have hend := Ac8 (As l) b.1 w4
  simp only [X.p, hz] at hend
  rw [if_neg (not_not_intro c0), c0, Yf]
  simp only [hend, hday, Option.bind_some]
  have hp := post b.1.end ((Arq a.2).1, b.2) (by rw [hrow, ht]) rfl
  cases hb : b.1.end with
  | some c => rw [hb] at hp; exact hp
  | none =>
   rw [hb] at hp
   cases hd : (Arq a.2).2 with
   | some c => rw [hd] at hp; simp only [Option.isNone_none, Option.isNone_some, Bool.not_true, Bool.not_false, cond_true, cond_false]; exact hp
   | none =>
    rw [hd] at hp
    simp only [Option.isNone_none, Bool.not_true, cond_false, (room _).1, (room _).2, Bool.and_self, cond_true]; exact hp
 ·rw [if_pos c0]
  simp only [h6, Option.bind_some]
  by_cases c1 : A3z 35 (El (Do gL b.1.rest) b.1) = true
  ·have ht : Wq b.1 = El (El 1 (El (Do gL b.1.rest) b.1)).rest.length (El 1 (El (Do gL b.1.rest) b.1)) := by unfold Wq; rw [if_neg c0, if_pos c1]
   have w6 := Sv w5 1
   have hleft := Ajd (As l) _ w6
   have hskip := Anw (As l) _ w6 (by omega)
   have w7 := Sv w6 (El 1 (El (Do gL b.1.rest) b.1)).rest.length
   have hend := Ac8 (As l) _ w7
   simp only [X.p, hz] at hleft hend
   simp only [X.t, hz] at hskip
   simp only [c1, if_true, cond_true, hleft, hskip, hend, hday, Option.bind_some]
   have hp := post _ ((Arq a.2).1, b.2) (show (El (El 1 (El (Do gL b.1.rest) b.1)).rest.length (El 1 (El (Do gL b.1.rest) b.1))).end = _ by rw [hrow, ht]) rfl
   cases hb : (El (El 1 (El (Do gL b.1.rest) b.1)).rest.length (El 1 (El (Do gL b.1.rest) b.1))).end with
   | some c => rw [hb] at hp; exact hp
   | none =>
    rw [hb] at hp
    cases hd : (Arq a.2).2 with
    | some c => rw [hd] at hp; simp only [Option.isNone_none, Option.isNone_some, Bool.not_true, Bool.not_false, cond_true, cond_false]; exact hp
    | none =>
     rw [hd] at hp
     simp only [Option.isNone_none, Bool.not_true, cond_false, (room _).1, (room _).2, Bool.and_self, cond_true]; exact hp
  ·have c1' : A3z 35 (El (Do gL b.1.rest) b.1) = false := by simpa using c1
   have ht : Wq b.1 = El (Do gL b.1.rest) b.1 := by unfold Wq; rw [if_neg c0, if_neg c1]
   have hend := Ac8 (As l) _ w5
   simp only [X.p, hz] at hend
   simp only [c1', Bool.false_eq_true, if_false, cond_false, hend, hday, Option.bind_some]
   have hp := post _ ((Arq a.2).1, b.2) (show (El (Do gL b.1.rest) b.1).end = _ by rw [hrow, ht]) rfl
   cases hb : (El (Do gL b.1.rest) b.1).end with
   | some c => rw [hb] at hp; exact hp
   | none =>
    rw [hb] at hp
    cases hd : (Arq a.2).2 with
    | some c => rw [hd] at hp; simp only [Option.isNone_none, Option.isNone_some, Bool.not_true, Bool.not_false, cond_true, cond_false]; exact hp
    | none =>
     rw [hd] at hp
     simp only [Option.isNone_none, Bool.not_true, cond_false, (room _).1, (room _).2, Bool.and_self, cond_true]; exact hp
def Nk (r : RS) (l : List Int) : RS × Option Int :=
 if ∀ x ∈ l, x ∈ gL then (r, none)
 else if l.take 2 = [35, 36] then (match (Afv (l.drop 2)).2 with
  | some c => (r, some c)
  | none => if r.up.isSome then (r, some 2) else ({ r with up := some (Afv (l.drop 2)).1 }, none))
 else if l.take 2 = [35, 64] then (match (Afv (l.drop 2)).2 with
  | some c => (r, some c)
  | none => if r.ex.isSome then (r, some 2) else ({ r with ex := some (Afv (l.drop 2)).1 }, none))
 else if l.take 2 = [35, 104] then Atf r (l.drop 2)
 else if l.head? = some 35 then (r, none)
 else ({ r with rows := r.rows ++ (Az5 l).2 }, (Az5 l).1)
theorem A7f : (⟨#[35, 36]⟩ : ByteArray) = As [35, 36] := by kernel_rfl
theorem A68 : (⟨#[35, 64]⟩ : ByteArray) = As [35, 64] := by kernel_rfl
theorem A3x : (⟨#[35, 104]⟩ : ByteArray) = As [35, 104] := by kernel_rfl
theorem Arz {l : List Int} {a b : Int} (h : l.take 2 = [a, b]) : 2 <= l.length := by
 have := congrArg List.length h
 rw [List.length_take] at this
 simp only [List.length_cons, List.length_nil] at this
 omega
theorem A2o (r : RS) (l : List Int) (hl : I6 l) (hs : l.length <= 1000000) (hr : r.rows.length <= 1000000) : Ds (r.t, ((), ((As l, ()), ()))) = some ((Nk r l).1.t, (((Nk r l).2, ()), ((), ()))) := by
 obtain ⟨t, ht1, ht2⟩ := A08 l hl hs
 have p1 := Adm l [35, 36] hl (by unfold I6; decide)
 have p2 := Adm l [35, 64] hl (by unfold I6; decide)
 have p3 := Adm l [35, 104] hl (by unfold I6; decide)
 simp only [List.length_cons, List.length_nil, Nat.zero_add, Nat.reduceAdd] at p1 p2 p3
 have hd := Apd hl 2
 have hdl : (l.drop 2).length <= 1000000 := by rw [List.length_drop]; omega
 have hn := Anf (l.drop 2) hd
 obtain ⟨y, z, q1, q2, q3⟩ := A2r (l.drop 2) hd hdl
 have hsum := A5u r (l.drop 2) hd hdl
 have hrow := A5q r l hl hs hr
 simp only [X.t, Ce] at hn q1 q2 q3
 simp only [RS.t] at hsum hrow
 have cut : (As l).extract (Int.toNat 2) (Int.toNat (l.length : Int)) = As (l.drop 2) := by
  rw [Aid, Int.toNat_natCast, List.take_length]; rfl
 simp only [Ds, Jn, Aox, A7f, A68, A3x, Zo, RS.t, ht1, ht2, Option.bind_some, Ac, p1, p2, p3, Ce, Ci, cut, hn, q1, q2, q3]
 unfold Nk
 by_cases c0 : ∀ x ∈ l, x ∈ gL
 ·rw [if_pos c0, if_pos c0]
 rw [if_neg c0, if_neg c0]
 by_cases c1 : l.take 2 = [35, 36]
 ·have := Arz c1
  rw [if_pos c1, if_pos c1, if_pos (by omega)]
  cases (Afv (l.drop 2)).2 with
  | some c => rfl
  | none =>
   simp only [Option.isNone_none, Bool.not_true, cond_false]
   cases hu : r.up with
   | some v => simp [hu]
   | none => simp
 rw [if_neg c1, if_neg c1]
 by_cases c2 : l.take 2 = [35, 64]
 ·have := Arz c2
  rw [if_pos c2, if_pos c2, if_pos (by omega)]
  cases (Afv (l.drop 2)).2 with
  | some c => rfl
  | none =>
   simp only [Option.isNone_none, Bool.not_true, cond_false]
   cases hu : r.ex with
   | some v => simp [hu]
   | none => simp
 rw [if_neg c2, if_neg c2]
 by_cases c3 : l.take 2 = [35, 104]
 ·have := Arz c3
  rw [if_pos c3, if_pos c3, if_pos (by omega), hsum]; rfl
 rw [if_neg c3, if_neg c3]
 have hne : l ≠ [] := fun e => c0 (by rw [e]; intro x hx; cases hx)
 have hpos : 0 < l.length := List.length_pos_iff.2 hne
 have hb := As9 (As l) (i := 0) (by omega) (by rw [Ce]; omega)
 rw [Iu hl] at hb
 rw [if_pos (by omega), hb]
 cases l with
 | nil => exact absurd rfl hne
 | cons a t =>
  simp only [show (0 : Int).toNat = 0 from rfl, List.getD_cons_zero, List.head?_cons, Option.some.injEq, Ap, Ac]
  by_cases c4 : a = 35
  ·rw [if_pos c4, if_pos c4]
  ·rw [if_neg c4, if_neg c4, hrow]; rfl
theorem Awz (r : RS) (l : List Int) : (Nk r l).1.rows.length <= r.rows.length + 1 := by
 unfold Nk Atf
 have hq : (Az5 l).2.length <= 1 := by
  unfold Az5
  split
  ·simp
  ·split <;> simp
 repeat' split
 all_goals simp only [List.length_append]
 all_goals omega
def Ab9 (r : RS) (i : Nat) : List (List Int) -> RS × (Int × Option Int)
 | [] => (r, (0, none))
 | l :: rest => match (Nk r l).2 with
  | some c => ((Nk r l).1, ((i : Int) + 1, some c))
  | none => Ab9 (Nk r l).1 (i + 1) rest
theorem A6h (L : List (List Int)) (hL : ∀ l ∈ L, I6 l /\ l.length <= 1000000) (hn : L.length <= 500000) : ∀ (k i : Nat) (r : RS), i + k = L.length -> r.rows.length <= i ->
  Evn (fun f => (Bu f).1 (r.t, ((), ((L.map As, ()), (((L.length : Int), ()), (((i : Int), ()), ())))))) ((Ab9 r i (L.drop i)).1.t, (((Ab9 r i (L.drop i)).2.1, ()), (((Ab9 r i (L.drop i)).2.2, ()), ((), ())))) := by
 intro k
 induction k with
 | zero =>
  intro i r hi hr
  refine Evn.some 1 fun f => ?_
  rw [List.drop_eq_nil_of_le (by omega)]
  simp only [Hl, Cu, RS.t, Ac]
  rw [if_neg (by omega)]; rfl
 | succ k ih =>
  intro i r hi hr
  have hlt : i < L.length := by omega
  have hmem := hL _ (List.getElem_mem hlt)
  have hline := A2o r L[i] hmem.1 hmem.2 (by omega)
  have hrows := Awz r L[i]
  have hg : gd .str (L.map As) (i : Int) = As L[i] := by
   unfold gd
   rw [Int.toNat_natCast, List.getD_eq_getElem?_getD, List.getElem?_map, List.getElem?_eq_getElem hlt]; rfl
  rw [List.drop_eq_getElem_cons hlt]
  simp only [RS.t] at hline
  unfold Ab9
  cases hq : (Nk r L[i]).2 with
  | some c =>
   refine Evn.some 1 fun f => ?_
   simp only [Hl, Cu, RS.t, Ac, Ci, hg, hline, hq, Option.bind_some, List.length_map]
   rw [if_pos (by omega), if_pos (by omega), A9 (by omega)]; rfl
  | none =>
   refine (ih (i + 1) (Nk r L[i]).1 (by omega) (by omega)).step fun f => ?_
   simp only [Hl, Cu, RS.t, Ac, Ci, hg, hline, hq, Option.bind_some, List.length_map]
   rw [if_pos (by omega), if_pos (by omega), A9 (by omega)]; rfl
def Oj (l : List Int) : RS × (Int × Option Int) := if 65535 < l.length then (⟨none, none, none, []⟩, (0, some 3)) else Ab9 ⟨none, none, none, []⟩ 0 (Ny [] (Aor l))
theorem Am4 : ∀ {l cur : List Int}, I6 l -> I6 cur -> ∀ x ∈ Ny cur l, I6 x
 | [], cur, _, hc, x, hx => by
  rw [Ny] at hx
  rw [List.mem_singleton.1 hx]; exact hc
 | a :: l, cur, hl, hc, x, hx => by
  rw [Ny] at hx
  have hl' : I6 l := fun y hy => hl y (List.mem_cons_of_mem _ hy)
  split at hx
  ·rcases List.mem_cons.1 hx with rfl | hx
   ·exact hc
   ·exact Am4 hl' (fun y hy => by cases hy) x hx
  ·exact Am4 hl' (Ip hc (fun y hy => by rw [List.mem_singleton.1 hy]; exact hl a (List.mem_cons_self ..))) x hx
theorem Ag7 : ∀ (l cur : List Int), (∀ x ∈ Ny cur l, x.length <= cur.length + l.length) /\ (Ny cur l).length <= l.length + 1
 | [], cur => by
  rw [Ny]
  exact ⟨fun x hx => by rw [List.mem_singleton.1 hx]; simp, by simp⟩
 | a :: l, cur => by
  rw [Ny]
  split
  ·have := Ag7 l []
   refine ⟨fun x hx => ?_, by simp only [List.length_cons]; omega⟩
   rcases List.mem_cons.1 hx with rfl | hx
   ·omega
   ·have := this.1 x hx
    simp only [List.length_cons, List.length_nil] at *; omega
  ·have := Ag7 l (cur ++ [a])
   refine ⟨fun x hx => ?_, by simp only [List.length_cons]; omega⟩
   have := this.1 x hx
   simp only [List.length_append, List.length_cons, List.length_nil] at *; omega
theorem A5i {l : List Int} (h : I6 l) : I6 (Aor l) /\ (Aor l).length <= l.length := by
 unfold Aor
 split
 ·exact ⟨fun x hx => h x (List.dropLast_subset l hx), by rw [List.length_dropLast]; omega⟩
 ·exact ⟨h, Nat.le_refl _⟩
theorem Ab7 : (⟨#[10]⟩ : ByteArray) = As [10] := by kernel_rfl
theorem Au6 (l : List Int) (hl : I6 l) : Cq ((⟨none, none, none, []⟩ : RS).t, ((), ((As l, ()), ()))) = some ((Oj l).1.t, (((Oj l).2.1, ()), (((Oj l).2.2, ()), ((), ())))) := by
 unfold Oj
 by_cases c : 65535 < l.length
 ·rw [if_pos c]
  refine (Evn.const fun f => ?_).lim
  simp only [Ec, Ce, gt_iff_lt, Ac]
  rw [if_pos (by omega)]
 ·rw [if_neg c]
  have hc := A5i hl
  have hch := A2j l hl (by omega)
  have hr := Ag7 (Aor l) []
  have hsp := Aw4 (As (Aor l)) (by rw [Ce]; omega)
  rw [Iu hc.1, Ab7] at hsp
  refine ((A6h (Ny [] (Aor l)) (fun x hx => ⟨Am4 hc.1 (fun y hy => by cases hy) x hx, by have := hr.1 x hx; simp only [List.length_nil] at this; omega⟩) (by omega) _ 0 ⟨none, none, none, []⟩ (Nat.zero_add _) (Nat.le_refl _)).cast fun f => ?_).lim
  simp only [Ec, Ce, gt_iff_lt, Ac, Ab7, hch, hsp, Option.bind_some, List.length_map]
  rw [if_neg (by omega)]; rfl
theorem A7w (l : List Int) (h : l.length <= 140737488355328) : C1 ((), ((l, ()), ())) = some ((l, ()), ((), ())) := by
 unfold C1 Kl
 simp only [List.length_nil, List.nil_append]
 rw [decide_eq_true (show (0 + l.length) * 1 <= 140737488355328 by omega), decide_eq_true (show 0 + l.length <= 9223372036854775807 by omega)]
 simp only [Bool.and_self, cond_true]
 cases l with
 | nil => simp [Atc]
 | cons x l => rfl
theorem A20 : Ka ((), ()) = some ((), ((4, ()), ())) :=
 Evn.lim ⟨10, fun k hk => by obtain ⟨m, rfl⟩ := Nat.exists_eq_add_of_le hk; rw [Nat.add_comm]; kernel_rfl⟩
theorem Ak6 {o : J7.den} : ∀ (n : Nat) (out : List Int) (size w : Int) (words : List Int) (len idx : Int), n <= 4 -> 0 <= w -> w < 18446744073709551616 -> out.length + n <= 140737488355328 ->
  Evn (fun k => (Bo k).1 ((out ++ be w n, ()), ((size, ()), ((), ((words, ()), ((len, ()), ((Cr .i64 idx 1, ()), ()))))))) o ->
  Evn (fun k => (Bo k).2.1 ((out, ()), ((size, ()), ((), ((w, ()), (((n : Int) - 1, ()), ((words, ()), ((len, ()), ((idx, ()), ()))))))))) o
 | 0, out, size, w, words, len, idx, hn, h0, h1, hl, h => by
  refine Evn.step h fun k => ?_
  rw [K3]
  simp only [Hu, be, List.append_nil]
  rw [decide_eq_false (by omega)]
  rfl
 | n + 1, out, size, w, words, len, idx, hn, h0, h1, hl, h => by
  refine Evn.step (Ak6 n (out ++ [w / 256 ^ n % 256]) size w words len idx (by omega) h0 h1 (by simp; omega) ?_) fun k => ?_
  ·simpa only [be, List.append_assoc, List.singleton_append] using h
  ·rw [K3]
   simp only [Hu]
   have e1 : (((n + 1 : Nat) : Int) - 1) = (n : Int) := by omega
   rw [e1, decide_eq_true (show (n : Int) >= 0 by omega), Iq (by omega), decide_eq_false (by omega)]
   simp only [cond_true, cond_false]
   rw [Xq, Int.emod_eq_of_lt h0 h1, Aqz (by omega) h0, Au5, C5 (by omega)]
   rw [decide_eq_true (by simp only [List.length_singleton]; omega), decide_eq_true (by simp only [List.length_singleton]; omega)]
   rfl
theorem Ai5 {words : List Int} (hw : ∀ w ∈ words, 0 <= w /\ w < 2 ^ 32) (hwl : words.length <= 140737488355328) : ∀ (n i : Nat) (out : List Int), i + n = words.length -> out.length + n * 4 <= 140737488355328 ->
  Evn (fun k => (Bo k).1 ((out, ()), (((4 : Int), ()), ((), ((words, ()), (((words.length : Int), ()), (((i : Int), ()), ()))))))) ((out ++ (words.drop i).flatMap (be · 4), ()), ((), ()))
 | 0, i, out, hi, hl => by
  refine Evn.step (Evn.const fun _ => rfl) fun k => ?_
  rw [K3]
  simp only [Ij]
  rw [decide_eq_false (by omega), List.drop_eq_nil_of_le (by omega)]
  simp
 | n + 1, i, out, hi, hl => by
  have hlt : i < words.length := by omega
  have hi2 := hw words[i] (List.getElem_mem hlt)
  rw [List.drop_eq_getElem_cons hlt, List.flatMap_cons, <- List.append_assoc]
  have ih := Ai5 hw hwl n (i + 1) (out ++ be words[i] 4) (by omega) (by rw [List.length_append, Pf]; omega)
  refine Evn.step (Ak6 4 out 4 words[i] words words.length i (Nat.le_refl _) hi2.1 (by omega) (by omega) (Evn.cast ih fun k => ?_)) fun k => ?_
  ·rw [A9 (by omega)]; rfl
  ·rw [K3]
   simp only [Ij]
   rw [decide_eq_true (by omega), decide_eq_true (by omega), C5 (by omega), Zu (.int .u32) words (i : Int) (by omega) (by omega)]
   rfl
theorem A4m (b words : List Int) (hw : ∀ w ∈ words, 0 <= w /\ w < 2 ^ 32) (hl : b.length + words.length * 4 <= 140737488355328) :
  Ix ((), ((b, ()), ((words, ()), ()))) = some ((b ++ words.flatMap (be · 4), ()), ((), ())) := by
 refine Evn.lim (Evn.cast (Ai5 hw (by omega) words.length 0 b (by omega) hl) fun k => ?_)
 simp only [Mj]
 rw [A20, A7w b (by omega)]
 rfl
theorem A2c : Kb ((), ()) = some ((), ((8, ()), ())) :=
 Evn.lim ⟨10, fun k hk => by obtain ⟨m, rfl⟩ := Nat.exists_eq_add_of_le hk; rw [Nat.add_comm]; kernel_rfl⟩
theorem Alc {o : Kc.den} : ∀ (n : Nat) (out : List Int) (size w : Int) (words : List Int) (len idx : Int), n <= 8 -> 0 <= w -> w < 18446744073709551616 -> out.length + n <= 140737488355328 ->
  Evn (fun k => (Bn k).1 ((out ++ be w n, ()), ((size, ()), ((), ((words, ()), ((len, ()), ((Cr .i64 idx 1, ()), ()))))))) o ->
  Evn (fun k => (Bn k).2.1 ((out, ()), ((size, ()), ((), ((w, ()), (((n : Int) - 1, ()), ((words, ()), ((len, ()), ((idx, ()), ()))))))))) o
 | 0, out, size, w, words, len, idx, hn, h0, h1, hl, h => by
  refine Evn.step h fun k => ?_
  rw [K5]
  simp only [Hx, be, List.append_nil]
  rw [decide_eq_false (by omega)]
  rfl
 | n + 1, out, size, w, words, len, idx, hn, h0, h1, hl, h => by
  refine Evn.step (Alc n (out ++ [w / 256 ^ n % 256]) size w words len idx (by omega) h0 h1 (by simp; omega) ?_) fun k => ?_
  ·simpa only [be, List.append_assoc, List.singleton_append] using h
  ·rw [K5]
   simp only [Hx]
   have e1 : (((n + 1 : Nat) : Int) - 1) = (n : Int) := by omega
   rw [e1, decide_eq_true (show (n : Int) >= 0 by omega), Iq (by omega), decide_eq_false (by omega)]
   simp only [cond_true, cond_false]
   rw [Aqz (by omega) h0, Au5, C5 (by omega)]
   rw [decide_eq_true (by simp only [List.length_singleton]; omega), decide_eq_true (by simp only [List.length_singleton]; omega)]
   rfl
theorem Ahh {words : List Int} (hw : ∀ w ∈ words, 0 <= w /\ w < 2 ^ 64) (hwl : words.length <= 140737488355328) : ∀ (n i : Nat) (out : List Int), i + n = words.length -> out.length + n * 8 <= 140737488355328 ->
  Evn (fun k => (Bn k).1 ((out, ()), (((8 : Int), ()), ((), ((words, ()), (((words.length : Int), ()), (((i : Int), ()), ()))))))) ((out ++ (words.drop i).flatMap (be · 8), ()), ((), ()))
 | 0, i, out, hi, hl => by
  refine Evn.step (Evn.const fun _ => rfl) fun k => ?_
  rw [K5]
  simp only [Im]
  rw [decide_eq_false (by omega), List.drop_eq_nil_of_le (by omega)]
  simp
 | n + 1, i, out, hi, hl => by
  have hlt : i < words.length := by omega
  have hi2 := hw words[i] (List.getElem_mem hlt)
  rw [List.drop_eq_getElem_cons hlt, List.flatMap_cons, <- List.append_assoc]
  have ih := Ahh hw hwl n (i + 1) (out ++ be words[i] 8) (by omega) (by rw [List.length_append, Pf]; omega)
  refine Evn.step (Alc 8 out 8 words[i] words words.length i (Nat.le_refl _) hi2.1 (by omega) (by omega) (Evn.cast ih fun k => ?_)) fun k => ?_
  ·rw [A9 (by omega)]; rfl
  ·rw [K5]
   simp only [Im]
   rw [decide_eq_true (by omega), decide_eq_true (by omega), C5 (by omega), Zu (.int .u64) words (i : Int) (by omega) (by omega)]
   rfl
theorem A6r (b words : List Int) (hw : ∀ w ∈ words, 0 <= w /\ w < 2 ^ 64) (hl : b.length + words.length * 8 <= 140737488355328) :
  K4 ((), ((b, ()), ((words, ()), ()))) = some ((b ++ words.flatMap (be · 8), ()), ((), ())) := by
 refine Evn.lim (Evn.cast (Ahh hw (by omega) words.length 0 b (by omega) hl) fun k => ?_)
 simp only [L5]
 rw [A2c, A7w b (by omega)]
 rfl
theorem Evn.bindS {R S : Type} {F : Nat -> Option R} {r : R} {f : R -> Option S} {o : S} (h : Evn F r) (e : f r = Option.some o) : Evn (fun k => (F k).bind f) o := by
 obtain ⟨n, h⟩ := h
 exact ⟨n, fun k hk => by show (F k).bind f = _; rw [h k hk]; exact e⟩
def Zv (s : Nat) : Nat -> List Int -> List (List Int)
 | 0, _ => []
 | m + 1, b => b.take s :: Zv s m (b.drop s)
theorem Av0 (b : List Int) (s : Nat) (hs : 0 < s) (hl : b.length <= 140737488355328) : ∀ m i, b.length = i + m * s ->
  Evn (fun k => (A0 k).1 ((), ((some b, ()), ((some (s : Int), ()), (((i : Int), ()), ()))))) (Zv s m (b.drop i))
 | 0, i, h => by
  refine Evn.step (Evn.const fun _ => rfl) fun k => ?_
  rw [show A0 (k + 1) = (B1 (A0 k), ()) from rfl]
  simp only [B1, Ag, Option.bind_some, Option.isNone_none, Option.isNone_some, Option.isSome_none, Option.isSome_some, Bool.not_true, Bool.not_false, cond_true, cond_false, Ac, Ap, Ar, Ao]
  rw [if_neg (by omega)]; rfl
 | m + 1, i, h => by
  have hm : (m + 1) * s = m * s + s := Nat.succ_mul m s
  have ih := Av0 b s hs hl m (i + s) (by omega)
  refine Evn.step (Evn.bindS ih (f := fun x => Option.some ((b.drop i).take s :: x)) (by rw [<- List.drop_drop]; rfl)) fun k => ?_
  rw [show A0 (k + 1) = (B1 (A0 k), ()) from rfl]
  simp only [B1, Ag, Option.bind_some, Option.isNone_none, Option.isNone_some, Option.isSome_none, Option.isSome_some, Bool.not_true, Bool.not_false, cond_true, cond_false, Ac, Ap, Ar, Ao, Ci, List.isEmpty_nil]
  rw [if_pos (by omega), if_pos (by omega)]
  simp only [Int.toNat_natCast, List.take_length, List.length_drop]
  have e : (if (((b.length - i : Nat)) : Int) < (s : Int) then ((b.length - i : Nat) : Int) else (s : Int)) = (s : Int) := by rw [if_neg (by omega)]
  rw [e, A9 (by omega), if_pos (by omega)]
  rw [show ((i : Int) + (s : Int)).toNat = i + s by omega, List.drop_take, show i + s - i = s by omega]
  rw [show ((i : Int) + (s : Int)) = ((i + s : Nat) : Int) by push_cast; rfl]
theorem Apr (b : List Int) (s m : Nat) (hs : 0 < s) (hl : b.length <= 140737488355328) (h : b.length = m * s) : Dd (b, ((s : Int), ())) = some (Zv s m b) := by
 have := Av0 b s hs hl m 0 (by omega)
 rw [List.drop_zero] at this
 exact (this.cast fun k => rfl).lim
theorem Avw (b : List Int) (s : Int) (hs : 0 < s) : Cf ((), ((b, ()), ((s, ()), ()))) = some (((b, ()), ((s, ()), ())), ((), ())) := by
 simp only [Cf, Ki, Ag, Option.bind_some, Option.isNone_none, Option.isNone_some, Option.isSome_none, Option.isSome_some, Bool.not_true, Bool.not_false, cond_true, cond_false, Ac, Ap, Ar, Ao]
 rw [if_neg (by omega)]
set_option maxRecDepth 100000
abbrev W5 : Type := Int × (Int × (Int × (Int × (Int × Unit))))
abbrev T20 : Type := Int × (Int × (Int × (Int × (Int × (Int × (Int × (Int × (Int × (Int × (Int × (Int × (Int × (Int × (Int × (Int × (Int × (Int × (Int × (Int × (Unit))))))))))))))))))))
abbrev T64 : Type := Int × (Int × (Int × (Int × (Int × (Int × (Int × (Int × (Int × (Int × (Int × (Int × (Int × (Int × (Int × (Int × (Int × (Int × (Int × (Int × (Int × (Int × (Int × (Int × (Int × (Int × (Int × (Int × (Int × (Int × (Int × (Int × (Int × (Int × (Int × (Int × (Int × (Int × (Int × (Int × (Int × (Int × (Int × (Int × (Int × (Int × (Int × (Int × (Int × (Int × (Int × (Int × (Int × (Int × (Int × (Int × (Int × (Int × (Int × (Int × (Int × (Int × (Int × (Int × (Unit))))))))))))))))))))))))))))))))))))))))))))))))))))))))))))))))
abbrev T80 : Type := Int × (Int × (Int × (Int × (Int × (Int × (Int × (Int × (Int × (Int × (Int × (Int × (Int × (Int × (Int × (Int × (Int × (Int × (Int × (Int × (Int × (Int × (Int × (Int × (Int × (Int × (Int × (Int × (Int × (Int × (Int × (Int × (Int × (Int × (Int × (Int × (Int × (Int × (Int × (Int × (Int × (Int × (Int × (Int × (Int × (Int × (Int × (Int × (Int × (Int × (Int × (Int × (Int × (Int × (Int × (Int × (Int × (Int × (Int × (Int × (Int × (Int × (Int × (Int × (Int × (Int × (Int × (Int × (Int × (Int × (Int × (Int × (Int × (Int × (Int × (Int × (Int × (Int × (Int × (Int × (Unit))))))))))))))))))))))))))))))))))))))))))))))))))))))))))))))))))))))))))))))))
def t20 (l : List Int) : T20 := (gd (.int .u8) l (0 : Int), (gd (.int .u8) l (1 : Int), (gd (.int .u8) l (2 : Int), (gd (.int .u8) l (3 : Int), (gd (.int .u8) l (4 : Int), (gd (.int .u8) l (5 : Int), (gd (.int .u8) l (6 : Int), (gd (.int .u8) l (7 : Int), (gd (.int .u8) l (8 : Int), (gd (.int .u8) l (9 : Int), (gd (.int .u8) l (10 : Int), (gd (.int .u8) l (11 : Int), (gd (.int .u8) l (12 : Int), (gd (.int .u8) l (13 : Int), (gd (.int .u8) l (14 : Int), (gd (.int .u8) l (15 : Int), (gd (.int .u8) l (16 : Int), (gd (.int .u8) l (17 : Int), (gd (.int .u8) l (18 : Int), (gd (.int .u8) l (19 : Int), ()))))))))))))))))))))
def t64 (l : List Int) : T64 := (gd (.int .u8) l (0 : Int), (gd (.int .u8) l (1 : Int), (gd (.int .u8) l (2 : Int), (gd (.int .u8) l (3 : Int), (gd (.int .u8) l (4 : Int), (gd (.int .u8) l (5 : Int), (gd (.int .u8) l (6 : Int), (gd (.int .u8) l (7 : Int), (gd (.int .u8) l (8 : Int), (gd (.int .u8) l (9 : Int), (gd (.int .u8) l (10 : Int), (gd (.int .u8) l (11 : Int), (gd (.int .u8) l (12 : Int), (gd (.int .u8) l (13 : Int), (gd (.int .u8) l (14 : Int), (gd (.int .u8) l (15 : Int), (gd (.int .u8) l (16 : Int), (gd (.int .u8) l (17 : Int), (gd (.int .u8) l (18 : Int), (gd (.int .u8) l (19 : Int), (gd (.int .u8) l (20 : Int), (gd (.int .u8) l (21 : Int), (gd (.int .u8) l (22 : Int), (gd (.int .u8) l (23 : Int), (gd (.int .u8) l (24 : Int), (gd (.int .u8) l (25 : Int), (gd (.int .u8) l (26 : Int), (gd (.int .u8) l (27 : Int), (gd (.int .u8) l (28 : Int), (gd (.int .u8) l (29 : Int), (gd (.int .u8) l (30 : Int), (gd (.int .u8) l (31 : Int), (gd (.int .u8) l (32 : Int), (gd (.int .u8) l (33 : Int), (gd (.int .u8) l (34 : Int), (gd (.int .u8) l (35 : Int), (gd (.int .u8) l (36 : Int), (gd (.int .u8) l (37 : Int), (gd (.int .u8) l (38 : Int), (gd (.int .u8) l (39 : Int), (gd (.int .u8) l (40 : Int), (gd (.int .u8) l (41 : Int), (gd (.int .u8) l (42 : Int), (gd (.int .u8) l (43 : Int), (gd (.int .u8) l (44 : Int), (gd (.int .u8) l (45 : Int), (gd (.int .u8) l (46 : Int), (gd (.int .u8) l (47 : Int), (gd (.int .u8) l (48 : Int), (gd (.int .u8) l (49 : Int), (gd (.int .u8) l (50 : Int), (gd (.int .u8) l (51 : Int), (gd (.int .u8) l (52 : Int), (gd (.int .u8) l (53 : Int), (gd (.int .u8) l (54 : Int), (gd (.int .u8) l (55 : Int), (gd (.int .u8) l (56 : Int), (gd (.int .u8) l (57 : Int), (gd (.int .u8) l (58 : Int), (gd (.int .u8) l (59 : Int), (gd (.int .u8) l (60 : Int), (gd (.int .u8) l (61 : Int), (gd (.int .u8) l (62 : Int), (gd (.int .u8) l (63 : Int), ()))))))))))))))))))))))))))))))))))))))))))))))))))))))))))))))))
def t80 (l : List Int) : T80 := (gd (.int .u32) l (0 : Int), (gd (.int .u32) l (1 : Int), (gd (.int .u32) l (2 : Int), (gd (.int .u32) l (3 : Int), (gd (.int .u32) l (4 : Int), (gd (.int .u32) l (5 : Int), (gd (.int .u32) l (6 : Int), (gd (.int .u32) l (7 : Int), (gd (.int .u32) l (8 : Int), (gd (.int .u32) l (9 : Int), (gd (.int .u32) l (10 : Int), (gd (.int .u32) l (11 : Int), (gd (.int .u32) l (12 : Int), (gd (.int .u32) l (13 : Int), (gd (.int .u32) l (14 : Int), (gd (.int .u32) l (15 : Int), (gd (.int .u32) l (16 : Int), (gd (.int .u32) l (17 : Int), (gd (.int .u32) l (18 : Int), (gd (.int .u32) l (19 : Int), (gd (.int .u32) l (20 : Int), (gd (.int .u32) l (21 : Int), (gd (.int .u32) l (22 : Int), (gd (.int .u32) l (23 : Int), (gd (.int .u32) l (24 : Int), (gd (.int .u32) l (25 : Int), (gd (.int .u32) l (26 : Int), (gd (.int .u32) l (27 : Int), (gd (.int .u32) l (28 : Int), (gd (.int .u32) l (29 : Int), (gd (.int .u32) l (30 : Int), (gd (.int .u32) l (31 : Int), (gd (.int .u32) l (32 : Int), (gd (.int .u32) l (33 : Int), (gd (.int .u32) l (34 : Int), (gd (.int .u32) l (35 : Int), (gd (.int .u32) l (36 : Int), (gd (.int .u32) l (37 : Int), (gd (.int .u32) l (38 : Int), (gd (.int .u32) l (39 : Int), (gd (.int .u32) l (40 : Int), (gd (.int .u32) l (41 : Int), (gd (.int .u32) l (42 : Int), (gd (.int .u32) l (43 : Int), (gd (.int .u32) l (44 : Int), (gd (.int .u32) l (45 : Int), (gd (.int .u32) l (46 : Int), (gd (.int .u32) l (47 : Int), (gd (.int .u32) l (48 : Int), (gd (.int .u32) l (49 : Int), (gd (.int .u32) l (50 : Int), (gd (.int .u32) l (51 : Int), (gd (.int .u32) l (52 : Int), (gd (.int .u32) l (53 : Int), (gd (.int .u32) l (54 : Int), (gd (.int .u32) l (55 : Int), (gd (.int .u32) l (56 : Int), (gd (.int .u32) l (57 : Int), (gd (.int .u32) l (58 : Int), (gd (.int .u32) l (59 : Int), (gd (.int .u32) l (60 : Int), (gd (.int .u32) l (61 : Int), (gd (.int .u32) l (62 : Int), (gd (.int .u32) l (63 : Int), (gd (.int .u32) l (64 : Int), (gd (.int .u32) l (65 : Int), (gd (.int .u32) l (66 : Int), (gd (.int .u32) l (67 : Int), (gd (.int .u32) l (68 : Int), (gd (.int .u32) l (69 : Int), (gd (.int .u32) l (70 : Int), (gd (.int .u32) l (71 : Int), (gd (.int .u32) l (72 : Int), (gd (.int .u32) l (73 : Int), (gd (.int .u32) l (74 : Int), (gd (.int .u32) l (75 : Int), (gd (.int .u32) l (76 : Int), (gd (.int .u32) l (77 : Int), (gd (.int .u32) l (78 : Int), (gd (.int .u32) l (79 : Int), ()))))))))))))))))))))))))))))))))))))))))))))))))))))))))))))))))))))))))))))))))
def l64 (l : List Int) : List Int := [gd (.int .u8) l (0 : Int), gd (.int .u8) l (1 : Int), gd (.int .u8) l (2 : Int), gd (.int .u8) l (3 : Int), gd (.int .u8) l (4 : Int), gd (.int .u8) l (5 : Int), gd (.int .u8) l (6 : Int), gd (.int .u8) l (7 : Int), gd (.int .u8) l (8 : Int), gd (.int .u8) l (9 : Int), gd (.int .u8) l (10 : Int), gd (.int .u8) l (11 : Int), gd (.int .u8) l (12 : Int), gd (.int .u8) l (13 : Int), gd (.int .u8) l (14 : Int), gd (.int .u8) l (15 : Int), gd (.int .u8) l (16 : Int), gd (.int .u8) l (17 : Int), gd (.int .u8) l (18 : Int), gd (.int .u8) l (19 : Int), gd (.int .u8) l (20 : Int), gd (.int .u8) l (21 : Int), gd (.int .u8) l (22 : Int), gd (.int .u8) l (23 : Int), gd (.int .u8) l (24 : Int), gd (.int .u8) l (25 : Int), gd (.int .u8) l (26 : Int), gd (.int .u8) l (27 : Int), gd (.int .u8) l (28 : Int), gd (.int .u8) l (29 : Int), gd (.int .u8) l (30 : Int), gd (.int .u8) l (31 : Int), gd (.int .u8) l (32 : Int), gd (.int .u8) l (33 : Int), gd (.int .u8) l (34 : Int), gd (.int .u8) l (35 : Int), gd (.int .u8) l (36 : Int), gd (.int .u8) l (37 : Int), gd (.int .u8) l (38 : Int), gd (.int .u8) l (39 : Int), gd (.int .u8) l (40 : Int), gd (.int .u8) l (41 : Int), gd (.int .u8) l (42 : Int), gd (.int .u8) l (43 : Int), gd (.int .u8) l (44 : Int), gd (.int .u8) l (45 : Int), gd (.int .u8) l (46 : Int), gd (.int .u8) l (47 : Int), gd (.int .u8) l (48 : Int), gd (.int .u8) l (49 : Int), gd (.int .u8) l (50 : Int), gd (.int .u8) l (51 : Int), gd (.int .u8) l (52 : Int), gd (.int .u8) l (53 : Int), gd (.int .u8) l (54 : Int), gd (.int .u8) l (55 : Int), gd (.int .u8) l (56 : Int), gd (.int .u8) l (57 : Int), gd (.int .u8) l (58 : Int), gd (.int .u8) l (59 : Int), gd (.int .u8) l (60 : Int), gd (.int .u8) l (61 : Int), gd (.int .u8) l (62 : Int), gd (.int .u8) l (63 : Int)]
def l80 (l : List Int) : List Int := [gd (.int .u32) l (0 : Int), gd (.int .u32) l (1 : Int), gd (.int .u32) l (2 : Int), gd (.int .u32) l (3 : Int), gd (.int .u32) l (4 : Int), gd (.int .u32) l (5 : Int), gd (.int .u32) l (6 : Int), gd (.int .u32) l (7 : Int), gd (.int .u32) l (8 : Int), gd (.int .u32) l (9 : Int), gd (.int .u32) l (10 : Int), gd (.int .u32) l (11 : Int), gd (.int .u32) l (12 : Int), gd (.int .u32) l (13 : Int), gd (.int .u32) l (14 : Int), gd (.int .u32) l (15 : Int), gd (.int .u32) l (16 : Int), gd (.int .u32) l (17 : Int), gd (.int .u32) l (18 : Int), gd (.int .u32) l (19 : Int), gd (.int .u32) l (20 : Int), gd (.int .u32) l (21 : Int), gd (.int .u32) l (22 : Int), gd (.int .u32) l (23 : Int), gd (.int .u32) l (24 : Int), gd (.int .u32) l (25 : Int), gd (.int .u32) l (26 : Int), gd (.int .u32) l (27 : Int), gd (.int .u32) l (28 : Int), gd (.int .u32) l (29 : Int), gd (.int .u32) l (30 : Int), gd (.int .u32) l (31 : Int), gd (.int .u32) l (32 : Int), gd (.int .u32) l (33 : Int), gd (.int .u32) l (34 : Int), gd (.int .u32) l (35 : Int), gd (.int .u32) l (36 : Int), gd (.int .u32) l (37 : Int), gd (.int .u32) l (38 : Int), gd (.int .u32) l (39 : Int), gd (.int .u32) l (40 : Int), gd (.int .u32) l (41 : Int), gd (.int .u32) l (42 : Int), gd (.int .u32) l (43 : Int), gd (.int .u32) l (44 : Int), gd (.int .u32) l (45 : Int), gd (.int .u32) l (46 : Int), gd (.int .u32) l (47 : Int), gd (.int .u32) l (48 : Int), gd (.int .u32) l (49 : Int), gd (.int .u32) l (50 : Int), gd (.int .u32) l (51 : Int), gd (.int .u32) l (52 : Int), gd (.int .u32) l (53 : Int), gd (.int .u32) l (54 : Int), gd (.int .u32) l (55 : Int), gd (.int .u32) l (56 : Int), gd (.int .u32) l (57 : Int), gd (.int .u32) l (58 : Int), gd (.int .u32) l (59 : Int), gd (.int .u32) l (60 : Int), gd (.int .u32) l (61 : Int), gd (.int .u32) l (62 : Int), gd (.int .u32) l (63 : Int), gd (.int .u32) l (64 : Int), gd (.int .u32) l (65 : Int), gd (.int .u32) l (66 : Int), gd (.int .u32) l (67 : Int), gd (.int .u32) l (68 : Int), gd (.int .u32) l (69 : Int), gd (.int .u32) l (70 : Int), gd (.int .u32) l (71 : Int), gd (.int .u32) l (72 : Int), gd (.int .u32) l (73 : Int), gd (.int .u32) l (74 : Int), gd (.int .u32) l (75 : Int), gd (.int .u32) l (76 : Int), gd (.int .u32) l (77 : Int), gd (.int .u32) l (78 : Int), gd (.int .u32) l (79 : Int)]
def l20 (l : List Int) : List Int := [gd (.int .u8) l (0 : Int), gd (.int .u8) l (1 : Int), gd (.int .u8) l (2 : Int), gd (.int .u8) l (3 : Int), gd (.int .u8) l (4 : Int), gd (.int .u8) l (5 : Int), gd (.int .u8) l (6 : Int), gd (.int .u8) l (7 : Int), gd (.int .u8) l (8 : Int), gd (.int .u8) l (9 : Int), gd (.int .u8) l (10 : Int), gd (.int .u8) l (11 : Int), gd (.int .u8) l (12 : Int), gd (.int .u8) l (13 : Int), gd (.int .u8) l (14 : Int), gd (.int .u8) l (15 : Int), gd (.int .u8) l (16 : Int), gd (.int .u8) l (17 : Int), gd (.int .u8) l (18 : Int), gd (.int .u8) l (19 : Int)]
theorem A3r (b : List Int) : (List.range b.length).map (fun i => gd (.int .u8) b ((i : Nat) : Int)) = b := by
 refine List.ext_getElem (by simp) fun i h1 h2 => ?_
 simp only [List.getElem_map, List.getElem_range, gd, Int.toNat_natCast]
 rw [List.getD_eq_getElem?_getD, List.getElem?_eq_getElem h2]; rfl
theorem A5s (b : List Int) : (List.range b.length).map (fun i => gd (.int .u32) b ((i : Nat) : Int)) = b := by
 refine List.ext_getElem (by simp) fun i h1 h2 => ?_
 simp only [List.getElem_map, List.getElem_range, gd, Int.toNat_natCast]
 rw [List.getD_eq_getElem?_getD, List.getElem?_eq_getElem h2]; rfl
theorem A3w {b : List Int} (h : b.length = 64) : l64 b = b := by
 have e := A3r b
 rw [h] at e
 exact e
theorem A4g {b : List Int} (h : b.length = 80) : l80 b = b := by
 have e := A5s b
 rw [h] at e
 exact e
theorem Ay2 {b : List Int} (h : b.length = 20) : l20 b = b := by
 have e := A3r b
 rw [h] at e
 exact e
def rot (k x : Int) : Int := ior .u32 (Axs .u32 x k) (Axt .u32 x (32 - k))
theorem A89 (x : Int) : A7 ((), ((x, ()), (((1 : Int), ()), ()))) = some ((), ((rot 1 x, ()), ())) := by kernel_rfl
theorem A88 (x : Int) : A7 ((), ((x, ()), (((5 : Int), ()), ()))) = some ((), ((rot 5 x, ()), ())) := by kernel_rfl
theorem A8i (x : Int) : A7 ((), ((x, ()), (((30 : Int), ()), ()))) = some ((), ((rot 30 x, ()), ())) := by kernel_rfl
def A7j (b : List Int) (i : Int) : Int := ior .u32 (ior .u32 (ior .u32 (Axs .u32 (J4 .u32 (gd (.int .u8) b i)) 24) (Axs .u32 (J4 .u32 (gd (.int .u8) b (i + 1))) 16)) (Axs .u32 (J4 .u32 (gd (.int .u8) b (i + 2))) 8)) (J4 .u32 (gd (.int .u8) b (i + 3)))
def nxW (b w : List Int) (t : Nat) : Int :=
 if t < 16 then A7j b (4 * (t : Int)) else rot 1 (Aj7 .u32 (Aj7 .u32 (Aj7 .u32 (gd (.int .u32) w ((t : Int) - 3)) (gd (.int .u32) w ((t : Int) - 8))) (gd (.int .u32) w ((t : Int) - 14))) (gd (.int .u32) w ((t : Int) - 16)))
def Ae1 (b : List Int) : Nat -> List Int
 | 0 => []
 | n + 1 => Ae1 b n ++ [nxW b (Ae1 b n) n]
theorem Agl (b : List Int) : ∀ n, (Ae1 b n).length = n
 | 0 => rfl
 | n + 1 => by simp [Ae1, Agl b n]
theorem Agx {l m : List Int} {i : Int} (h : i.toNat < l.length) : gd (.int .u32) (l ++ m) i = gd (.int .u32) l i := by
 unfold gd
 rw [List.getD_eq_getElem?_getD, List.getD_eq_getElem?_getD, List.getElem?_append_left h]
theorem Azo (l : List Int) (n : Nat) (x : Int) : (l ++ List.replicate (n + 1) (0 : Int)).set l.length x = (l ++ [x]) ++ List.replicate n 0 := by
 simp [List.set_append, List.replicate_succ]
theorem A6a (T : I4) (B Z w : List Int) : Jj T ((B, (Z, (w, ()))), ((), ((), ((), (((80 : Int), ()), ()))))) =
  bif decide ((80 : Int) <= (w.length : Int)) then (bif decide ((Z.length : Int) = (80 : Int)) then some ((), (t80 (l80 w), ())) else none) else none := by kernel_rfl
theorem A9s (T : I4) (b : List Int) : Oh T ((), (t64 b, ())) = T.1 ((l64 b, (List.replicate 80 0, (List.replicate 80 0, ()))), ((), ((), ((), (((0 : Int), ()), ()))))) := by kernel_rfl
theorem Aq4 (b : List Int) (n : Nat) : Ae1 b (n + 1) = Ae1 b n ++ [nxW b (Ae1 b n) n] := rfl
attribute [local irreducible] Ae1 in
theorem A8s (b : List Int) (hb : b.length = 64) (Z : List Int) (hZ : Z.length = 80) : ∀ (k t : Nat), t + k = 80 ->
  Evn (fun f => (En f).1 ((b, (Z, (Ae1 b t ++ List.replicate k 0, ()))), ((), ((), ((), (((t : Int), ()), ())))))) ((), (t80 (Ae1 b 80), ())) := by
 intro k
 induction k with
 | zero =>
  intro t ht
  obtain rfl : t = 80 := by omega
  refine Evn.some 1 fun f => ?_
  have hl := Agl b 80
  generalize Ae1 b 80 = w at *
  simp only [X4, List.replicate_zero, List.append_nil, show ((80 : Nat) : Int) = 80 from rfl]
  rw [A6a, hZ, hl, A4g hl]; rfl
 | succ k ih =>
  intro t ht
  refine (ih (t + 1) (by omega)).step fun f => ?_
  have hl := Agl b t
  have hlen : ((Ae1 b t ++ List.replicate (k + 1) (0 : Int)).length : Int) = 80 := by rw [List.length_append, hl, List.length_replicate]; omega
  have hset : ∀ x, (Ae1 b t ++ List.replicate (k + 1) (0 : Int)).set t x = (Ae1 b t ++ [x]) ++ List.replicate k 0 := fun x => by
   have := Azo (Ae1 b t) k x
   rwa [hl] at this
  simp only [X4, Jj, Ci, Ac, hb, hlen]
  rw [if_pos (by omega)]
  by_cases c : t < 16
  ·rw [if_pos (by omega), Iq (by omega), A9 (by omega), A9 (by omega), A9 (by omega), if_pos (by omega), if_pos (by omega), if_pos (by omega), if_pos (by omega), if_pos (by omega), Int.toNat_natCast, hset, A9 (by omega)]
   have : Ae1 b (t + 1) = Ae1 b t ++ [A7j b (4 * (t : Int))] := by
    rw [Aq4]
    unfold nxW
    rw [if_pos c]
   rw [this]; rfl
  ·rw [if_neg (by omega), C5 (by omega), C5 (by omega), C5 (by omega), C5 (by omega), if_pos (by omega), if_pos (by omega), if_pos (by omega), if_pos (by omega), A89]
   simp only [Option.bind_some]
   rw [if_pos (by omega), Int.toNat_natCast, hset, A9 (by omega), Agx (by omega), Agx (by omega), Agx (by omega), Agx (by omega)]
   have : Ae1 b (t + 1) = Ae1 b t ++ [rot 1 (Aj7 .u32 (Aj7 .u32 (Aj7 .u32 (gd (.int .u32) (Ae1 b t) ((t : Int) - 3)) (gd (.int .u32) (Ae1 b t) ((t : Int) - 8))) (gd (.int .u32) (Ae1 b t) ((t : Int) - 14))) (gd (.int .u32) (Ae1 b t) ((t : Int) - 16)))] := by
    rw [Aq4]
    unfold nxW
    rw [if_neg c]
   rw [this]; rfl
theorem Aoj (b : List Int) (hb : b.length = 64) : Jv ((), (t64 b, ())) = some ((), (t80 (Ae1 b 80), ())) := by
 refine ((A8s b hb (List.replicate 80 0) (by simp) 80 0 (by omega)).cast fun f => ?_).lim
 rw [A9s, A3w hb]; rfl
def A8p (t : Nat) (b c d : Int) : Int × Int :=
 if t / 20 = 0 then (Aj7 .u32 d (Axv .u32 b (Aj7 .u32 c d)), 1518500249)
 else if t / 20 = 1 then (Aj7 .u32 (Aj7 .u32 b c) d, 1859775393)
 else if t / 20 = 2 then (ior .u32 (Axv .u32 b c) (Axv .u32 d (ior .u32 b c)), 2400959708)
 else (Aj7 .u32 (Aj7 .u32 b c) d, 3395469782)
theorem A5p (t : Nat) (ht : t < 80) (b c d : Int) : Qr ((), (((t : Int), ()), ((b, ()), ((c, ()), ((d, ()), ()))))) = some ((), (((A8p t b c d).1, ()), (((A8p t b c d).2, ()), ()))) := by
 have e : Pg .i64 (t : Int) 20 = ((t / 20 : Nat) : Int) := by
  unfold Pg
  rw [Int.tdiv_eq_ediv_of_nonneg (by omega)]
  exact IntWalk.i64_in _ (by omega)
 simp only [Qr, Afo, e, Ap, Ac]
 unfold A8p
 by_cases c0 : t / 20 = 0
 ·rw [if_pos (by omega), if_pos c0]
 rw [if_neg (by omega), if_neg c0]
 by_cases c1 : t / 20 = 1
 ·rw [if_pos (by omega), if_pos c1]
 rw [if_neg (by omega), if_neg c1]
 by_cases c2 : t / 20 = 2
 ·rw [if_pos (by omega), if_pos c2]
 rw [if_neg (by omega), if_neg c2]
def rnd (w : List Int) (t : Nat) (s : W5) : W5 :=
 (Cr .u32 (Cr .u32 (Cr .u32 (Cr .u32 (rot 5 s.1) (A8p t s.2.1 s.2.2.1 s.2.2.2.1).1) s.2.2.2.2.1) (A8p t s.2.1 s.2.2.1 s.2.2.2.1).2) (gd (.int .u32) w (t : Int)), (s.1, (rot 30 s.2.1, (s.2.2.1, (s.2.2.2.1, ())))))
def A1o (w : List Int) (s : W5) : Nat -> W5
 | 0 => s
 | t + 1 => rnd w t (A1o w s t)
def A84 (s r : W5) : W5 := (Cr .u32 s.1 r.1, (Cr .u32 s.2.1 r.2.1, (Cr .u32 s.2.2.1 r.2.2.1, (Cr .u32 s.2.2.2.1 r.2.2.2.1, (Cr .u32 s.2.2.2.2.1 r.2.2.2.2.1, ())))))
theorem A8h (T : Dz) (s : W5) (b : List Int) : V2 T ((), (s, (t64 b, ()))) =
  bif decide ((64 : Int) <= ((l64 b).length : Int)) then ((Jv ((), (t64 (l64 b), ()))).bind fun x2 => T.1 ((s, ((0, (0, (0, (0, (0, ()))))), (s, ()))), ((), ((), ((), (x2.2.1, (((0 : Int), ()), ()))))))) else none := by kernel_rfl
theorem Ay6 (T : Dz) (s z r : W5) (w : List Int) (t : Int) : S0 T ((s, (z, (r, ()))), ((), ((), ((), (t80 w, ((t, ()), ())))))) =
  bif decide (t < (80 : Int)) then (bif decide ((0 : Int) <= t) && decide (t < (80 : Int)) then (
   (Qr ((), ((t, ()), ((r.2.1, ()), ((r.2.2.1, ()), ((r.2.2.2.1, ()), ())))))).bind fun x4 =>
   (A7 ((), ((r.1, ()), (((5 : Int), ()), ())))).bind fun x5 =>
   (A7 ((), ((r.2.1, ()), (((30 : Int), ()), ())))).bind fun x10 =>
   T.1 ((s, (z, ((Cr .u32 (Cr .u32 (Cr .u32 (Cr .u32 x5.2.1.1 x4.2.1.1) r.2.2.2.2.1) x4.2.2.1.1) (gd (.int .u32) (l80 w) t), (r.1, (x10.2.1.1, (r.2.2.1, (r.2.2.2.1, ()))))), ()))), ((), ((), ((), (t80 w, ((Cr .i64 t 1, ()), ()))))))) else none)
  else T.2.1 ((s, (z, (r, ()))), ((), ((), ((), (((0 : Int), ()), ()))))) := by kernel_rfl
theorem Aw5 (T : Dz) (a b c d e a' b' c' d' e' : Int) (z : W5) : E1 T (((a', (b', (c', (d', (e', ()))))), (z, ((a, (b, (c, (d, (e, ()))))), ()))), ((), ((), ((), (((0 : Int), ()), ()))))) = T.2.2.1 (((a', (b', (c', (d', (e', ()))))), (z, ((Cr .u32 a a', (b, (c, (d, (e, ()))))), ()))), ((), ((), ((), (((0 : Int), ()), ()))))) := by kernel_rfl
theorem Awb (T : Dz) (a b c d e a' b' c' d' e' : Int) (z : W5) : E1 T (((a', (b', (c', (d', (e', ()))))), (z, ((a, (b, (c, (d, (e, ()))))), ()))), ((), ((), ((), (((1 : Int), ()), ()))))) = T.2.2.1 (((a', (b', (c', (d', (e', ()))))), (z, ((a, (Cr .u32 b b', (c, (d, (e, ()))))), ()))), ((), ((), ((), (((1 : Int), ()), ()))))) := by kernel_rfl
theorem Aw9 (T : Dz) (a b c d e a' b' c' d' e' : Int) (z : W5) : E1 T (((a', (b', (c', (d', (e', ()))))), (z, ((a, (b, (c, (d, (e, ()))))), ()))), ((), ((), ((), (((2 : Int), ()), ()))))) = T.2.2.1 (((a', (b', (c', (d', (e', ()))))), (z, ((a, (b, (Cr .u32 c c', (d, (e, ()))))), ()))), ((), ((), ((), (((2 : Int), ()), ()))))) := by kernel_rfl
theorem Axi (T : Dz) (a b c d e a' b' c' d' e' : Int) (z : W5) : E1 T (((a', (b', (c', (d', (e', ()))))), (z, ((a, (b, (c, (d, (e, ()))))), ()))), ((), ((), ((), (((3 : Int), ()), ()))))) = T.2.2.1 (((a', (b', (c', (d', (e', ()))))), (z, ((a, (b, (c, (Cr .u32 d d', (e, ()))))), ()))), ((), ((), ((), (((3 : Int), ()), ()))))) := by kernel_rfl
theorem Axm (T : Dz) (a b c d e a' b' c' d' e' : Int) (z : W5) : E1 T (((a', (b', (c', (d', (e', ()))))), (z, ((a, (b, (c, (d, (e, ()))))), ()))), ((), ((), ((), (((4 : Int), ()), ()))))) = T.2.2.1 (((a', (b', (c', (d', (e', ()))))), (z, ((a, (b, (c, (d, (Cr .u32 e e', ()))))), ()))), ((), ((), ((), (((4 : Int), ()), ()))))) := by kernel_rfl
theorem Axf (T : Dz) (s z r : W5) : E1 T ((s, (z, (r, ()))), ((), ((), ((), (((5 : Int), ()), ()))))) = some ((), (r, ())) := by kernel_rfl
theorem A2h (s z r : W5) : Evn (fun f => (Ct f).2.1 ((s, (z, (r, ()))), ((), ((), ((), (((0 : Int), ()), ())))))) ((), (A84 r s, ())) := by
 obtain ⟨a', b', c', d', e', _⟩ := s
 obtain ⟨a, b, c, d, e, _⟩ := r
 refine Evn.some 11 fun f => ?_
 simp only [Aae, Aw5, Awb, Aw9, Axi, Axm, Axf, Rx, show Cr .i64 (0 : Int) 1 = 1 from rfl, show Cr .i64 (1 : Int) 1 = 2 from rfl, show Cr .i64 (2 : Int) 1 = 3 from rfl, show Cr .i64 (3 : Int) 1 = 4 from rfl, show Cr .i64 (4 : Int) 1 = 5 from rfl]
 rfl
theorem A0j (w : List Int) (s : W5) (t : Nat) : A1o w s (t + 1) = rnd w t (A1o w s t) := rfl
attribute [local irreducible] A1o in
theorem Arl (w : List Int) (hw : w.length = 80) (s z : W5) : ∀ (k t : Nat), t + k = 80 ->
  Evn (fun f => (Ct f).1 ((s, (z, (A1o w s t, ()))), ((), ((), ((), (t80 w, (((t : Int), ()), ()))))))) ((), (A84 (A1o w s 80) s, ())) := by
 intro k
 induction k with
 | zero =>
  intro t ht
  obtain rfl : t = 80 := by omega
  refine (A2h s z (A1o w s 80)).step fun f => ?_
  generalize A1o w s 80 = r
  simp only [Aae, show ((80 : Nat) : Int) = 80 from rfl]
  rw [Ay6]; rfl
 | succ k ih =>
  intro t ht
  refine (ih (t + 1) (by omega)).step fun f => ?_
  rw [A0j]
  generalize A1o w s t = r
  simp only [Aae]
  rw [Ay6, A4g hw]
  simp only [A5p t (by omega), A88, A8i, Option.bind_some, Ci, Ac]
  rw [if_pos (by omega), if_pos (by omega), A9 (by omega)]; rfl
def Ad3 (s : W5) (b : List Int) : W5 := A84 (A1o (Ae1 b 80) s 80) s
theorem At4 (s : W5) (b : List Int) (hb : b.length = 64) : Lb ((), (s, (t64 b, ()))) = some ((), (Ad3 s b, ())) := by
 refine ((Arl (Ae1 b 80) (Agl b 80) s (0, (0, (0, (0, (0, ()))))) 80 0 (by omega)).cast fun f => ?_).lim
 rw [A8h, A3w hb, hb, Aoj b hb]; rfl
def w5R (s : W5) : Prop := (0 <= s.1 /\ s.1 < 4294967296) /\ (0 <= s.2.1 /\ s.2.1 < 4294967296) /\ (0 <= s.2.2.1 /\ s.2.2.1 < 4294967296) /\ (0 <= s.2.2.2.1 /\ s.2.2.2.1 < 4294967296) /\ (0 <= s.2.2.2.2.1 /\ s.2.2.2.2.1 < 4294967296)
theorem Aia (n : Int) : 0 <= IntKind.u32.wrap n /\ IntKind.u32.wrap n < 4294967296 := by rw [wrap_u32]; omega
theorem A7z (s r : W5) : w5R (A84 s r) := ⟨Aia _, Aia _, Aia _, Aia _, Aia _⟩
def wl (s : W5) : List Int := [s.1, s.2.1, s.2.2.1, s.2.2.2.1, s.2.2.2.2.1]
def b20 (s : W5) : List Int := (wl s).flatMap (be · 4)
theorem Aii (s : W5) : (b20 s).length = 20 := by simp [b20, wl, Pf]
theorem A7t (s : W5) : Jy ((), (s, ())) = (Ix ((), ((([] : List Int), ()), ((wl s, ()), ())))).bind fun x3 => bif decide ((20 : Int) <= x3.1.1.length) then some ((), (t20 x3.1.1, ())) else none := by kernel_rfl
theorem Avm (s : W5) (h : w5R s) : Jy ((), (s, ())) = some ((), (t20 (b20 s), ())) := by
 obtain ⟨h1, h2, h3, h4, h5⟩ := h
 have hp := A4m [] (wl s) (by
  intro w hw
  simp only [wl, List.mem_cons, List.not_mem_nil, or_false] at hw
  rcases hw with rfl | rfl | rfl | rfl | rfl <;> assumption) (by simp [wl])
 rw [A7t, hp]
 have := Aii s
 unfold b20 at this
 simp only [Option.bind_some, List.nil_append, this]; rfl
theorem Ase (T : Jp) (c : List Int) (l : List (List Int)) (z : T20) (s : W5) (b : List Int) (n : Int) : Qd T (c :: l) ((z, (s, ())), ((b, ()), ((), ((), ((n, ()), ()))))) =
  bif decide ((64 : Int) <= c.length) then ((Lb ((), (s, (t64 c, ())))).bind fun x30 => T.1 l ((z, x30.2), ((b, ()), ((), ((), ((n, ()), ())))))) else none := by kernel_rfl
theorem Aqr (T : Jp) (c : List Int) (l : List (List Int)) (z : T20) (s : W5) : Om T (c :: l) ((z, (s, ())), ((), ((), ()))) =
  bif decide ((64 : Int) <= c.length) then ((Lb ((), (s, (t64 c, ())))).bind fun x34 => T.2.1 l ((z, x34.2), ((), ((), ())))) else none := by kernel_rfl
theorem As6 (T : Jp) (z : T20) (s : W5) : Om T [] ((z, (s, ())), ((), ((), ()))) = (Jy ((), (s, ()))).bind fun x31 => some ((), x31.2) := by kernel_rfl
theorem Xf : ∀ (m : Nat) (b : List Int), b.length = m * 64 -> ∀ c ∈ Zv 64 m b, c.length = 64
 | 0, _, _, c, h => by cases h
 | m + 1, b, hb, c, h => by
  rcases List.mem_cons.1 h with rfl | h
  ·rw [List.length_take]; omega
  ·exact Xf m (b.drop 64) (by rw [List.length_drop]; omega) c h
theorem As7 (s : W5) (b : List Int) : w5R (Ad3 s b) := A7z _ _
theorem Aym {s : W5} (h : w5R s) : ∀ l : List (List Int), w5R (l.foldl Ad3 s)
 | [] => h
 | c :: l => by rw [List.foldl_cons]; exact Aym (As7 s c) l
attribute [local irreducible] Ad3 b20 t20 in
theorem Ax2 (z : T20) : ∀ (l : List (List Int)) (s : W5), w5R s -> (∀ c ∈ l, c.length = 64) -> Evn (fun f => (Ei f).2.1 l ((z, (s, ())), ((), ((), ())))) ((), (t20 (b20 (l.foldl Ad3 s)), ()))
 | [], s, hs, _ => by
  refine Evn.some 1 fun f => ?_
  simp only [Yq]
  rw [As6, Avm s hs]; rfl
 | c :: l, s, hs, hl => by
  have hc := hl c (List.mem_cons_self ..)
  rw [List.foldl_cons]
  refine (Ax2 z l (Ad3 s c) (As7 s c) (fun q hq => hl q (List.mem_cons_of_mem _ hq))).step fun f => ?_
  simp only [Yq]
  rw [Aqr, hc, At4 s c hc]; rfl
def A7x : W5 := (1732584193, (4023233417, (2562383102, (271733878, (3285377520, ())))))
def Ah8 (b : List Int) : List Int :=
 let r := b.drop (b.length / 64 * 64)
 let z := if b.length % 64 + 9 > 64 then 120 else 56
 (r ++ (128 :: List.replicate (z - r.length - 1) 0)) ++ be ((b.length : Int) * 8) 8
theorem Ayd (b : List Int) : (Ah8 b).length = (if b.length % 64 + 9 > 64 then 2 else 1) * 64 := by
 unfold Ah8
 simp only [List.length_append, List.length_cons, List.length_replicate, Pf, List.length_drop]
 split <;> omega
theorem A2f (r : List Int) (n : Nat) (h : r.length < n) : (cpL (List.replicate n (0 : Int)) 0 r).set r.length 128 = r ++ (128 :: List.replicate (n - r.length - 1) 0) := by
 unfold cpL
 rw [List.take_zero, List.nil_append, List.length_replicate, Nat.sub_zero, Nat.min_eq_left (by omega), List.take_of_length_le (Nat.le_refl _), Nat.zero_add, List.drop_replicate]
 obtain ⟨m, hm⟩ : ∃ m, n - r.length = m + 1 := ⟨n - r.length - 1, by omega⟩
 rw [hm]
 simp [List.set_append, List.replicate_succ]
theorem Awy (z : T20) (s : W5) (hs : w5R s) (b : List Int) (hb : b.length <= 1000000) (hok : I6 b) : Evn (fun f => (Ei f).1 [] ((z, (s, ())), ((b, ()), ((), ((), ((((b.length / 64 * 64 : Nat) : Int), ()), ())))))) ((), (t20 (b20 ((Zv 64 (if b.length % 64 + 9 > 64 then 2 else 1) (Ah8 b)).foldl Ad3 s)), ())) := by
 have hlen := Ayd b
 refine (Ax2 z (Zv 64 (if b.length % 64 + 9 > 64 then 2 else 1) (Ah8 b)) s hs (Xf _ _ hlen)).step fun f => ?_
 have e1 : Pg .i64 (b.length : Int) 64 = ((b.length / 64 : Nat) : Int) := by
  unfold Pg
  rw [Int.tdiv_eq_ediv_of_nonneg (by omega)]
  exact IntWalk.i64_in _ (by omega)
 have e2 : Int.tmod (b.length : Int) 64 = ((b.length % 64 : Nat) : Int) := Int.tmod_eq_emod_of_nonneg (by omega)
 have e3 : Pg .i64 ((b.length / 64 * 64 : Nat) : Int) 64 = ((b.length / 64 : Nat) : Int) := by
  unfold Pg
  rw [Int.tdiv_eq_ediv_of_nonneg (by omega), IntKind.wrap_i64]
  omega
 have hbl : M0 ((), (((b.length : Int), ()), ())) = some ((), ((((b.length / 64 + (if b.length % 64 + 9 > 64 then 2 else 1) : Nat) : Int), ()), ())) := by
  have a1 : Cr .i64 ((b.length % 64 : Nat) : Int) 1 = ((b.length % 64 + 1 : Nat) : Int) := by rw [A9 (by omega)]; omega
  have a2 : Cr .i64 ((b.length % 64 + 1 : Nat) : Int) 8 = ((b.length % 64 + 9 : Nat) : Int) := by rw [A9 (by omega)]; omega
  have a3 : Cr .i64 ((b.length / 64 : Nat) : Int) 1 = ((b.length / 64 + 1 : Nat) : Int) := by rw [A9 (by omega)]; omega
  have a4 : Cr .i64 ((b.length / 64 + 1 : Nat) : Int) 1 = ((b.length / 64 + 2 : Nat) : Int) := by rw [A9 (by omega)]; omega
  simp only [M0, Wz, e1, e2, Ac, a1, a2, a3, a4]
  rw [if_neg (by omega)]
  by_cases c : b.length % 64 + 9 > 64
  ·rw [if_pos (by omega), if_pos c]
  ·rw [if_neg (by omega), if_neg c]
 generalize hz : (if b.length % 64 + 9 > 64 then 2 else 1 : Nat) = m at *
 have hm : 1 <= m /\ m <= 2 := by rw [<- hz]; split <;> omega
 have hm2 : (if b.length % 64 + 9 > 64 then 120 else 56 : Nat) = m * 64 - 8 := by rw [<- hz]; split <;> omega
 have hrest : b.length % 64 < m * 64 - 8 := by rw [<- hm2]; split <;> omega
 rw [Yq]
 simp only [Qd, List.isEmpty_nil, cond_true, hbl, Option.bind_some, e3]
 have hr : (b.drop (b.length / 64 * 64)).length = b.length % 64 := by rw [List.length_drop]; omega
 have q1 : Nj .i64 ((b.length / 64 + m : Nat) : Int) ((b.length / 64 : Nat) : Int) = (m : Int) := by rw [C5 (by omega)]; omega
 have q2 : Tx .i64 (m : Int) 64 = ((m * 64 : Nat) : Int) := by rw [Iq (by omega)]; omega
 have q3 : Nj .i64 ((m * 64 : Nat) : Int) 8 = ((m * 64 - 8 : Nat) : Int) := by rw [C5 (by omega)]; omega
 have q4 : Nj .i64 (b.length : Int) ((b.length / 64 * 64 : Nat) : Int) = ((b.length % 64 : Nat) : Int) := by rw [C5 (by omega)]; omega
 have q5 : Tx .u64 (J4 .u64 (b.length : Int)) 8 = (b.length : Int) * 8 := by rw [Xq, Avv]; omega
 simp only [q1, q2, q3, q4, q5, Ci, Ac, Int.toNat_natCast, List.length_replicate, List.take_length, show (0 : Int).toNat = 0 from rfl]
 rw [if_pos (by omega), if_pos (by omega), if_pos (by omega)]
 have hset := A2f (b.drop (b.length / 64 * 64)) (m * 64 - 8) (by omega)
 rw [hr] at hset
 have hcl : (cpL (List.replicate (m * 64 - 8) (0 : Int)) 0 (b.drop (b.length / 64 * 64))).length = m * 64 - 8 := by
  have := congrArg List.length hset
  rw [List.length_set, List.length_append, List.length_cons, List.length_replicate, hr] at this
  omega
 rw [hcl, if_pos (by omega), hset]
 have hp := A6r ((b.drop (b.length / 64 * 64)) ++ (128 :: List.replicate (m * 64 - 8 - b.length % 64 - 1) 0)) [(b.length : Int) * 8] (by
  intro w hw
  rw [List.mem_singleton.1 hw]
  omega) (by simp only [List.length_append, List.length_cons, List.length_replicate, hr, List.length_nil]; omega)
 have ht : Ah8 b = (b.drop (b.length / 64 * 64) ++ (128 :: List.replicate (m * 64 - 8 - b.length % 64 - 1) 0)) ++ [(b.length : Int) * 8].flatMap (be · 8) := by
  unfold Ah8
  simp only [hm2, hr, List.flatMap_cons, List.flatMap_nil, List.append_nil]
 rw [<- ht] at hp
 have hch := Apr (Ah8 b) 64 m (by decide) (by omega) hlen
 have hfn := Avw (Ah8 b) 64 (by decide)
 simp only [hp, hfn, Option.bind_some]
 rw [show ((64 : Nat) : Int) = 64 from rfl] at hch
 rw [hch]; rfl
attribute [local irreducible] Ad3 b20 t20 Ah8 in
theorem A3v (z : T20) (b : List Int) (hb : b.length <= 1000000) (hok : I6 b) : ∀ (l : List (List Int)) (s : W5), w5R s -> (∀ c ∈ l, c.length = 64) ->
  Evn (fun f => (Ei f).1 l ((z, (s, ())), ((b, ()), ((), ((), ((((b.length / 64 * 64 : Nat) : Int), ()), ())))))) ((), (t20 (b20 ((Zv 64 (if b.length % 64 + 9 > 64 then 2 else 1) (Ah8 b)).foldl Ad3 (l.foldl Ad3 s))), ()))
 | [], s, hs, _ => Awy z s hs b hb hok
 | c :: l, s, hs, hl => by
  have hc := hl c (List.mem_cons_self ..)
  rw [List.foldl_cons]
  refine (A3v z b hb hok l (Ad3 s c) (As7 s c) (fun q hq => hl q (List.mem_cons_of_mem _ hq))).step fun f => ?_
  simp only [Yq]
  rw [Ase, hc, At4 s c hc]; rfl
def Ar8 (b : List Int) : W5 := (Zv 64 (if b.length % 64 + 9 > 64 then 2 else 1) (Ah8 b)).foldl Ad3 ((Zv 64 (b.length / 64) (b.take (b.length / 64 * 64))).foldl Ad3 A7x)
theorem A77 (b : List Int) : w5R (Ar8 b) := Aym (Aym (by unfold w5R A7x; decide) _) _
theorem A9c (T : Jp) (b : List Int) : Xx T ((), ((b, ()), ())) =
  bif decide ((0 : Int) <= (0 : Int)) && decide ((0 : Int) <= Tx .i64 (Pg .i64 (b.length : Int) 64) 64) && decide (Tx .i64 (Pg .i64 (b.length : Int) 64) 64 <= (b.length : Int)) then
   ((Cf ((), ((List.drop (Int.toNat 0) (List.take (Int.toNat (Tx .i64 (Pg .i64 (b.length : Int) 64) 64)) b), ()), (((64 : Int), ()), ())))).bind fun x6 =>
   (Dd (x6.1.1.1, (x6.1.2.1.1, ()))).bind fun x7 =>
   T.1 x7 ((t20 [], (A7x, ())), ((b, ()), ((), ((), ((Tx .i64 (Pg .i64 (b.length : Int) 64) 64, ()), ())))))) else none := by kernel_rfl
theorem A5w (b : List Int) (hb : b.length <= 1000000) (hok : I6 b) : Yo ((), ((b, ()), ())) = some ((), (t20 (b20 (Ar8 b)), ())) := by
 have e1 : Pg .i64 (b.length : Int) 64 = ((b.length / 64 : Nat) : Int) := by
  unfold Pg
  rw [Int.tdiv_eq_ediv_of_nonneg (by omega)]
  exact IntWalk.i64_in _ (by omega)
 have e2 : Tx .i64 ((b.length / 64 : Nat) : Int) 64 = ((b.length / 64 * 64 : Nat) : Int) := by rw [Iq (by omega)]; omega
 have hlen : (b.take (b.length / 64 * 64)).length = b.length / 64 * 64 := by rw [List.length_take]; omega
 have hch := Apr (b.take (b.length / 64 * 64)) 64 (b.length / 64) (by decide) (by omega) hlen
 rw [show ((64 : Nat) : Int) = 64 from rfl] at hch
 have hfn := Avw (b.take (b.length / 64 * 64)) 64 (by decide)
 refine ((A3v (t20 []) b hb hok (Zv 64 (b.length / 64) (b.take (b.length / 64 * 64))) A7x (by unfold w5R A7x; decide) (Xf _ _ hlen)).cast fun f => ?_).lim
 rw [A9c]
 simp only [e1, e2, Int.toNat_natCast, show (0 : Int).toNat = 0 from rfl, List.drop_zero, hfn, Option.bind_some, hch, Ci, Ac]
 rw [if_pos (by omega)]
theorem Azd (y : Int) : Afk (y + 1) 1 1 = Afk y 1 1 + A81 y := by
 unfold A81 Afk
 simp only [show (1 : Int) <= 2 by decide, if_true]
 by_cases h : Ub y
 ·rw [if_pos h]; unfold Ub at h; omega
 ·rw [if_neg h]; unfold Ub at h; omega
theorem Ayt (y m : Int) (h : 1 <= m /\ m <= 11) : Afk y (m + 1) 1 = Afk y m 1 + A1h y m := by
 have : m = 1 \/ m = 2 \/ m = 3 \/ m = 4 \/ m = 5 \/ m = 6 \/ m = 7 \/ m = 8 \/ m = 9 \/ m = 10 \/ m = 11 := by omega
 rcases this with rfl | rfl | rfl | rfl | rfl | rfl | rfl | rfl | rfl | rfl | rfl <;> simp [Afk, A1h]
 all_goals first | omega | (by_cases h : Ub y <;> simp only [h, if_true, if_false] <;> unfold Ub at h <;> omega)
theorem Aup (y m d : Int) : Afk y m d = Afk y m 1 + d - 1 := by
 unfold Afk; split <;> omega
def Ai8 (n y m d : Int) : Prop := (1 <= m /\ m <= 12) /\ (1 <= d /\ d <= A1h y m) /\ Afk y m d = n
theorem A74 (y m : Int) (hm : 1 <= m /\ m <= 12) : Afk y 1 1 + 28 * (m - 1) <= Afk y m 1 /\ Afk y m 1 + A1h y m <= Afk (y + 1) 1 1 := by
 rw [Azd]
 have : m = 1 \/ m = 2 \/ m = 3 \/ m = 4 \/ m = 5 \/ m = 6 \/ m = 7 \/ m = 8 \/ m = 9 \/ m = 10 \/ m = 11 \/ m = 12 := by omega
 rcases this with rfl | rfl | rfl | rfl | rfl | rfl | rfl | rfl | rfl | rfl | rfl | rfl <;> simp [Afk, A1h, A81]
 all_goals (by_cases h : Ub y <;> simp only [h, if_true, if_false] <;> unfold Ub at h <;> omega)
theorem V4 {y y' : Int} (h : y < y') : Afk (y + 1) 1 1 <= Afk y' 1 1 := by
 unfold Afk; simp only [show (1 : Int) <= 2 by decide, if_true]; omega
theorem Ag1 {y m : Int} : ∀ (n : Nat), 1 <= m -> m + 1 + n <= 12 -> Afk y m 1 + A1h y m <= Afk y (m + 1 + n) 1 := by
 intro n; induction n with
 | zero => intro h0 h1; rw [show m + 1 + ((0 : Nat) : Int) = m + 1 by omega, Ayt y m (by omega)]; omega
 | succ n ih =>
  intro h0 h1
  have := ih h0 (by omega)
  have e := Ayt y (m + 1 + n) (by omega)
  have := Awg y (m + 1 + n)
  rw [show m + 1 + ((n + 1 : Nat) : Int) = m + 1 + n + 1 by omega, e]; omega
theorem Abb {n y m d : Int} (h : Ai8 n y m d) : Afk y 1 1 <= n /\ n < Afk (y + 1) 1 1 := by
 obtain ⟨h1, h2, h3⟩ := h
 have := A74 y m h1
 rw [Aup] at h3; omega
theorem Anc {n y m d y' m' d' : Int} (h : Ai8 n y m d) (h' : Ai8 n y' m' d') : y = y' /\ m = m' /\ d = d' := by
 have a := Abb h
 have a' := Abb h'
 have e : y = y' := by
  rcases Int.lt_trichotomy y y' with c | c | c
  ·have := V4 c; omega
  ·exact c
  ·have := V4 c; omega
 subst e
 obtain ⟨h1, h2, h3⟩ := h
 obtain ⟨k1, k2, k3⟩ := h'
 rw [Aup] at h3 k3
 have e : m = m' := by
  rcases Int.lt_trichotomy m m' with c | c | c
  ·have := Ag1 (y := y) (m := m) (m' - m - 1).toNat (by omega) (by omega)
   rw [show m + 1 + ((m' - m - 1).toNat : Int) = m' by omega] at this; omega
  ·exact c
  ·have := Ag1 (y := y) (m := m') (m - m' - 1).toNat (by omega) (by omega)
   rw [show m' + 1 + ((m - m' - 1).toNat : Int) = m by omega] at this; omega
 subst e
 exact ⟨rfl, rfl, by omega⟩
theorem A5e {f o : Int} (h : 0 <= f /\ f <= 146096) (ho : o = (f - f / 1460 + f / 36524 - f / 146096) / 365) :
  0 <= o /\ o <= 399 /\ 0 <= f - (365 * o + o / 4 - o / 100) /\ f - (365 * o + o / 4 - o / 100) <= 365 /\
   (f - (365 * o + o / 4 - o / 100) = 365 -> (o + 1) % 4 = 0 /\ ((o + 1) % 100 ≠ 0 \/ (o + 1) % 400 = 0)) := by
 by_cases h4 : f = 146096
 ·subst h4; subst ho; decide
 obtain ⟨c, q, r, hf, hc, hq, hr, hl⟩ : ∃ c q r : Int, f = 36524 * c + 1461 * q + r /\ (0 <= c /\ c <= 3) /\ (0 <= q /\ q <= 24) /\ (0 <= r /\ r <= 1460) /\ (q = 24 -> r <= 1459) :=
  ⟨f / 36524, f % 36524 / 1461, f % 36524 % 1461, by omega, by omega, by omega, by omega, by omega⟩
 have e1 : f / 36524 = c := by omega
 have e2 : f / 146096 = 0 := by omega
 obtain ⟨e, he, hee⟩ : ∃ e : Int, f / 1460 = 25 * c + q + e /\ ((e = 0 /\ 24 * c + q + r < 1460) \/ (e = 1 /\ 1460 <= 24 * c + q + r)) := by
  by_cases hh : 24 * c + q + r < 1460
  ·exact ⟨0, by omega, .inl ⟨rfl, hh⟩⟩
  ·exact ⟨1, by omega, .inr ⟨rfl, by omega⟩⟩
 rw [e1, e2, he] at ho
 have ho' : o = (365 * (100 * c + 4 * q) + (r - e)) / 365 := by rw [ho]; congr 1; omega
 obtain ⟨s, hs, ht⟩ : ∃ s : Int, o = 100 * c + 4 * q + s /\ (0 <= s /\ s <= 3 /\ 365 * s <= r /\ r <= 365 * s + 365 /\ (r = 365 * s + 365 -> r = 1460 /\ s = 3)) :=
  ⟨(r - e) / 365, by omega, by omega⟩
 have f1 : o / 4 = 25 * c + q := by omega
 have f2 : o / 100 = c := by omega
 rw [f1, f2]
 refine ⟨by omega, by omega, by omega, by omega, fun hh => ?_⟩
 have : r = 1460 /\ s = 3 := ht.2.2.2.2 (by omega)
 omega
theorem A54 {y p r : Int} (hr : 0 <= r /\ r <= 365) (hp : p = (5 * r + 2) / 153) (hl : r = 365 -> Ub (y + 1)) :
  Ai8 (365 * y + y / 4 - y / 100 + y / 400 + r - 719468) (if p + 3 > 12 then y + 1 else y) (if p + 3 > 12 then p + 3 - 12 else p + 3) (r - (153 * p + 2) / 5 + 1) := by
 have hp' : p = 0 \/ p = 1 \/ p = 2 \/ p = 3 \/ p = 4 \/ p = 5 \/ p = 6 \/ p = 7 \/ p = 8 \/ p = 9 \/ p = 10 \/ p = 11 := by omega
 rcases hp' with rfl | rfl | rfl | rfl | rfl | rfl | rfl | rfl | rfl | rfl | rfl | rfl <;> refine ⟨by simp, ?_, by simp [Afk]; omega⟩ <;> simp [A1h]
 all_goals first | omega | skip
 by_cases h : r = 365
 ·rw [if_pos (hl h)]; omega
 ·split <;> omega
theorem A3k {o E : Int} (ho : 0 <= o /\ o <= 399) : 365 * (o + E * 400) + (o + E * 400) / 4 - (o + E * 400) / 100 + (o + E * 400) / 400 = 146097 * E + (365 * o + o / 4 - o / 100) := by
 have e1 : (o + E * 400) / 4 = o / 4 + 100 * E := by omega
 have e2 : (o + E * 400) / 100 = o / 100 + 4 * E := by omega
 have e3 : (o + E * 400) / 400 = E := by omega
 rw [e1, e2, e3]; omega
theorem A6f {f : Int} (h : 0 <= f /\ f <= 146096) : Pg .i64 (Nj .i64 (Cr .i64 (Nj .i64 f (Pg .i64 f 1460)) (Pg .i64 f 36524)) (Pg .i64 f 146096)) 365 = (f - f / 1460 + f / 36524 - f / 146096) / 365 := by
 have a : 0 <= f / 1460 /\ f / 1460 <= f := by omega
 have b : 0 <= f / 36524 /\ f / 36524 <= 4 := by omega
 have c : 0 <= f / 146096 /\ f / 146096 <= 1 := by omega
 have d : 0 <= f - f / 1460 + f / 36524 - f / 146096 := by omega
 rw [S8 (a := f) (by decide) (by omega), S8 (a := f) (by decide) (by omega), S8 (a := f) (by decide) (by omega)]
 generalize f / 1460 = x at *
 generalize f / 36524 = y at *
 generalize f / 146096 = z at *
 rw [C5 (a := f) (by omega), A9 (by omega), C5 (by omega), S8 (by decide) (by omega)]
theorem A47 {f o : Int} (h : 0 <= f /\ f <= 146096) (ho : 0 <= o /\ o <= 399) : Nj .i64 f (Nj .i64 (Cr .i64 (Tx .i64 365 o) (Pg .i64 o 4)) (Pg .i64 o 100)) = f - (365 * o + o / 4 - o / 100) := by
 have a : 0 <= o / 4 /\ o / 4 <= 99 := by omega
 have b : 0 <= o / 100 /\ o / 100 <= 3 := by omega
 rw [S8 (a := o) (by decide) (by omega), S8 (a := o) (by decide) (by omega)]
 generalize o / 4 = x at *
 generalize o / 100 = y at *
 rw [Iq (by omega), A9 (by omega), C5 (a := 365 * o + x) (by omega), C5 (by omega)]
theorem A6g {r p : Int} (hr : 0 <= r /\ r <= 365) (hp : 0 <= p /\ p <= 11) : Cr .i64 (Nj .i64 r (Pg .i64 (Cr .i64 (Tx .i64 153 p) 2) 5)) 1 = r - (153 * p + 2) / 5 + 1 := by
 have a : 0 <= (153 * p + 2) / 5 /\ (153 * p + 2) / 5 <= 400 := by omega
 rw [Iq (by omega), A9 (a := 153 * p) (by omega), S8 (by decide) (by omega)]
 generalize (153 * p + 2) / 5 = x at *
 rw [C5 (by omega), A9 (by omega)]
theorem Ah7 (n : Int) (hn : -4371587 <= n /\ n <= 2932896) : ∃ y m d, Lw ((), ((n, ()), ())) = some ((), ((y, ()), ((m, ()), ((d, ()), ((none, ()), ()))))) /\ Ai8 n y m d := by
 have hz : 0 <= (n + 719468) % 146097 /\ (n + 719468) % 146097 <= 146096 := by omega
 have hg := A5e hz rfl
 generalize hf : (n + 719468) % 146097 = f at hz hg
 generalize hE : (n + 719468) / 146097 = E
 have hn2 : n + 719468 = 146097 * E + f := by omega
 have hEr : -40 <= E /\ E <= 40 := by omega
 generalize ho : (f - f / 1460 + f / 36524 - f / 146096) / 365 = o at hg
 generalize hr : f - (365 * o + o / 4 - o / 100) = r at hg
 have hd := A54 (y := o + E * 400) (p := (5 * r + 2) / 153) (r := r) (by omega) rfl (fun h => by unfold Ub; omega)
 have en : 365 * (o + E * 400) + (o + E * 400) / 4 - (o + E * 400) / 100 + (o + E * 400) / 400 + r - 719468 = n := by
  have ho : 0 <= o /\ o <= 399 := ⟨hg.1, hg.2.1⟩
  rw [A3k ho]; omega
 rw [en] at hd
 refine ⟨_, _, _, ?_, hd⟩
 simp only [Lw, Xe, Aca, Agn, Ag, Option.bind_some, Option.isNone_none, Option.isNone_some, Option.isSome_none, Option.isSome_some, Bool.not_true, Bool.not_false, cond_true, cond_false, Ac, Ap, Ar, Ao, gt_iff_lt]
 rw [if_neg (by omega), if_neg (by omega)]
 have e0 : Cr .i64 n 719468 = n + 719468 := A9 (by omega)
 simp only [e0]
 rw [Ah3 _ _ (by decide) (by omega), hE]
 simp only [Option.bind_some]
 have e1 : Nj .i64 (n + 719468) (Tx .i64 E 146097) = f := by rw [Iq (by omega), C5 (by omega)]; omega
 simp only [e1]
 have e2 := A6f hz
 rw [ho] at e2
 simp only [e2]
 have e3 := A47 hz (o := o) ⟨hg.1, hg.2.1⟩
 rw [hr] at e3
 simp only [e3]
 have hr' : 0 <= r /\ r <= 365 := ⟨hg.2.2.1, hg.2.2.2.1⟩
 have ho' : 0 <= o /\ o <= 399 := ⟨hg.1, hg.2.1⟩
 clear hg ho hr e2 e3 en hd
 have e4 : Pg .i64 (Cr .i64 (Tx .i64 5 r) 2) 153 = (5 * r + 2) / 153 := by
  rw [Iq (by omega), A9 (by omega), S8 (by decide) (by omega)]
 simp only [e4]
 generalize hp : (5 * r + 2) / 153 = p
 have hp' : 0 <= p /\ p <= 11 := by omega
 have e5 := A6g hr' hp'
 have e6 : Cr .i64 o (Tx .i64 E 400) = o + E * 400 := by rw [Iq (by omega), A9 (by omega)]
 have e7 : Cr .i64 p 3 = p + 3 := A9 (by omega)
 simp only [e5, e6, e7]
 by_cases h : 12 < p + 3
 ·rw [if_pos h, if_pos h, if_pos h, C5 (by omega), A9 (by omega)]
 ·rw [if_neg h, if_neg h, if_neg h]
theorem Afj {n : Int} (hn : ¬(-4371587 <= n /\ n <= 2932896)) : Lw ((), ((n, ()), ())) = some ((), ((0, ()), ((0, ()), ((0, ()), ((some 13, ()), ()))))) := by
 simp only [Lw, Xe, Aca, Agn, Ag, Option.bind_some, Option.isNone_none, Option.isNone_some, Option.isSome_none, Option.isSome_some, Bool.not_true, Bool.not_false, cond_true, cond_false, Ac, Ap, Ar, Ao, gt_iff_lt]
 by_cases h : n < -4371587
 ·rw [if_pos h]
 ·rw [if_neg h, if_pos (by omega)]
def Oz (n : Int) : Prop := -25567 <= n /\ n <= 2932896
def first (n : Int) : Prop := ∃ y m, Ai8 n y m 1
def Si (l : List (Int × Int)) : Prop := ∃ i : Nat, i < l.length /\ ¬ Oz (Af l i).1
def R7 (l : List (Int × Int)) : Prop := ∃ i : Nat, i < l.length /\ ¬(first (Af l i).1 /\ 0 <= (Af l i).2 /\ (Af l i).2 <= 1000)
def A7i (b a : Int × Int) : Prop := b.1 > a.1 /\ (b.2 - a.2 = 1 \/ b.2 - a.2 = -1)
def Ad9 (l : List (Int × Int)) : Prop := ∀ i : Nat, i + 1 < l.length -> A7i (Af l ((i + 1 : Nat) : Int)) (Af l i)
def Ih (s : Int) : Prop := 0 <= s /\ s <= 1099511627776
instance (n : Int) : Decidable (Oz n) := by unfold Oz; infer_instance
instance (n : Int) : Decidable (Ih n) := by unfold Ih; infer_instance
noncomputable instance (n : Int) : Decidable (first n) := Classical.propDecidable _
noncomputable instance (l : List (Int × Int)) : Decidable (Si l) := Classical.propDecidable _
noncomputable instance (l : List (Int × Int)) : Decidable (R7 l) := Classical.propDecidable _
noncomputable instance (l : List (Int × Int)) : Decidable (Ad9 l) := Classical.propDecidable _
noncomputable def Asd (l : List (Int × Int)) (u e : Int) : Int :=
 if l.length = 0 then 8 else if 256 < l.length then 3 else if Si l then 13 else if R7 l \/ ¬ Ih u \/ ¬ Ih e then 1 else if ¬ Ad9 l then 6 else 0
theorem Ayc {n y m d : Int} (h : Ai8 n y m d) : 1900 <= y ↔ -25567 <= n := by
 have a := Abb h
 have e : Afk 1900 1 1 = -25567 := rfl
 constructor
 ·intro hy
  by_cases c : y = 1900
  ·subst c; omega
  ·have := V4 (y := 1900) (y' := y) (by omega)
   have := Azd 1900
   have : A81 1900 = 365 := by decide
   omega
 ·intro hn
  by_cases c : y < 1900
  ·have := V4 c; omega
  ·omega
theorem Aqw (n o : Int) : Is ((), ((n, (o, ())), ())) = some ((), ((decide (Oz n), ()), ())) := by
 simp only [Is, Sl]
 by_cases h : -4371587 <= n /\ n <= 2932896
 ·obtain ⟨y, m, d, e, hd⟩ := Ah7 n h
  simp only [e, Ag, Option.bind_some, Option.isNone_none, Option.isNone_some, Option.isSome_none, Option.isSome_some, Bool.not_true, Bool.not_false, cond_true, cond_false, Ac, Ap, Ar, Ao, ge_iff_le]
  have := Ayc hd
  congr 4
  rw [decide_eq_decide]; unfold Oz
  constructor <;> intro hh <;> omega
 ·simp only [Afj h, Ag, Option.bind_some, Option.isNone_none, Option.isNone_some, Option.isSome_none, Option.isSome_some, Bool.not_true, Bool.not_false, cond_true, cond_false, Ac, Ap, Ar, Ao]
  rw [decide_eq_false (by unfold Oz; omega)]
theorem Azv (n o : Int) : Ky ((), ((n, (o, ())), ())) = some ((), ((decide (first n /\ (-4371587 <= n /\ n <= 2932896) /\ 0 <= o /\ o <= 1000), ()), ())) := by
 simp only [Ky, Wa]
 by_cases h : -4371587 <= n /\ n <= 2932896
 ·obtain ⟨y, m, d, e, hd⟩ := Ah7 n h
  simp only [e, Ag, Option.bind_some, Option.isNone_none, Option.isNone_some, Option.isSome_none, Option.isSome_some, Bool.not_true, Bool.not_false, cond_true, cond_false, Ac, Ap, Ar, Ao, ge_iff_le]
  by_cases c : d = 1
  ·subst c
   rw [if_pos rfl]
   have hf : first n := ⟨y, m, hd⟩
   by_cases c2 : 0 <= o
   ·rw [if_pos c2]; congr 4; simp [hf, h, c2]
   ·rw [if_neg c2, decide_eq_false (by simp [c2])]
  ·rw [if_neg c, decide_eq_false]
   rintro ⟨⟨y', m', h'⟩, _⟩
   exact c (Anc hd h').2.2
 ·simp only [Afj h, Ag, Option.bind_some, Option.isNone_none, Option.isNone_some, Option.isSome_none, Option.isSome_some, Bool.not_true, Bool.not_false, cond_true, cond_false, Ac, Ap, Ar, Ao]
  rw [decide_eq_false (by simp only [h, false_and, and_false, not_false_eq_true])]
theorem Ayk (s : Int) : N0 ((), ((s, ()), ())) = some ((), ((decide (0 <= s /\ s <= 1099511627776), ()), ())) := by
 simp only [N0, Acs, Ag, Option.bind_some, Option.isNone_none, Option.isNone_some, Option.isSome_none, Option.isSome_some, Bool.not_true, Bool.not_false, cond_true, cond_false, Ac, Ap, Ar, Ao, ge_iff_le]
 by_cases h : 0 <= s <;> simp [h]
theorem follows (a b c d : Int) (hb : 0 <= b /\ b <= 1000) (hd : 0 <= d /\ d <= 1000) : G8 ((), ((a, (b, ())), ((c, (d, ())), ()))) = some ((), ((decide (a > c /\ (b - d = 1 \/ b - d = -1)), ()), ())) := by
 simp only [G8, P1, Ag, Option.bind_some, Option.isNone_none, Option.isNone_some, Option.isSome_none, Option.isSome_some, Bool.not_true, Bool.not_false, cond_true, cond_false, Ac, Ap, Ar, Ao]
 rw [C5 (by omega)]
 by_cases h1 : a > c <;> by_cases h2 : b - d = 1 <;> by_cases h3 : b - d = -1 <;> simp [h1, h2, h3]
theorem Aoc (l : List (Int × Int)) (hl : l.length <= 1000) : ∀ (k i : Nat), i + k = l.length -> ∃ x : Int, Evn (fun j => (Am j).1 ((), ((l, ()), ((), (((l.length : Int), ()), (((i : Int), ()), ())))))) ((), ((x, ()), ())) /\
  ((x = -1 /\ ∀ j : Nat, i <= j -> j < l.length -> Oz (Af l j).1) \/ (0 <= x /\ ∃ j : Nat, j < l.length /\ ¬ Oz (Af l j).1)) := by
 intro k; induction k with
 | zero =>
  intro i h
  refine ⟨-1, Evn.some 1 fun j => ?_, .inl ⟨rfl, fun j h1 h2 => by omega⟩⟩
  simp only [Ca, Ax, Ag, Option.bind_some, Option.isNone_none, Option.isNone_some, Option.isSome_none, Option.isSome_some, Bool.not_true, Bool.not_false, cond_true, cond_false, Ac, Ap, Ar, Ao]
  rw [if_neg (by omega)]
 | succ k ih =>
  intro i h
  by_cases c : Oz (Af l i).1
  ·obtain ⟨x, h1, h2⟩ := ih (i + 1) (by omega)
   refine ⟨x, h1.step fun j => ?_, ?_⟩
   ·simp only [Ca, Ax, Ou, S2, Aqw, Ag, Option.bind_some, Option.isNone_none, Option.isNone_some, Option.isSome_none, Option.isSome_some, Bool.not_true, Bool.not_false, cond_true, cond_false, Ac, Ap, Ar, Ao, Ci]
    rw [if_pos (by omega), if_pos (by omega), if_neg (by simpa using c), A9 (by omega)]; rfl
   ·rcases h2 with ⟨h2, h3⟩ | h2
    ·refine .inl ⟨h2, fun j h4 h5 => ?_⟩
     by_cases e : j = i
     ·subst e; exact c
     ·exact h3 j (by omega) h5
    ·exact .inr h2
  ·refine ⟨i, Evn.some 1 fun j => ?_, .inr ⟨by omega, i, by omega, c⟩⟩
   simp only [Ca, Ax, Ou, S2, Aqw, Ag, Option.bind_some, Option.isNone_none, Option.isNone_some, Option.isSome_none, Option.isSome_some, Bool.not_true, Bool.not_false, cond_true, cond_false, Ac, Ap, Ar, Ao, Ci]
   rw [if_pos (by omega), if_pos (by omega), if_pos (by simpa using c)]
theorem Asy (l : List (Int × Int)) (hl : l.length <= 1000) : Aw ((), ((l, ()), ((), ()))) = some ((), ((decide (Si l), ()), ())) := by
 obtain ⟨x, h1, h2⟩ := Aoc l hl l.length 0 (by omega)
 have h1 : Bf ((), ((l, ()), ((), ()))) = some ((), ((x, ()), ())) := (h1.cast fun k => by simp only [Bz]; rfl).lim
 simp only [Aw, Cy, h1, Option.bind_some, ge_iff_le]
 congr 4
 simp only [decide_eq_decide]
 rcases h2 with ⟨h2, h3⟩ | ⟨h2, h3⟩
 ·subst h2
  exact ⟨fun h => absurd h (by decide), fun ⟨j, h4, h5⟩ => absurd (h3 j (Nat.zero_le _) h4) h5⟩
 ·exact ⟨fun _ => h3, fun _ => h2⟩
theorem Ar9 (l : List (Int × Int)) (hl : l.length <= 1000) (hd : ¬ Si l) : ∀ (k i : Nat), i + k = l.length -> ∃ x : Int, Evn (fun j => (An j).1 ((), ((l, ()), ((), (((l.length : Int), ()), (((i : Int), ()), ())))))) ((), ((x, ()), ())) /\
  ((x = -1 /\ ∀ j : Nat, i <= j -> j < l.length -> (first (Af l j).1 /\ 0 <= (Af l j).2 /\ (Af l j).2 <= 1000)) \/ (0 <= x /\ ∃ j : Nat, j < l.length /\ ¬(first (Af l j).1 /\ 0 <= (Af l j).2 /\ (Af l j).2 <= 1000))) := by
 have hdt : ∀ j : Nat, j < l.length -> (-4371587 <= (Af l j).1 /\ (Af l j).1 <= 2932896) := fun j hj => by
  by_cases c : Oz (Af l j).1
  ·unfold Oz at c; omega
  ·exact absurd ⟨j, hj, c⟩ hd
 intro k; induction k with
 | zero =>
  intro i h
  refine ⟨-1, Evn.some 1 fun j => ?_, .inl ⟨rfl, fun j h1 h2 => by omega⟩⟩
  simp only [B9, Az, Ag, Option.bind_some, Option.isNone_none, Option.isNone_some, Option.isSome_none, Option.isSome_some, Bool.not_true, Bool.not_false, cond_true, cond_false, Ac, Ap, Ar, Ao]
  rw [if_neg (by omega)]
 | succ k ih =>
  intro i h
  have hi := hdt i (by omega)
  by_cases c : first (Af l i).1 /\ 0 <= (Af l i).2 /\ (Af l i).2 <= 1000
  ·obtain ⟨x, h1, h2⟩ := ih (i + 1) (by omega)
   refine ⟨x, h1.step fun j => ?_, ?_⟩
   ·simp only [B9, Az, O3, Sz, Azv, Ag, Option.bind_some, Option.isNone_none, Option.isNone_some, Option.isSome_none, Option.isSome_some, Bool.not_true, Bool.not_false, cond_true, cond_false, Ac, Ap, Ar, Ao, Ci]
    rw [if_pos (by omega), if_pos (by omega), if_neg (by simp only [Decidable.not_not]; exact ⟨c.1, hi, c.2⟩), A9 (by omega)]; rfl
   ·rcases h2 with ⟨h2, h3⟩ | h2
    ·refine .inl ⟨h2, fun j h4 h5 => ?_⟩
     by_cases e : j = i
     ·subst e; exact c
     ·exact h3 j (by omega) h5
    ·exact .inr h2
  ·refine ⟨i, Evn.some 1 fun j => ?_, .inr ⟨by omega, i, by omega, c⟩⟩
   simp only [B9, Az, O3, Sz, Azv, Ag, Option.bind_some, Option.isNone_none, Option.isNone_some, Option.isSome_none, Option.isSome_some, Bool.not_true, Bool.not_false, cond_true, cond_false, Ac, Ap, Ar, Ao, Ci]
   rw [if_pos (by omega), if_pos (by omega), if_pos (fun hh => c ⟨hh.1, hh.2.2⟩)]
theorem A06 (l : List (Int × Int)) (hl : l.length <= 1000) (hd : ¬ Si l) : Ay ((), ((l, ()), ((), ()))) = some ((), ((decide (R7 l), ()), ())) := by
 obtain ⟨x, h1, h2⟩ := Ar9 l hl hd l.length 0 (by omega)
 have h1 : Bg ((), ((l, ()), ((), ()))) = some ((), ((x, ()), ())) := (h1.cast fun k => by simp only [Bw]; rfl).lim
 simp only [Ay, C4, h1, Option.bind_some, ge_iff_le]
 congr 4
 simp only [decide_eq_decide]
 rcases h2 with ⟨h2, h3⟩ | ⟨h2, h3⟩
 ·subst h2
  exact ⟨fun h => absurd h (by decide), fun ⟨j, h4, h5⟩ => absurd (h3 j (Nat.zero_le _) h4) h5⟩
 ·exact ⟨fun _ => h3, fun _ => h2⟩
theorem A5z (l : List (Int × Int)) (hl : l.length <= 1000) (ho : ∀ i : Nat, i < l.length -> 0 <= (Af l i).2 /\ (Af l i).2 <= 1000) : ∀ (k i : Nat), 1 <= i -> i + k = max l.length 1 -> ∃ b : Bool, Evn (fun j => (Ir j).1 ((), ((l, ()), (((i : Int), ()), ())))) ((), ((b, ()), ())) /\
  ((b = true /\ ∀ j : Nat, i <= j + 1 -> j + 1 < l.length -> A7i (Af l ((j + 1 : Nat) : Int)) (Af l j)) \/ (b = false /\ ¬ Ad9 l)) := by
 intro k; induction k with
 | zero =>
  intro i hi h
  refine ⟨true, Evn.some 1 fun j => ?_, .inl ⟨rfl, fun j h1 h2 => by omega⟩⟩
  simp only [Aa6, Kw, Ag, Option.bind_some, Option.isNone_none, Option.isNone_some, Option.isSome_none, Option.isSome_some, Bool.not_true, Bool.not_false, cond_true, cond_false, Ac, Ap, Ar, Ao]
  rw [if_neg (by omega)]
 | succ k ih =>
  intro i hi h
  obtain ⟨m, rfl⟩ : ∃ m, i = m + 1 := ⟨i - 1, by omega⟩
  have e1 : Nj .i64 (((m + 1 : Nat) : Int)) 1 = (m : Int) := by rw [C5 (by omega)]; omega
  have h1 := ho (m + 1) (by omega)
  have h2 := ho m (by omega)
  have hf := follows (Af l ((m + 1 : Nat) : Int)).1 (Af l ((m + 1 : Nat) : Int)).2 (Af l m).1 (Af l m).2 h1 h2
  by_cases c : A7i (Af l ((m + 1 : Nat) : Int)) (Af l m)
  ·obtain ⟨b, q1, q2⟩ := ih (m + 1 + 1) (by omega) (by omega)
   refine ⟨b, q1.step fun j => ?_, ?_⟩
   ·simp only [Aa6, Kw, Ag, Option.bind_some, Option.isNone_none, Option.isNone_some, Option.isSome_none, Option.isSome_some, Bool.not_true, Bool.not_false, cond_true, cond_false, Ac, Ap, Ar, Ao, Ci, e1]
    rw [if_pos (by omega), if_pos (by omega), if_pos (by omega), hf]
    simp only [Option.bind_some, Ao, Ac]
    have c' := c
    unfold A7i at c'
    rw [if_neg (not_not_intro c'), A9 (by omega)]; rfl
   ·rcases q2 with ⟨q2, q3⟩ | q2
    ·refine .inl ⟨q2, fun j h4 h5 => ?_⟩
     by_cases e : j = m
     ·subst e; exact c
     ·exact q3 j (by omega) h5
    ·exact .inr q2
  ·refine ⟨false, Evn.some 1 fun j => ?_, .inr ⟨rfl, fun hr => c (hr m (by omega))⟩⟩
   simp only [Aa6, Kw, Ag, Option.bind_some, Option.isNone_none, Option.isNone_some, Option.isSome_none, Option.isSome_some, Bool.not_true, Bool.not_false, cond_true, cond_false, Ac, Ap, Ar, Ao, Ci, e1]
   rw [if_pos (by omega), if_pos (by omega), if_pos (by omega), hf]
   simp only [Option.bind_some, Ao, Ac]
   have c' := c
   unfold A7i at c'
   rw [if_pos c']
theorem Azr (l : List (Int × Int)) (hl : l.length <= 1000) (ho : ∀ i : Nat, i < l.length -> 0 <= (Af l i).2 /\ (Af l i).2 <= 1000) : Q0 ((), ((l, ()), ())) = some ((), ((decide (Ad9 l), ()), ())) := by
 obtain ⟨b, h1, h2⟩ := A5z l hl ho (max l.length 1 - 1) 1 (by omega) (by omega)
 have h1 : Q0 ((), ((l, ()), ())) = some ((), ((b, ()), ())) := (h1.cast fun k => by simp only [V3]; rfl).lim
 rw [h1]
 rcases h2 with ⟨rfl, h3⟩ | ⟨rfl, h3⟩
 ·rw [decide_eq_true (show Ad9 l from fun i hi => h3 i (by omega) hi)]
 ·rw [decide_eq_false h3]
theorem Als (l : List (Int × Int)) (h : l.length <= 1000) : Bm ((), ((l, ()), ())) = some ((l, ()), ((), ())) := by
 unfold Bm Gi
 simp only [List.length_nil, List.nil_append]
 rw [decide_eq_true (show (0 + l.length) * 16 <= 140737488355328 by omega), decide_eq_true (show 0 + l.length <= 9223372036854775807 by omega)]
 simp only [Bool.and_self, cond_true]
 cases l with
 | nil => simp [Atc]
 | cons x l => rfl
theorem A0t {l : List (Int × Int)} (h : ¬ R7 l) : ∀ i : Nat, i < l.length -> first (Af l i).1 /\ 0 <= (Af l i).2 /\ (Af l i).2 <= 1000 := fun i hi =>
 Classical.byContradiction fun c => h ⟨i, hi, c⟩
theorem A4s {l : List (Int × Int)} (h : ¬ Si l) : ∀ i : Nat, i < l.length -> Oz (Af l i).1 := fun i hi =>
 Classical.byContradiction fun c => h ⟨i, hi, c⟩
theorem Avg (l : List (Int × Int)) (u e : Int) : Nq ((), ((l, ()), ((u, ()), ((e, ()), ())))) = some ((), ((if Asd l u e = 0 then some (l, (u, e)) else none, ()), ((Anl (Asd l u e), ()), ()))) := by
 simp only [Nq, Ae3, Ag, Option.bind_some, Option.isNone_none, Option.isNone_some, Option.isSome_none, Option.isSome_some, Bool.not_true, Bool.not_false, cond_true, cond_false, Ac, Ap, Ar, Ao, gt_iff_lt]
 unfold Asd
 by_cases c1 : l.length = 0
 ·rw [if_pos (by omega), if_pos c1]; rfl
 rw [if_neg (by omega), if_neg c1]
 by_cases c2 : 256 < l.length
 ·rw [if_pos (by omega), if_pos c2]; rfl
 rw [if_neg (by omega), if_neg c2, Asy l (by omega)]
 simp only [Option.bind_some, Ac]
 by_cases c3 : Si l
 ·rw [if_pos c3, if_pos c3]; rfl
 rw [if_neg c3, if_neg c3, A06 l (by omega) c3]
 simp only [Option.bind_some, Ac, Ayk, Ao]
 by_cases c4 : R7 l
 ·have hE : (if R7 l \/ ¬ Ih u \/ ¬ Ih e then (1 : Int) else if ¬ Ad9 l then 6 else 0) = 1 := if_pos (.inl c4)
  rw [if_pos c4, hE]; rfl
 rw [if_neg c4]
 by_cases c5 : Ih u
 ·rw [if_neg (show ¬¬(0 <= u /\ u <= 1099511627776) by unfold Ih at c5; omega)]
  by_cases c6 : Ih e
  ·rw [if_neg (show ¬¬(0 <= e /\ e <= 1099511627776) by unfold Ih at c6; omega), Azr l (by omega) (fun i hi => (A0t c4 i hi).2)]
   simp only [Option.bind_some, Ac, Ao]
   by_cases c7 : Ad9 l
   ·have hE : (if R7 l \/ ¬ Ih u \/ ¬ Ih e then (1 : Int) else if ¬ Ad9 l then 6 else 0) = 0 := by
     rw [if_neg (show ¬(R7 l \/ ¬ Ih u \/ ¬ Ih e) by simp [c4, c5, c6]), if_neg (not_not_intro c7)]
    rw [hE, if_neg (not_not_intro c7), Als l (by omega)]; rfl
   ·have hE : (if R7 l \/ ¬ Ih u \/ ¬ Ih e then (1 : Int) else if ¬ Ad9 l then 6 else 0) = 6 := by
     rw [if_neg (show ¬(R7 l \/ ¬ Ih u \/ ¬ Ih e) by simp [c4, c5, c6]), if_pos c7]
    rw [hE, if_pos c7]; rfl
  ·have hE : (if R7 l \/ ¬ Ih u \/ ¬ Ih e then (1 : Int) else if ¬ Ad9 l then 6 else 0) = 1 := if_pos (.inr (.inr c6))
   rw [if_pos (show ¬(0 <= e /\ e <= 1099511627776) from c6), hE]; rfl
 ·have hE : (if R7 l \/ ¬ Ih u \/ ¬ Ih e then (1 : Int) else if ¬ Ad9 l then 6 else 0) = 1 := if_pos (.inr (.inl c5))
  rw [if_pos (show ¬(0 <= u /\ u <= 1099511627776) from c5), hE]; rfl
structure Asj (l : List (Int × Int)) : Prop where
 len : 1 <= l.length /\ l.length <= 256
 day : ∀ i : Nat, i < l.length -> Oz (Af l i).1
 off : ∀ i : Nat, i < l.length -> 0 <= (Af l i).2 /\ (Af l i).2 <= 1000
 rise : Ad9 l
theorem Ami {l : List (Int × Int)} {u e : Int} (h : Asd l u e = 0) : Asj l /\ Ih u /\ Ih e := by
 unfold Asd at h
 split at h
 ·cases h
 rename_i c1
 split at h
 ·cases h
 rename_i c2
 split at h
 ·cases h
 rename_i c3
 split at h
 ·cases h
 rename_i c4
 split at h
 ·cases h
 rename_i c5
 have c4w : ¬ R7 l := fun hh => c4 (.inl hh)
 exact ⟨⟨by omega, A4s c3, fun i hi => (A0t c4w i hi).2, Classical.not_not.1 c5⟩, Classical.byContradiction fun hh => c4 (.inr (.inl hh)), Classical.byContradiction fun hh => c4 (.inr (.inr hh))⟩
theorem Asj.mono {l : List (Int × Int)} (h : Asj l) : ∀ (k i : Nat), i + 1 + k < l.length -> (Af l i).1 < (Af l ((i + 1 + k : Nat) : Int)).1 := by
 intro k; induction k with
 | zero => intro i hi; exact (h.rise i hi).1
 | succ k ih =>
  intro i hi
  have := ih i (by omega)
  have := (h.rise (i + 1 + k) (by omega)).1
  rw [show i + 1 + (k + 1) = i + 1 + k + 1 by omega]; omega
theorem Asj.lt {l : List (Int × Int)} (h : Asj l) {i j : Nat} (hij : i < j) (hj : j < l.length) : (Af l i).1 < (Af l j).1 := by
 have := h.mono (j - i - 1) i (by omega)
 rw [show i + 1 + (j - i - 1) = j by omega] at this; exact this
structure Cnt (l : List (Int × Int)) (n : Int) (k : Nat) : Prop where
 le : k <= l.length
 lo : ∀ i : Nat, i < k -> (Af l i).1 <= n
 hi : ∀ i : Nat, k <= i -> i < l.length -> n < (Af l i).1
theorem A07 : first 730 := ⟨1972, 1, by decide, by decide, rfl⟩
set_option maxRecDepth 10000
def A8m (x y : T20) : Bool := ((x.1 == y.1) && ((x.2.1 == y.2.1) && ((x.2.2.1 == y.2.2.1) && ((x.2.2.2.1 == y.2.2.2.1) && ((x.2.2.2.2.1 == y.2.2.2.2.1) && ((x.2.2.2.2.2.1 == y.2.2.2.2.2.1) && ((x.2.2.2.2.2.2.1 == y.2.2.2.2.2.2.1) && ((x.2.2.2.2.2.2.2.1 == y.2.2.2.2.2.2.2.1) && ((x.2.2.2.2.2.2.2.2.1 == y.2.2.2.2.2.2.2.2.1) && ((x.2.2.2.2.2.2.2.2.2.1 == y.2.2.2.2.2.2.2.2.2.1) && ((x.2.2.2.2.2.2.2.2.2.2.1 == y.2.2.2.2.2.2.2.2.2.2.1) && ((x.2.2.2.2.2.2.2.2.2.2.2.1 == y.2.2.2.2.2.2.2.2.2.2.2.1) && ((x.2.2.2.2.2.2.2.2.2.2.2.2.1 == y.2.2.2.2.2.2.2.2.2.2.2.2.1) && ((x.2.2.2.2.2.2.2.2.2.2.2.2.2.1 == y.2.2.2.2.2.2.2.2.2.2.2.2.2.1) && ((x.2.2.2.2.2.2.2.2.2.2.2.2.2.2.1 == y.2.2.2.2.2.2.2.2.2.2.2.2.2.2.1) && ((x.2.2.2.2.2.2.2.2.2.2.2.2.2.2.2.1 == y.2.2.2.2.2.2.2.2.2.2.2.2.2.2.2.1) && ((x.2.2.2.2.2.2.2.2.2.2.2.2.2.2.2.2.1 == y.2.2.2.2.2.2.2.2.2.2.2.2.2.2.2.2.1) && ((x.2.2.2.2.2.2.2.2.2.2.2.2.2.2.2.2.2.1 == y.2.2.2.2.2.2.2.2.2.2.2.2.2.2.2.2.2.1) && ((x.2.2.2.2.2.2.2.2.2.2.2.2.2.2.2.2.2.2.1 == y.2.2.2.2.2.2.2.2.2.2.2.2.2.2.2.2.2.2.1) && ((x.2.2.2.2.2.2.2.2.2.2.2.2.2.2.2.2.2.2.2.1 == y.2.2.2.2.2.2.2.2.2.2.2.2.2.2.2.2.2.2.2.1) && true))))))))))))))))))))
def A7m (x : T20) : List Int := [x.1, x.2.1, x.2.2.1, x.2.2.2.1, x.2.2.2.2.1, x.2.2.2.2.2.1, x.2.2.2.2.2.2.1, x.2.2.2.2.2.2.2.1, x.2.2.2.2.2.2.2.2.1, x.2.2.2.2.2.2.2.2.2.1, x.2.2.2.2.2.2.2.2.2.2.1, x.2.2.2.2.2.2.2.2.2.2.2.1, x.2.2.2.2.2.2.2.2.2.2.2.2.1, x.2.2.2.2.2.2.2.2.2.2.2.2.2.1, x.2.2.2.2.2.2.2.2.2.2.2.2.2.2.1, x.2.2.2.2.2.2.2.2.2.2.2.2.2.2.2.1, x.2.2.2.2.2.2.2.2.2.2.2.2.2.2.2.2.1, x.2.2.2.2.2.2.2.2.2.2.2.2.2.2.2.2.2.1, x.2.2.2.2.2.2.2.2.2.2.2.2.2.2.2.2.2.2.1, x.2.2.2.2.2.2.2.2.2.2.2.2.2.2.2.2.2.2.2.1]
theorem Au7 (x y : T20) : A8m x y = true ↔ x = y := by
 obtain ⟨x0, x1, x2, x3, x4, x5, x6, x7, x8, x9, x10, x11, x12, x13, x14, x15, x16, x17, x18, x19, _⟩ := x
 obtain ⟨y0, y1, y2, y3, y4, y5, y6, y7, y8, y9, y10, y11, y12, y13, y14, y15, y16, y17, y18, y19, _⟩ := y
 simp only [A8m, Bool.and_eq_true, beq_iff_eq, and_true, Prod.mk.injEq]
theorem Ame (l : List Int) : A7m (t20 l) = l20 l := rfl
theorem A2w {a b : List Int} (ha : a.length = 20) (hb : b.length = 20) : A8m (t20 a) (t20 b) = decide (a = b) := by
 by_cases c : a = b
 ·rw [decide_eq_true c, c, Au7]
 ·rw [decide_eq_false c]
  cases h : A8m (t20 a) (t20 b) with
  | false => rfl
  | true =>
   exfalso
   have := (Au7 _ _).1 h
   have := congrArg A7m this
   rw [Ame, Ame, Ay2 ha, Ay2 hb] at this
   exact c this
def Rf (n : Int) : List Int := Aoh n.toNat 0
theorem Uy (n : Int) : I6 (Rf n) := A40 _ _
theorem Ji (n : Int) (h : n < 18446744073709551616) : (Rf n).length <= 20 := At7 _ _ (by omega) (by decide)
theorem Alq (out beh : List Int) (n : Int) (hn : 0 <= n /\ n <= 9223372036854775807) (ho : out.length <= 1000000) (hb : I6 beh) (hbl : beh.length <= 1000) :
  Aq (((none, ()), (out, ())), ((), ((n, ()), ((As beh, ()), ())))) = some (((none, ()), (out ++ (Rf n ++ beh), ())), ((), ())) := by
 have hp := Aw1 n 0 hn (by decide)
 have hd : bytesOf (As (Aoh n.toNat (0 : Int).toNat)) = Rf n := Iu (Uy n)
 have hl := Ji n (by omega)
 simp only [Aq, Kh, hp, Option.bind_some, Option.isNone_none, Bool.not_true, cond_false, hd, Iu hb, Ci, Ac, List.length_append]
 rw [if_pos (by omega), if_pos (by omega), List.append_assoc]
theorem A1f (n : Int) (h : Oz n) : Rd ((), (((3 : Int), ()), ((n, ()), ()))) = some ((), ((n + 25567, ()), ((none, ()), ()))) := by
 have hz : Qo ((), (((3 : Int), ()), ())) = some ((), ((25567, ()), ((none, ()), ()))) := rfl
 have ht : Rv ((), ((n, ()), ())) = some ((), ((true, ()), ())) := by
  unfold Oz at h
  simp only [Rv, Aco, Aca, Agn, Option.bind_some, ge_iff_le, Ac]
  rw [if_pos (by omega), decide_eq_true (by omega)]
 unfold Oz at h
 simp only [Rd, Acj, hz, ht, Option.bind_some, Option.isNone_none, Bool.not_true, cond_false]
 rw [A9 (by omega)]
def Ah0 (r : Int × Int) : Int := (r.1 + 25567) * 86400
theorem A3s (out a b : List Int) (r : Int × Int) (h : Oz r.1) (h2 : 0 <= r.2 /\ r.2 <= 1000) (ho : out.length <= 100000) (ha : I6 a) (hal : a.length <= 10) (hb : I6 b) (hbl : b.length <= 10) :
  Cz (((none, ()), (out, ())), ((), ((r.1, (r.2, ())), ((As a, ()), ((As b, ()), ()))))) = some (((none, ()), (out ++ ((Rf (Ah0 r) ++ a) ++ (Rf r.2 ++ b)), ())), ((), ())) := by
 have hc := A1f r.1 h
 unfold Oz at h
 have hm : Tx .i64 (r.1 + 25567) 86400 = Ah0 r := Iq (by omega)
 have hs : 0 <= Ah0 r /\ Ah0 r <= 9223372036854775807 := by unfold Ah0; omega
 have p1 := Alq out a (Ah0 r) hs (by omega) ha (by omega)
 have hl := Ji (Ah0 r) (by omega)
 have p2 := Alq (out ++ (Rf (Ah0 r) ++ a)) b r.2 (by omega) (by simp only [List.length_append]; omega) hb (by omega)
 simp only [Cz, Kf, hc, hm, p1, p2, Option.bind_some, Option.isNone_none, Bool.not_true, cond_false]
 rw [List.append_assoc]
def Aic (l : List (Int × Int)) : List Int := l.flatMap fun r => Rf (Ah0 r) ++ Rf r.2
def dgB (l : List (Int × Int)) (u e : Int) : List Int := Rf u ++ (Rf e ++ Aic l)
theorem Abu {α : Type} {l : List α} {f : α -> List Int} (h : ∀ x ∈ l, I6 (f x)) : I6 (l.flatMap f) := fun y hy => by
 obtain ⟨x, hx, hxy⟩ := List.mem_flatMap.1 hy
 exact h x hx y hxy
theorem Ac5 {α : Type} {f : α -> List Int} {n : Nat} : ∀ {l : List α}, (∀ x ∈ l, (f x).length <= n) -> (l.flatMap f).length <= l.length * n
 | [], _ => by simp
 | a :: l, h => by
  have h1 := h a (List.mem_cons_self ..)
  have h2 := Ac5 (l := l) (f := f) (n := n) fun x hx => h x (List.mem_cons_of_mem _ hx)
  rw [List.flatMap_cons, List.length_append, List.length_cons, Nat.add_mul]; omega
def rowsG (l : List (Int × Int)) : Prop := ∀ r ∈ l, Oz r.1 /\ 0 <= r.2 /\ r.2 <= 1000
theorem Asj.rowsG {l : List (Int × Int)} (h : Asj l) : rowsG l := fun r hr => by
 obtain ⟨i, hi, rfl⟩ := List.getElem_of_mem hr
 have e : Af l (i : Int) = l[i] := by simp [Af, gd, hi]
 have h1 := h.day i hi
 have h2 := h.off i hi
 rw [e] at h1 h2
 exact ⟨h1, h2⟩
theorem Ao7 {l : List (Int × Int)} (h : rowsG l) : (Aic l).length <= l.length * 40 := by
 refine Ac5 fun r hr => ?_
 obtain ⟨h1, h2⟩ := h r hr
 unfold Oz at h1
 have := Ji (Ah0 r) (by unfold Ah0; omega)
 have := Ji r.2 (by omega)
 rw [List.length_append]; omega
theorem A33 {l : List (Int × Int)} {i : Nat} (hi : i < l.length) : Af l (i : Int) = l[i] := by simp [Af, gd, hi]
theorem Ayg (l : List (Int × Int)) (hg : rowsG l) (hl : l.length <= 256) (z : T20) (o : List Int) (ho : o.length <= 1000) (hok : I6 o) : ∀ (k i : Nat), i + k = l.length ->
  Evn (fun f => (Dy f).1 ((z, ((none, ()), (o ++ Aic (l.take i), (l, ())))), ((), ((), ((), (((l.length : Int), ()), (((i : Int), ()), ()))))))) ((), (t20 (b20 (Ar8 (o ++ Aic l))), ((none, ()), ()))) := by
 have hrl := Ao7 hg
 intro k
 induction k with
 | zero =>
  intro i hi
  refine Evn.some 1 fun f => ?_
  have hs := A5w (o ++ Aic l) (by rw [List.length_append]; omega) (Ip hok (Abu fun x _ => Ip (Uy _) (Uy _)))
  rw [List.take_of_length_le (by omega)]
  simp only [Um, Hw, hs, Option.bind_some, Option.isNone_none, Bool.not_true, cond_false, Ac]
  rw [if_neg (by omega)]
 | succ k ih =>
  intro i hi
  have hlt : i < l.length := by omega
  refine (ih (i + 1) (by omega)).step fun f => ?_
  obtain ⟨h1, h2⟩ := hg _ (List.getElem_mem hlt)
  have hti := Ao7 (l := l.take i) fun r hr => hg r (List.mem_of_mem_take hr)
  rw [List.length_take] at hti
  have hw := A3s (o ++ Aic (l.take i)) [] [] l[i] h1 h2 (by rw [List.length_append]; omega) Agq (by decide) Agq (by decide)
  have e : Aic (l.take (i + 1)) = Aic (l.take i) ++ (Rf (Ah0 l[i]) ++ Rf l[i].2) := by
   unfold Aic
   rw [List.take_add_one, List.getElem?_eq_getElem hlt, List.flatMap_append]
   simp
  simp only [List.append_nil] at hw
  simp only [Um, Hw, Ac, Ci, A33 hlt, Zo, hw, Option.bind_some]
  rw [if_pos (by omega), if_pos (by omega), A9 (by omega), List.append_assoc, <- e]; rfl
theorem A29 (T : Jd) (l : List (Int × Int)) (u e : Int) : Lm T ((), ((some (l, (u, e)), ()), ())) =
  ((Dh ((), ((some (l, (u, e)), ()), ()))).bind fun x2 =>
  (Aq ((((none : Option Int), ()), (([] : List Int), ())), ((), (x2.2.1, (((⟨#[]⟩ : ByteArray), ()), ()))))).bind fun x3 =>
  (Dg ((), ((some (l, (u, e)), ()), ()))).bind fun x4 =>
  (Aq (x3.1, ((), (x4.2.1, (((⟨#[]⟩ : ByteArray), ()), ()))))).bind fun x5 =>
  (Es ((), ((some (l, (u, e)), ()), ()))).bind fun x6 =>
  T.1 ((t20 [], (x5.1.1, (x5.1.2.1, x6.1))), ((), ((), ((), (((x6.1.1.length : Int), ()), (((0 : Int), ()), ()))))))) := by kernel_rfl
theorem Aqe (l : List (Int × Int)) (hl : l.length <= 1000) (u e : Int) : Dh ((), ((some (l, (u, e)), ()), ())) = some ((), ((u, ()), ())) /\ Dg ((), ((some (l, (u, e)), ()), ())) = some ((), ((e, ()), ())) /\
  Es ((), ((some (l, (u, e)), ()), ())) = some ((l, ()), ((), ())) := by
 refine ⟨?_, ?_, ?_⟩
 ·simp only [Dh, No, Ag, Option.bind_some, Option.isNone_none, Option.isNone_some, Option.isSome_none, Option.isSome_some, Bool.not_true, Bool.not_false, cond_true, cond_false, Ac, Ap, Ar, Ao]
 ·simp only [Dg, Nn, Ag, Option.bind_some, Option.isNone_none, Option.isNone_some, Option.isSome_none, Option.isSome_some, Bool.not_true, Bool.not_false, cond_true, cond_false, Ac, Ap, Ar, Ao]
 ·simp only [Es, Q6, H4, Q5, Als l hl, Ag, Option.bind_some, Option.isNone_none, Option.isNone_some, Option.isSome_none, Option.isSome_some, Bool.not_true, Bool.not_false, cond_true, cond_false, Ac, Ap, Ar, Ao]
theorem Alg (l : List (Int × Int)) (hg : rowsG l) (hl : l.length <= 256) (u e : Int) (hu : Ih u) (he : Ih e) : Fv ((), ((some (l, (u, e)), ()), ())) = some ((), (t20 (b20 (Ar8 (dgB l u e))), ((none, ()), ()))) := by
 obtain ⟨q1, q2, q3⟩ := Aqe l (by omega) u e
 unfold Ih at hu he
 have l1 := Ji u (by omega)
 have l2 := Ji e (by omega)
 have p1 := Alq [] [] u (by omega) (by decide) Agq (by decide)
 have p2 := Alq (Rf u) [] e (by omega) (by omega) Agq (by decide)
 simp only [List.append_nil, List.nil_append] at p1 p2
 have h := Ayg l hg hl (t20 []) (Rf u ++ Rf e) (by rw [List.length_append]; omega) (Ip (Uy u) (Uy e)) l.length 0 (Nat.zero_add _)
 have ed : dgB l u e = (Rf u ++ Rf e) ++ Aic l := by unfold dgB; rw [List.append_assoc]
 rw [ed]
 refine (h.cast fun f => ?_).lim
 rw [A29]
 simp only [q1, q2, q3, Zo, p1, p2, Option.bind_some, List.take_zero]
 rw [show Aic [] = [] from rfl, List.append_nil]; rfl
def w5o (w : Int × (Int × (Int × (Int × Int)))) : W5 := (w.1, (w.2.1, (w.2.2.1, (w.2.2.2.1, (w.2.2.2.2, ())))))
def RS.ok (r : RS) : Prop := ∀ w, r.dg = some w -> w5R (w5o w)
theorem A57 (n : Nat) (x : X) : 0 <= (wdY n x).2 /\ (wdY n x).2 < 4294967296 := by
 unfold wdY
 split
 ·simp
 ·rename_i c
  have hl := Adw hxL x.rest
  have hm : ∀ q ∈ x.rest.take (Do hxL x.rest), q ∈ hxL := Ay1
  have h := Adi (Do hxL x.rest) ((x.rest.take (Do hxL x.rest)).map At5) (by rw [List.length_map, List.length_take]; omega) (fun q hq => by
   obtain ⟨y, hy, rfl⟩ := List.mem_map.1 hq
   exact (Asu y (hm y hy)).1)
  rw [Auf hm] at h
  have : (16 : Int) ^ (Do hxL x.rest) <= 16 ^ 8 := by
   have : 16 ^ (Do hxL x.rest) <= 16 ^ 8 := Nat.pow_le_pow_right (by omega) (by omega)
   exact_mod_cast this
  exact ⟨h.1, by omega⟩
theorem Auo (n : Nat) : ∀ (k : Nat) (x : X), (Ph n k x).2.length = k /\ ∀ v ∈ (Ph n k x).2, 0 <= v /\ v < 4294967296
 | 0, x => ⟨rfl, fun v hv => by cases hv⟩
 | k + 1, x => by
  have ih := Auo n k (wdY n (To n x)).1
  refine ⟨by show (_ :: _).length = _; rw [List.length_cons, ih.1], fun v hv => ?_⟩
  rcases List.mem_cons.1 hv with rfl | hv
  ·exact A57 n _
  ·exact ih.2 v hv
theorem A7b {l : List Int} (h : l.length = 5) (hv : ∀ v ∈ l, 0 <= v /\ v < 4294967296) : w5R (w5o (A7p l)) := by
 match l, h with
 | [a, b, c, d, e], _ =>
  simp only [List.mem_cons, List.not_mem_nil, or_false, forall_eq_or_imp, forall_eq] at hv
  exact ⟨hv.1, hv.2.1, hv.2.2.1, hv.2.2.2.1, hv.2.2.2.2⟩
theorem At3 {r : RS} (h : r.ok) (l : List Int) : (Nk r l).1.ok := by
 unfold Nk
 split
 ·exact h
 split
 ·split
  ·exact h
  ·split
   ·exact h
   ·exact h
 split
 ·split
  ·exact h
  ·split
   ·exact h
   ·exact h
 split
 ·unfold Atf
  split
  ·exact h
  ·split
   ·exact h
   ·intro w hw
    simp only [Option.some.injEq] at hw
    subst hw
    have := Auo (l.drop 2).length 5 (.good (l.drop 2))
    exact A7b this.1 this.2
 split
 ·exact h
 ·exact h
theorem Avn : ∀ {L : List (List Int)} {r : RS} {i : Nat}, r.ok -> (Ab9 r i L).1.ok
 | [], r, i, h => h
 | l :: L, r, i, h => by
  unfold Ab9
  split
  ·exact At3 h l
  ·exact Avn (At3 h l)
theorem A1z (l : List Int) : (Oj l).1.ok := by
 unfold Oj
 split
 ·intro w hw; cases hw
 ·exact Avn (fun w hw => by cases hw)
abbrev Tb3 : Type := List (Int × Int) × (Int × Int)
noncomputable def Wb (l : List Int) : Option Tb3 × Option Int :=
 match (Oj l).2.2 with
 | some c => (none, some c)
 | none => match (Oj l).1.up, (Oj l).1.ex with
  | some u, some e =>
   if Asd (Oj l).1.rows u e = 0 then (match (Oj l).1.dg with
    | some w => if b20 (w5o w) = b20 (Ar8 (dgB (Oj l).1.rows u e)) then (some ((Oj l).1.rows, (u, e)), none) else (none, some 7)
    | none => (some ((Oj l).1.rows, (u, e)), none))
   else (none, Anl (Asd (Oj l).1.rows u e))
  | _, _ => (none, some 2)
theorem Aez (c : Int) : (Anl c).isNone = decide (c = 0) := by
 unfold Anl
 by_cases h : c = 0 <;> simp [h]
theorem A49 (T : Unit) (d : Unit × ((ByteArray × Unit) × Unit)) : Mc T d =
  (Cq ((⟨none, none, none, []⟩ : RS).t, ((), d.2))).bind fun x1 =>
  bif (!x1.2.2.1.1.isNone) then some ((), ((none, ()), (x1.2.2.1, ())))
  else bif x1.1.1.1.isNone then some ((), ((none, ()), ((some 2, ()), ())))
  else bif x1.1.1.2.1.isNone then some ((), ((none, ()), ((some 2, ()), ())))
  else x1.1.1.1.bind fun x5 => x1.1.1.2.1.bind fun x6 =>
  (Nq ((), (x1.1.2, ((x5, ()), ((x6, ()), ()))))).bind fun x7 =>
  bif (!x7.2.2.1.1.isNone) then some ((), ((none, ()), x7.2.2))
  else (Fv ((), (x7.2.1, ()))).bind fun x9 =>
  bif (!x9.2.2.1.1.isNone) then some ((), ((none, ()), x9.2.2))
  else bif (!x1.1.1.2.2.1.isNone) then (x1.1.1.2.2.1.bind fun x12 =>
   (Jy ((), (w5o x12, ()))).bind fun x13 =>
   bif (!(A8m x13.2.1 x9.2.1)) then some ((), ((none, ()), ((some 7, ()), ())))
   else some ((), (x7.2.1, ((none, ()), ()))))
  else some ((), (x7.2.1, ((none, ()), ()))) := by kernel_rfl
theorem Ag0 (l : List Int) (hl : I6 l) : Fe ((), ((As l, ()), ())) = some ((), (((Wb l).1, ()), (((Wb l).2, ()), ()))) := by
 have hr := Au6 l hl
 have hok := A1z l
 show Mc () _ = _
 rw [A49]
 unfold Wb
 generalize Oj l = q at *
 obtain ⟨⟨up, ex, dg, rows⟩, at_, er⟩ := q
 simp only [RS.t] at hr ⊢
 simp only [hr, Option.bind_some]
 cases er with
 | some c => rfl
 | none =>
  cases up with
  | none => rfl
  | some u =>
   cases ex with
   | none => rfl
   | some e =>
    simp only [Option.isNone_none, Option.isNone_some, Bool.not_true, cond_false, Option.bind_some, Avg, Aez, Ao, Ac]
    by_cases ht : Asd rows u e = 0
    ·obtain ⟨g1, g2, g3⟩ := Ami ht
     have hd := Alg rows g1.rowsG g1.len.2 u e g2 g3
     rw [if_neg (not_not_intro ht), if_pos ht, if_pos ht]
     simp only [hd, Option.bind_some, Option.isNone_none, Bool.not_true, cond_false]
     cases dg with
     | none => simp [ht, Anl]
     | some w =>
      have hw : w5R (w5o w) := hok w rfl
      simp only [Option.isNone_some, Bool.not_false, cond_true, Option.bind_some, Avm _ hw, A2w (Aii _) (Aii _), Ao, Ac]
      by_cases hb : b20 (w5o w) = b20 (Ar8 (dgB rows u e))
      ·rw [if_neg (not_not_intro hb), if_pos hb]
      ·rw [if_pos hb, if_neg hb]
    ·rw [if_pos ht, if_neg ht]
def Ae9 (a b : List (Int × Int)) : Prop := a.length = b.length /\ ∀ i : Nat, i < a.length -> (Af a i).1 = (Af b i).1 /\ (Af a i).2 = (Af b i).2
noncomputable instance (a b : List (Int × Int)) : Decidable (Ae9 a b) := Classical.propDecidable _
theorem A1u {a b : List (Int × Int)} (hl : a.length = b.length) (ha : a.length <= 300) : ∀ (k i : Nat), i + k = a.length -> (∀ j : Nat, j < i -> (Af a j).1 = (Af b j).1 /\ (Af a j).2 = (Af b j).2) ->
  Evn (fun j => (A4 j).1 ((), ((a, ()), ((b, ()), (((a.length : Int), ()), (((i : Int), ()), ())))))) ((), ((decide (Ae9 a b), ()), ())) := by
 intro k; induction k with
 | zero =>
  intro i h hp
  rw [decide_eq_true (show Ae9 a b from ⟨hl, fun j hj => hp j (by omega)⟩)]
  refine Evn.some 1 fun j => ?_
  simp only [Ek, Bp, Ag, Option.bind_some, Option.isNone_none, Option.isNone_some, Option.isSome_none, Option.isSome_some, Bool.not_true, Bool.not_false, cond_true, cond_false, Ac, Ap, Ar, Ao]
  rw [if_neg (by omega)]
 | succ k ih =>
  intro i h hp
  by_cases c : (Af a i).1 = (Af b i).1 /\ (Af a i).2 = (Af b i).2
  ·refine (ih (i + 1) (by omega) (fun j hj => by
    by_cases e : j = i
    ·subst e; exact c
    ·exact hp j (by omega))).step fun j => ?_
   simp only [Ek, Bp, Ag, Option.bind_some, Option.isNone_none, Option.isNone_some, Option.isSome_none, Option.isSome_some, Bool.not_true, Bool.not_false, cond_true, cond_false, Ac, Ap, Ar, Ao, Ci, Bool.and_true]
   rw [if_pos (by omega), if_pos (by omega), if_pos (by omega), if_neg (not_not_intro c), A9 (by omega)]; rfl
  ·rw [decide_eq_false (show ¬ Ae9 a b from fun hh => c (hh.2 i (by omega)))]
   refine Evn.some 1 fun j => ?_
   simp only [Ek, Bp, Ag, Option.bind_some, Option.isNone_none, Option.isNone_some, Option.isSome_none, Option.isSome_some, Bool.not_true, Bool.not_false, cond_true, cond_false, Ac, Ap, Ar, Ao, Ci, Bool.and_true]
   rw [if_pos (by omega), if_pos (by omega), if_pos (by omega), if_pos c]
theorem Awn (a b : List (Int × Int)) (ha : a.length <= 300) (hb : b.length <= 300) : C6 ((), ((a, ()), ((b, ()), ()))) = some ((), ((decide (Ae9 a b), ()), ())) := by
 by_cases hl : a.length = b.length
 ·refine ((A1u hl ha a.length 0 (by omega) (fun j hj => by omega)).cast fun k => ?_).lim
  simp only [Co, Ag, Option.bind_some, Option.isNone_none, Option.isNone_some, Option.isSome_none, Option.isSome_some, Bool.not_true, Bool.not_false, cond_true, cond_false, Ac, Ap, Ar, Ao]
  rw [if_neg (by omega)]; rfl
 ·rw [decide_eq_false (show ¬ Ae9 a b from fun hh => hl hh.1)]
  refine (Evn.some 0 fun k => ?_).lim
  simp only [Co, Ag, Option.bind_some, Option.isNone_none, Option.isNone_some, Option.isSome_none, Option.isSome_some, Bool.not_true, Bool.not_false, cond_true, cond_false, Ac, Ap, Ar, Ao]
  rw [if_pos (by omega)]
theorem Ay8 (a b : List (Int × Int)) (u e u' e' : Int) (ha : a.length <= 300) (hb : b.length <= 300) : Nv ((), ((some (a, (u, e)), ()), ((some (b, (u', e')), ()), ()))) = some ((), ((decide (u = u' /\ e = e' /\ Ae9 a b), ()), ())) := by
 simp only [Nv, Acv, Ag, Option.bind_some, Option.isNone_none, Option.isNone_some, Option.isSome_none, Option.isSome_some, Bool.not_true, Bool.not_false, cond_true, cond_false, Ac, Ap, Ar, Ao, Awn a b ha hb]
 by_cases c1 : u = u' <;> by_cases c2 : e = e' <;> simp [c1, c2]
def P0 : List Int -> List Int -> List (List Int)
 | cur, [] => if cur = [] then [] else [cur]
 | cur, x :: l => if x = 10 then cur :: P0 [] l else P0 (cur ++ [x]) l
theorem A1c (x y : Int) (t : List Int) : Aor (x :: y :: t) = x :: Aor (y :: t) := by
 unfold Aor
 rw [List.getLast?_cons_cons]
 split <;> simp
theorem Ady : ∀ (l cur : List Int), l ≠ [] -> Ny cur (Aor l) = P0 cur l
 | [], _, h => absurd rfl h
 | [x], cur, _ => by
  by_cases c : x = 10
  ·subst c
   rw [show Aor [10] = [] from rfl, Ny, P0, if_pos rfl, P0, if_pos rfl]
  ·rw [show Aor [x] = [x] by unfold Aor; rw [if_neg (by simpa using c)], Ny, if_neg c, Ny, P0, if_neg c, P0, if_neg (by simp)]
 | x :: y :: t, cur, _ => by
  rw [A1c, Ny, P0, Ady (y :: t) [] (by simp), Ady (y :: t) (cur ++ [x]) (by simp)]
theorem Awd (p cur l : List Int) (h : 10 ∉ p) : P0 cur (p ++ 10 :: l) = (cur ++ p) :: P0 [] l := by
 induction p generalizing cur with
 | nil => rw [List.nil_append, P0, if_pos rfl, List.append_nil]
 | cons a p ih =>
  rw [List.cons_append, P0, if_neg (fun e => h (by rw [e]; simp)), ih _ (fun q => h (by simp [q])), List.append_assoc]; rfl
theorem Aim : ∀ (L : List (List Int)), (∀ x ∈ L, 10 ∉ x) -> P0 [] (L.flatMap (· ++ [10])) = L
 | [], _ => rfl
 | p :: L, h => by
  rw [List.flatMap_cons, List.append_assoc, List.singleton_append, Awd _ _ _ (h p (List.mem_cons_self ..)), List.nil_append, Aim L fun x hx => h x (List.mem_cons_of_mem _ hx)]
def evF (r : RS) : List (List Int) -> RS × Option Int
 | [] => (r, none)
 | l :: rest => match (Nk r l).2 with
  | some c => ((Nk r l).1, some c)
  | none => evF (Nk r l).1 rest
theorem Aod : ∀ (L : List (List Int)) (r : RS) (i : Nat), (Ab9 r i L).1 = (evF r L).1 /\ (Ab9 r i L).2.2 = (evF r L).2
 | [], r, i => ⟨rfl, rfl⟩
 | l :: L, r, i => by
  unfold Ab9 evF
  cases h : (Nk r l).2 with
  | some c => exact ⟨rfl, rfl⟩
  | none => exact Aod L (Nk r l).1 (i + 1)
theorem A3b (r : RS) : Nk r [] = (r, none) := by
 unfold Nk
 rw [if_pos (by intro x hx; cases hx)]
theorem A12 (l : List Int) (hl : l.length <= 65535) : (Oj l).1 = (evF ⟨none, none, none, []⟩ (P0 [] l)).1 /\ (Oj l).2.2 = (evF ⟨none, none, none, []⟩ (P0 [] l)).2 := by
 unfold Oj
 rw [if_neg (by omega)]
 by_cases c : l = []
 ·subst c
  rw [show Aor [] = [] from rfl, Ny, P0, if_pos rfl]
  have := Aod [[]] ⟨none, none, none, []⟩ 0
  rw [this.1, this.2]
  unfold evF
  rw [A3b]
  exact ⟨rfl, rfl⟩
 ·rw [Ady l [] c]
  exact Aod _ _ _
theorem Atk {l : List Int} {t : Tb3} (h : (Wb l).1 = some t) : (Wb l).2 = none /\ Asd t.1 t.2.1 t.2.2 = 0 := by
 unfold Wb at h ⊢
 split at h
 ·cases h
 ·split at h
  ·split at h
   ·rename_i ht
    split at h
    ·split at h
     ·simp only [Option.some.injEq] at h
      subst h
      rename_i u e hu he w hw hb
      rw [if_pos ht]
      simp only [hw, hb, if_true]
      exact ⟨trivial, ht⟩
     ·cases h
    ·simp only [Option.some.injEq] at h
     subst h
     rename_i u e hu he hw
     rw [if_pos ht]
     simp only [hw]
     exact ⟨trivial, ht⟩
   ·cases h
  ·cases h
theorem Asq (l : List (Int × Int)) : Ae9 l l := ⟨rfl, fun i hi => ⟨rfl, rfl⟩⟩
theorem A2t : Asd [(730, 10)] 5 9 = 0 := by
 have h0 : Af [(730, 10)] ((0 : Nat) : Int) = (730, 10) := rfl
 have hu : ¬ Si [(730, 10)] := by
  rintro ⟨i, hi, hh⟩
  match i, hi with
  | 0, _ => rw [h0] at hh; exact hh (by unfold Oz; decide)
 have hw : ¬ R7 [(730, 10)] := by
  rintro ⟨i, hi, hh⟩
  match i, hi with
  | 0, _ => rw [h0] at hh; exact hh ⟨A07, by decide, by decide⟩
 have hr : Ad9 [(730, 10)] := by
  intro i hi
  simp at hi
 unfold Asd
 rw [if_neg (by decide), if_neg (by decide), if_neg hu, if_neg, if_neg (not_not_intro hr)]
 rintro (h | h | h)
 ·exact hw h
 ·exact h (by unfold Ih; decide)
 ·exact h (by unfold Ih; decide)
def A1b : List Int := [35, 36, 32, 53, 10, 35, 64, 32, 57, 10, 50, 50, 55, 50, 48, 54, 48, 56, 48, 48, 9, 49, 48, 10]
theorem Ax5 : Oj A1b = (⟨some 5, some 9, none, [(730, 10)]⟩, (0, none)) := by kernel_rfl
theorem Axg : Wb A1b = (some ([(730, 10)], (5, 9)), none) := by
 unfold Wb
 rw [Ax5]
 simp only
 rw [A2t, if_pos rfl]
theorem Aw8 : Mw ((), ()) = some ((), ((true, ()), ())) := by
 have h := Ag0 A1b (by unfold I6 A1b; decide)
 rw [Axg, show As A1b = (⟨#[35, 36, 32, 53, 10, 35, 64, 32, 57, 10, 50, 50, 55, 50, 48, 54, 48, 56, 48, 48, 9, 49, 48, 10]⟩ : ByteArray) by kernel_rfl] at h
 have hr : K9 ((), ((some ([(730, 10)], (5, 9)), ()), ((0, ()), ()))) = some ((), ((730, (10, ())), ((true, ()), ()))) := by kernel_rfl
 simp only [Mw, Xd, h, hr, Option.bind_some, Option.isNone_none, Option.isNone_some, Bool.not_true, cond_false, cond_true, beq_self_eq_true]
def B3 : List Int -> List Int -> List (List Int)
 | cur, [] => if cur = [] then [] else [cur]
 | cur, x :: l => if x ∈ gL then (if cur = [] then B3 [] l else cur :: B3 [] l) else B3 (cur ++ [x]) l
def Ic : Bool -> List Int -> List Int -> List (List Int)
 | _, cur, [] => if cur = [] then [] else [cur]
 | p, cur, x :: l => if x = 35 /\ p = true then (if cur = [] then [] else [cur]) else
  if x ∈ gL then (if cur = [] then Ic true [] l else cur :: Ic true [] l) else Ic false (cur ++ [x]) l
def Ar6 (p : Int) : List Int -> List Int
 | [] => []
 | x :: l => if x = 35 /\ p ∈ gL then [] else x :: Ar6 x l
def Kq : List Int -> Nat
 | [] => 0
 | x :: l => if x ∈ gL then 0 else Kq l + 1
def Aju (l : List Int) : Prop := 0 < Do gL l
instance (l : List Int) : Decidable (Aju l) := by unfold Aju; infer_instance
theorem Amh : ∀ l : List Int, Kq l <= l.length
 | [] => Nat.le_refl _
 | x :: l => by
  unfold Kq
  have := Amh l
  split <;> simp only [List.length_cons] <;> omega
theorem Aa3 : ∀ (l cur : List Int) (p : Int), B3 cur (Ar6 p l) = Ic (decide (p ∈ gL)) cur l
 | [], cur, p => by unfold Ar6 B3 Ic; rfl
 | x :: l, cur, p => by
  unfold Ar6 Ic
  simp only [decide_eq_true_eq]
  by_cases c : x = 35 /\ p ∈ gL
  ·rw [if_pos c, if_pos c, B3]
  ·rw [if_neg c, if_neg c, B3]
   by_cases g : x ∈ gL
   ·rw [if_pos g, if_pos g, Aa3 l [] x, decide_eq_true g]
   ·rw [if_neg g, if_neg g, Aa3 l _ x, decide_eq_false g]
theorem Ag9 : ∀ l : List Int, B3 [] l = B3 [] (l.drop (Do gL l))
 | [] => rfl
 | x :: l => by
  unfold Do
  by_cases g : x ∈ gL
  ·rw [if_pos g, List.drop_succ_cons, B3, if_pos g, if_pos rfl, Ag9 l]
  ·rw [if_neg g, List.drop_zero]
theorem Aqa : ∀ (l cur : List Int), cur ≠ [] -> B3 cur l = (cur ++ l.take (Kq l)) :: B3 [] (l.drop (Kq l))
 | [], cur, h => by rw [B3, if_neg h]; simp [Kq, B3]
 | x :: l, cur, h => by
  unfold Kq
  by_cases g : x ∈ gL
  ·rw [if_pos g, B3, if_pos g, if_neg h, List.take_zero, List.append_nil, List.drop_zero, B3, if_pos g, if_pos rfl]
  ·rw [if_neg g, B3, if_neg g, Aqa l _ (by simp), List.take_succ_cons, List.drop_succ_cons, List.append_assoc]; rfl
theorem Ajt {c : Int} {t : List Int} (h : c ∉ gL) : B3 [] (c :: t) = (c :: t).take (Kq (c :: t)) :: B3 [] ((c :: t).drop (Kq (c :: t))) := by
 unfold Kq
 rw [if_neg h, B3, if_neg h, Aqa t _ (by simp)]; rfl
theorem Ack : ∀ l : List Int, B3 [] l = [] ↔ l.drop (Do gL l) = []
 | [] => by simp [B3]
 | x :: l => by
  unfold Do
  by_cases g : x ∈ gL
  ·rw [if_pos g, List.drop_succ_cons, B3, if_pos g, if_pos rfl, Ack l]
  ·rw [if_neg g, List.drop_zero, Ajt g]; simp
theorem Yn : ∀ (l : List Int) (b : Bool), (l.head? = some 35 -> b = false) -> Ic b [] l = Ic (b || decide (Aju l)) [] (l.drop (Do gL l))
 | [], b, _ => by simp [Do, Ic]
 | x :: l, b, hb => by
  unfold Aju Do
  by_cases g : x ∈ gL
  ·rw [if_pos g, List.drop_succ_cons, Ic, if_neg (by rintro ⟨rfl, -⟩; revert g; decide), if_pos g, if_pos rfl]
   by_cases h : l.head? = some 35
   ·have : Do gL l = 0 := by
     cases l with
     | nil => cases h
     | cons a t =>
      simp only [List.head?_cons, Option.some.injEq] at h
      subst h
      unfold Do
      rw [if_neg (by decide)]
    rw [this, List.drop_zero]; simp
   ·rw [Yn l true (fun q => absurd q h)]; simp
  ·rw [if_neg g, List.drop_zero]; simp
theorem Alz : ∀ (l cur : List Int), cur ≠ [] -> Ic false cur l = (cur ++ l.take (Kq l)) :: Ic false [] (l.drop (Kq l))
 | [], cur, h => by rw [Ic, if_neg h]; simp [Kq, Ic]
 | x :: l, cur, h => by
  unfold Kq
  rw [Ic, if_neg (by simp)]
  by_cases g : x ∈ gL
  ·rw [if_pos g, if_pos g, if_neg h, List.take_zero, List.append_nil, List.drop_zero, Ic, if_neg (by simp), if_pos g, if_pos rfl]
  ·rw [if_neg g, if_neg g, Alz l _ (by simp), List.take_succ_cons, List.drop_succ_cons, List.append_assoc]; rfl
theorem Zd {c : Int} {t : List Int} {b : Bool} (h : c ∉ gL) (hb : c = 35 -> b = false) : Ic b [] (c :: t) = (c :: t).take (Kq (c :: t)) :: Ic false [] ((c :: t).drop (Kq (c :: t))) := by
 unfold Kq
 rw [Ic, if_neg (by rintro ⟨q, r⟩; rw [hb q] at r; cases r), if_neg h, if_neg h, Alz t _ (by simp)]; rfl
theorem Zb : ∀ l : List Int, l.drop (Do gL l) = [] \/ ∃ c t, l.drop (Do gL l) = c :: t /\ c ∉ gL
 | [] => .inl rfl
 | x :: l => by
  unfold Do
  by_cases g : x ∈ gL
  ·rw [if_pos g, List.drop_succ_cons]; exact Zb l
  ·rw [if_neg g, List.drop_zero]; exact .inr ⟨x, l, rfl, g⟩
theorem Agi : ∀ l : List Int, l.drop (Kq l) = [] \/ Aju (l.drop (Kq l))
 | [] => .inl rfl
 | x :: l => by
  unfold Kq
  by_cases g : x ∈ gL
  ·rw [if_pos g, List.drop_zero]; refine .inr ?_; unfold Aju Do; rw [if_pos g]; omega
  ·rw [if_neg g, List.drop_succ_cons]; exact Agi l
theorem Aui : ∀ (l : List Int), ∀ x ∈ l.take (Kq l), x ∉ gL
 | [], x, h => by simp at h
 | y :: l, x, h => by
  unfold Kq at h
  by_cases g : y ∈ gL
  ·rw [if_pos g] at h; simp at h
  ·rw [if_neg g, List.take_succ_cons] at h
   rcases List.mem_cons.1 h with rfl | h
   ·exact g
   ·exact Aui l x h
def stuck : X -> Prop
 | .good r => ∃ c t, r = c :: t /\ c ∉ gL
 | .bad _ c => c = 2
theorem Aby {z : X} (h : stuck z) : Do gL z.rest = 0 := by
 cases z with
 | bad i c => rfl
 | good r =>
  obtain ⟨c, t, rfl, g⟩ := h
  show Do gL (c :: t) = 0
  unfold Do
  rw [if_neg g]
theorem Aqp {z : X} (n : Nat) (h : stuck z) : ∃ i, To n z = .bad i 2 := by
 unfold To
 rw [if_pos (Aby h)]
 cases z with
 | bad i c => exact ⟨i, by unfold stuck at h; rw [h]; rfl⟩
 | good r => exact ⟨_, rfl⟩
theorem Ac1 {z : X} (h : stuck z) : Aff z = some 2 := by
 unfold Aff
 rw [Aby h, Yf]
 cases z with
 | bad i c => unfold stuck at h; rw [h]; rfl
 | good r =>
  obtain ⟨c, t, rfl, g⟩ := h
  rfl
theorem Al9 (n i : Nat) : ∃ j, (wdY n (.bad i 2)).1 = .bad j 2 := by
 unfold wdY
 rw [if_pos (.inl rfl)]
 exact ⟨i, rfl⟩
theorem Ada (n : Nat) : ∀ (k : Nat) (z : X), stuck z -> stuck (Ph n k z).1
 | 0, z, h => h
 | k + 1, z, h => by
  obtain ⟨i, hi⟩ := Aqp n h
  obtain ⟨j, hj⟩ := Al9 n i
  unfold Ph
  rw [hi, hj]
  exact Ada n k _ rfl
theorem Zc {z : X} (h : stuck z) : (Wq z).end = some 2 := by
 unfold Wq
 rw [if_pos (Aby h)]
 have := Ac1 h
 unfold Aff at this
 rwa [Aby h, Yf] at this
theorem Aik (n : Nat) (l : List Int) : To n (.good l) = if Aju l then .good (l.drop (Do gL l)) else .bad (n - l.length) 2 := by
 unfold To
 show (if Do gL l = 0 then _ else _) = _
 by_cases c : Do gL l = 0
 ·rw [if_pos c, if_neg (by unfold Aju; omega)]; rfl
 ·rw [if_neg c, if_pos (by unfold Aju; omega)]; rfl
theorem Apu (l : List Int) : Aff (.good l) = if B3 [] l = [] then none else some 2 := by
 unfold Aff
 show (if l.drop (Do gL l) = [] then none else some 2) = _
 by_cases c : B3 [] l = []
 ·rw [if_pos c, if_pos ((Ack l).1 c)]
 ·rw [if_neg c, if_neg (fun q => c ((Ack l).2 q))]
def isN (k : Nat) (w : List Int) : Prop := (∀ c ∈ w, isF c) /\ 1 <= w.length /\ w.length <= k
instance (k : Nat) (w : List Int) : Decidable (isN k w) := by unfold isN; infer_instance
def isH (w : List Int) : Prop := (∀ c ∈ w, c ∈ hxL) /\ 1 <= w.length /\ w.length <= 8
instance (w : List Int) : Decidable (isH w) := by unfold isH; infer_instance
theorem Arr {c : Int} (h : isF c) : c ∉ gL := by
 unfold isF at h
 simp only [gL, List.mem_cons, List.not_mem_nil, or_false]; omega
theorem Ayo : ∀ c ∈ hxL, c ∉ gL := by decide
theorem An0 {S : List Int} (hS : ∀ c ∈ S, c ∉ gL) : ∀ l : List Int, Do S l <= Kq l /\ (Do S l = Kq l ↔ ∀ c ∈ l.take (Kq l), c ∈ S)
 | [] => by simp [Do, Kq]
 | x :: l => by
  have ih := An0 hS l
  unfold Do Kq
  by_cases g : x ∈ gL
  ·rw [if_pos g, if_neg (fun q => hS x q g)]; simp
  ·rw [if_neg g]
   by_cases c : x ∈ S
   ·rw [if_pos c, List.take_succ_cons]
    refine ⟨by omega, ?_⟩
    simp only [List.mem_cons, forall_eq_or_imp, c, true_and]
    rw [<- ih.2]; omega
   ·rw [if_neg c, List.take_succ_cons]
    refine ⟨by omega, ?_⟩
    simp only [List.mem_cons, forall_eq_or_imp, c, false_and, iff_false]; omega
theorem Ar5 (c : Int) : c ∈ A6y ↔ isF c := by
 unfold isF
 simp only [A6y, List.mem_cons, List.not_mem_nil, or_false]; omega
theorem Apv {l : List Int} {m : Nat} (h : m < Kq l) : stuck (.good (l.drop m)) := by
 have hl := Amh l
 have hlt : m < l.length := by omega
 refine ⟨l[m], l.drop (m + 1), List.drop_eq_getElem_cons hlt, Aui l _ ?_⟩
 have : (l.take (Kq l))[m]'(by rw [List.length_take]; omega) = l[m] := List.getElem_take
 rw [<- this]; exact List.getElem_mem _
theorem Ahe (n k : Nat) (l : List Int) : if isN k (l.take (Kq l)) then U4 n 1 k (.good l) = (.good (l.drop (Kq l)), J2 (l.take (Kq l))) else stuck (U4 n 1 k (.good l)).1 := by
 have hl := Amh l
 have hr := An0 (S := A6y) (fun c h => Arr ((Ar5 c).1 h)) l
 rw [Auh] at hr
 have hlen : (l.take (Kq l)).length = Kq l := by rw [List.length_take]; omega
 by_cases c : isN k (l.take (Kq l))
 ·rw [if_pos c]
  obtain ⟨c1, c2, c3⟩ := c
  have e : Oo l = Kq l := hr.2.2 fun x hx => (Ar5 x).2 (c1 x hx)
  rw [hlen] at c2 c3
  simp only [U4]
  rw [e, Nat.min_eq_left c3, if_pos c2]
 ·rw [if_neg c]
  simp only [U4]
  by_cases d : 1 <= min (Oo l) k
  ·rw [if_pos d]
   have : min (Oo l) k < Kq l := by
    rcases Nat.lt_or_ge (min (Oo l) k) (Kq l) with h | h
    ·exact h
    ·exfalso
     have e : Oo l = Kq l := by omega
     exact c ⟨fun x hx => (Ar5 x).1 (hr.2.1 e x hx), by rw [hlen]; omega, by rw [hlen]; omega⟩
   exact Apv this
  ·rw [if_neg d]; rfl
theorem A1r (n : Nat) (l : List Int) : if isH (l.take (Kq l)) then wdY n (.good l) = (.good (l.drop (Kq l)), Aoi (l.take (Kq l))) else stuck (wdY n (.good l)).1 := by
 have hl := Amh l
 have hr := An0 (S := hxL) Ayo l
 have hlen : (l.take (Kq l)).length = Kq l := by rw [List.length_take]; omega
 have hrest : (X.good l).rest = l := rfl
 by_cases c : isH (l.take (Kq l))
 ·rw [if_pos c]
  obtain ⟨c1, c2, c3⟩ := c
  have e : Do hxL l = Kq l := hr.2.2 c1
  rw [hlen] at c2 c3
  unfold wdY
  rw [hrest, e, if_neg (by omega)]; rfl
 ·rw [if_neg c]
  unfold wdY
  rw [hrest]
  by_cases d : Do hxL l = 0 \/ 8 < Do hxL l
  ·rw [if_pos d]; rfl
  ·rw [if_neg d]
   have : Do hxL l < Kq l := by
    rcases Nat.lt_or_ge (Do hxL l) (Kq l) with h | h
    ·exact h
    ·exfalso
     have e : Do hxL l = Kq l := by omega
     exact c ⟨hr.2.1 e, by rw [hlen]; omega, by rw [hlen]; omega⟩
   exact Apv this
def A3j (l : List Int) : Option Int := if Aju l then (match B3 [] l with | [w] => if isN 13 w then some (J2 w) else none | _ => none) else none
theorem Z9 (k : Nat) : ¬ isN k [] := fun h => by have := h.2.1; simp at this
theorem Ask : ¬ isH [] := fun h => by have := h.2.1; simp at this
theorem A0k (l : List Int) : match A3j l with | some v => Afv l = (v, none) | none => (Afv l).2 = some 2 := by
 unfold A3j Afv
 rw [Aik]
 by_cases g : Aju l
 ·rw [if_pos g, if_pos g, Ag9 l]
  have hf := Ahe l.length 13 (l.drop (Do gL l))
  rcases Zb l with h | ⟨c, t, h, hc⟩
  ·rw [h] at hf ⊢
   rw [if_neg (show ¬ isN 13 (List.take (Kq []) []) from Z9 13)] at hf
   exact Ac1 hf
  ·rw [h] at hf ⊢
   rw [Ajt hc]
   by_cases d : isN 13 ((c :: t).take (Kq (c :: t)))
   ·rw [if_pos d] at hf
    rw [hf]
    simp only [Apu]
    cases hw : B3 [] ((c :: t).drop (Kq (c :: t))) with
    | nil => simp only [d, if_true]
    | cons a b => simp only [if_neg (List.cons_ne_nil a b)]
   ·rw [if_neg d] at hf
    have := Ac1 hf
    cases hw : B3 [] ((c :: t).drop (Kq (c :: t))) with
    | nil => simp only [d, if_false]; exact this
    | cons a b => exact this
 ·rw [if_neg g, if_neg g]; rfl
def Axe (k : Nat) (l : List Int) : Prop := k <= (B3 [] l).length /\ (∀ w ∈ (B3 [] l).take k, isH w) /\ (k ≠ 0 -> Aju l)
instance (k : Nat) (l : List Int) : Decidable (Axe k l) := by unfold Axe; infer_instance
theorem Azp {k : Nat} {l : List Int} (h : l = [] \/ Aju l) : Axe k l ↔ k <= (B3 [] l).length /\ (∀ w ∈ (B3 [] l).take k, isH w) := by
 unfold Axe
 constructor
 ·rintro ⟨a, b, _⟩; exact ⟨a, b⟩
 ·rintro ⟨a, b⟩
  refine ⟨a, b, fun hk => ?_⟩
  rcases h with rfl | h
  ·simp [B3] at a; exact absurd a hk
  ·exact h
theorem Atv (n : Nat) : ∀ (k : Nat) (l : List Int), if Axe k l then (∃ r, Ph n k (.good l) = (.good r, ((B3 [] l).take k).map Aoi) /\ B3 [] r = (B3 [] l).drop k) else stuck (Ph n k (.good l)).1
 | 0, l => by
  rw [if_pos ⟨Nat.zero_le _, by simp, by simp⟩]
  exact ⟨l, by simp [Ph], by simp⟩
 | k + 1, l => by
  unfold Ph
  rw [Aik]
  by_cases g : Aju l
  ·rw [if_pos g]
   have hw := A1r n (l.drop (Do gL l))
   rcases Zb l with h | ⟨c, t, h, hc⟩
   ·rw [h] at hw ⊢
    rw [if_neg (show ¬ isH (List.take (Kq []) []) from Ask)] at hw
    rw [if_neg (fun q : Axe (k + 1) l => by
     have := q.1
     rw [(Ack l).2 h] at this
     simp at this)]
    exact Ada n k _ hw
   ·have e : B3 [] l = (c :: t).take (Kq (c :: t)) :: B3 [] ((c :: t).drop (Kq (c :: t))) := by rw [Ag9 l, h, Ajt hc]
    have hr := Agi (c :: t)
    rw [h] at hw ⊢
    generalize (c :: t).take (Kq (c :: t)) = w at *
    generalize (c :: t).drop (Kq (c :: t)) = r at *
    have ih := Atv n k r
    by_cases d : isH w
    ·rw [if_pos d] at hw
     rw [hw]
     have hiff : Axe (k + 1) l ↔ Axe k r := by
      rw [Azp hr]
      unfold Axe
      rw [e]
      simp only [List.length_cons, List.take_succ_cons, List.mem_cons, forall_eq_or_imp, d, true_and, ne_eq, Nat.add_eq_zero_iff, Nat.one_ne_zero, and_false, not_false_eq_true, g, forall_const, and_true, Nat.add_le_add_iff_right]
     by_cases q : Axe k r
     ·rw [if_pos q] at ih
      rw [if_pos (hiff.2 q)]
      obtain ⟨s, h1, h2⟩ := ih
      exact ⟨s, by rw [h1, e]; rfl, by rw [h2, e]; rfl⟩
     ·rw [if_neg q] at ih
      rw [if_neg (fun p => q (hiff.1 p))]
      exact ih
    ·rw [if_neg d] at hw
     rw [if_neg (fun q : Axe (k + 1) l => d (q.2.1 w (by rw [e, List.take_succ_cons]; simp)))]
     exact Ada n k _ hw
  ·rw [if_neg g, if_neg (fun q : Axe (k + 1) l => g (q.2.2 (by omega)))]
   obtain ⟨j, hj⟩ := Al9 n (n - l.length)
   rw [hj]
   exact Ada n k _ rfl
def A8x (l : List Int) : Option (List Int) := if Aju l /\ (B3 [] l).length = 5 /\ ∀ w ∈ B3 [] l, isH w then some ((B3 [] l).map Aoi) else none
theorem A2b (l : List Int) : match A8x l with | some v => A6w l = (v, none) | none => (A6w l).2 = some 2 := by
 have h := Atv l.length 5 l
 unfold A8x A6w
 generalize Ph l.length 5 (.good l) = z at *
 by_cases c : Axe 5 l
 ·rw [if_pos c] at h
  obtain ⟨r, h1, h2⟩ := h
  rw [h1, Apu, h2]
  by_cases d : (B3 [] l).length = 5
  ·have e : (B3 [] l).take 5 = B3 [] l := List.take_of_length_le (by omega)
   obtain ⟨q1, q2, q3⟩ := c
   rw [e] at q2
   have hd : (B3 [] l).drop 5 = [] := List.drop_eq_nil_of_le (by omega)
   rw [if_pos ⟨q3 (by omega), d, q2⟩, e, if_pos hd]
  ·rw [if_neg (fun q => d q.2.1), if_neg]
   rw [List.drop_eq_nil_iff]
   have := c.1
   omega
 ·rw [if_neg c] at h
  have hs := Ac1 h
  have hn : ¬ (Aju l /\ (B3 [] l).length = 5 /\ ∀ w ∈ B3 [] l, isH w) := by
   rintro ⟨g, d, e⟩
   exact c ⟨Nat.le_of_eq d.symm, fun w hw => e w (List.mem_of_mem_take hw), fun _ => g⟩
  rw [if_neg hn]
  simp only
  exact hs
def A60 (l : List Int) : Option (Int × Int) := match B3 [] (Ar6 0 l) with | [a, b] => if isN 13 a /\ isN 4 b then some (J2 a, J2 b) else none | _ => none
theorem Ad6 (b : Bool) : Ic b [] [] = [] := rfl
theorem A1g (c : Int) (l : List Int) : A3z c (.good l) = decide (l.head? = some c) := rfl
theorem Azx (l : List Int) (hl : l = [] \/ Aju l) : (Wq (.good l)).end = if Ic false [] l = [] then none else some 2 := by
 rcases hl with rfl | g
 ·rfl
 ·have hh : l.head? = some 35 -> false = false := fun _ => rfl
  unfold Wq
  rw [if_neg (by unfold Aju at g; show ¬ Do gL l = 0; omega), Yn l false hh, decide_eq_true g, Bool.or_true]
  show (if A3z 35 (.good (l.drop (Do gL l))) = true then _ else _ : X).end = _
  rw [A1g]
  simp only [decide_eq_true_eq]
  rcases Zb l with h | ⟨c, t, h, hc⟩
  ·show (if _ then _ else (X.good (l.drop (Do gL l)))).end = _
   rw [h]
   rfl
  ·show (if _ then El _ (X.good ((l.drop (Do gL l)).drop 1)) else (X.good (l.drop (Do gL l)))).end = _
   rw [h]
   by_cases c35 : c = 35
   ·subst c35
    rw [if_pos (show (35 :: t).head? = some 35 from rfl), Ic, if_pos (show (35 : Int) = 35 /\ true = true from ⟨rfl, rfl⟩), if_pos rfl, if_pos rfl]
    show (X.good (t.drop ((l.drop (Do gL l)).drop 1).length)).end = none
    rw [h, List.drop_succ_cons, List.drop_zero, List.drop_length]; rfl
   ·rw [if_neg (by simpa using c35), Zd hc (fun q => absurd q c35), if_neg (by simp)]; rfl
theorem Az7 {k : Nat} (t : List Int) : ¬ isN k ((35 :: t).take (Kq (35 :: t))) := by
 unfold Kq
 rw [if_neg (by decide), List.take_succ_cons]
 intro h
 exact absurd (h.1 35 (List.mem_cons_self ..)) (by unfold isF; decide)
theorem A3p (l : List Int) : match A60 l with | some v => (Ayz l).1.end = none /\ (Ayz l).2 = v | none => (Ayz l).1.end = some 2 := by
 have e1 : (Ayz l).1.end = (Wq (U4 l.length 1 4 (To l.length (U4 l.length 1 13 (.good (l.drop (Do gL l)))).1)).1).end := rfl
 have e2 : (Ayz l).2 = ((U4 l.length 1 13 (.good (l.drop (Do gL l)))).2, (U4 l.length 1 4 (To l.length (U4 l.length 1 13 (.good (l.drop (Do gL l)))).1)).2) := rfl
 rw [e1, e2]
 unfold A60
 rw [Aa3, decide_eq_false (by decide), Yn l false (fun _ => rfl), Bool.false_or]
 clear e1 e2
 generalize l.length = n
 have bad1 : ∀ z : X, stuck z -> (Wq (U4 n 1 4 (To n z)).1).end = some 2 := by
  intro z hz
  obtain ⟨i, hi⟩ := Aqp n hz
  rw [hi]
  exact Zc rfl
 have hf := Ahe n 13 (l.drop (Do gL l))
 rcases Zb l with h | ⟨c, t, h, hc⟩
 ·rw [h] at hf ⊢
  rw [if_neg (show ¬ isN 13 (List.take (Kq []) []) from Z9 13)] at hf
  rw [Ad6]
  exact bad1 _ hf
 rw [h] at hf ⊢
 by_cases c35 : c = 35
 ·subst c35
  rw [if_neg (Az7 t)] at hf
  have hb := bad1 _ hf
  have : ∀ L : List (List Int), (∀ a b, L = [a, b] -> ¬ isN 13 a) -> (match (match L with | [a, b] => if isN 13 a /\ isN 4 b then some (J2 a, J2 b) else none | _ => none) with
   | some v => (Wq (U4 n 1 4 (To n (U4 n 1 13 (.good (35 :: t))).1)).1).end = none /\ ((U4 n 1 13 (.good (35 :: t))).2, (U4 n 1 4 (To n (U4 n 1 13 (.good (35 :: t))).1)).2) = v
   | none => (Wq (U4 n 1 4 (To n (U4 n 1 13 (.good (35 :: t))).1)).1).end = some 2) := by
   intro L hL
   split
   ·rename_i v hv
    exfalso
    split at hv
    ·rename_i a b
     rw [if_neg (fun q => hL a b rfl q.1)] at hv; cases hv
    ·cases hv
   ·exact hb
  refine this _ fun a b hab => ?_
  by_cases g : Aju l
  ·rw [decide_eq_true g, Ic, if_pos (show (35 : Int) = 35 /\ true = true from ⟨rfl, rfl⟩), if_pos rfl] at hab; cases hab
  ·rw [decide_eq_false g, Zd hc (fun _ => rfl)] at hab
   rw [<- (List.cons.inj hab).1]
   exact Az7 t
 rw [Zd hc (fun q => absurd q c35)]
 have hr := Agi (c :: t)
 generalize (c :: t).take (Kq (c :: t)) = w at *
 generalize (c :: t).drop (Kq (c :: t)) = r at *
 by_cases d : isN 13 w
 ·rw [if_pos d] at hf
  rw [hf]
  simp only
  rw [Aik]
  rcases hr with rfl | g
  ·rw [if_neg (by unfold Aju; decide), Ad6]; rfl
  rw [if_pos g, Yn r false (fun _ => rfl), Bool.false_or, decide_eq_true g]
  have hf2 := Ahe n 4 (r.drop (Do gL r))
  rcases Zb r with h2 | ⟨c2, t2, h2, hc2⟩
  ·rw [h2] at hf2 ⊢
   rw [if_neg (show ¬ isN 4 (List.take (Kq []) []) from Z9 4)] at hf2
   rw [Ad6]
   exact Zc hf2
  rw [h2] at hf2 ⊢
  by_cases c352 : c2 = 35
  ·subst c352
   rw [if_neg (Az7 t2)] at hf2
   rw [Ic, if_pos (show (35 : Int) = 35 /\ true = true from ⟨rfl, rfl⟩), if_pos rfl]
   exact Zc hf2
  rw [Zd hc2 (fun q => absurd q c352)]
  have hr2 := Agi (c2 :: t2)
  generalize (c2 :: t2).take (Kq (c2 :: t2)) = w2 at *
  generalize (c2 :: t2).drop (Kq (c2 :: t2)) = r2 at *
  by_cases d2 : isN 4 w2
  ·rw [if_pos d2] at hf2
   rw [hf2]
   simp only [Azx r2 hr2]
   cases hw : Ic false [] r2 with
   | nil => simp only [d, d2, and_self, if_true]
   | cons a b => simp only [if_neg (List.cons_ne_nil a b)]
  ·rw [if_neg d2] at hf2
   have := Zc hf2
   cases hw : Ic false [] r2 with
   | nil => simp only [d2, and_false, if_false]; exact this
   | cons a b => exact this
 ·rw [if_neg d] at hf
  have hb := bad1 _ hf
  cases hw : Ic false [] r with
  | nil => exact hb
  | cons a b =>
   cases b with
   | nil => simp only [d, false_and, if_false]; exact hb
   | cons _ _ => exact hb
def A8v (l : List Int) : Option Int × List (Int × Int) := match A60 l with
 | some (a, b) => if a % 86400 = 0 then (none, [(a / 86400 - 25567, b)]) else (some 1, [])
 | none => (some 2, [])
theorem A79 (l : List Int) : Az5 l = A8v l := by
 have h := A3p l
 unfold Az5 A8v
 generalize A60 l = q at *
 cases q with
 | none => simp only at h; simp only [h]
 | some v =>
  obtain ⟨a, b⟩ := v
  obtain ⟨h1, h2⟩ := h
  simp only [h1, h2]
  unfold Arq
  by_cases c : a % 86400 = 0
  ·simp only [c, if_true]
  ·simp only [c, if_false]
theorem Afq : ∀ (k : Nat) (l : List Int), J2 (List.replicate k 48 ++ l) = J2 l
 | 0, l => rfl
 | k + 1, l => by
  have := Afq k l
  rw [List.replicate_succ, List.cons_append]
  unfold J2 at this ⊢
  rw [List.foldl_cons]; exact this
theorem As8 (n : Nat) : J2 (Ags n).reverse = n := by
 induction n using Nat.strongRecOn with
 | _ n ih =>
  by_cases c : n = 0
  ·subst c; rw [Kx]; rfl
  ·rw [Yz c, List.reverse_cons, Qs, ih (n / 10) (by omega)]; omega
theorem Arw (n w : Nat) : J2 (Aoh n w) = n := by
 unfold Aoh; rw [Afq, As8]
theorem A1v (n w : Nat) : 0 < (Aoh n w).length := by
 unfold Aoh
 rw [List.length_append, List.length_replicate, List.length_reverse]; omega
def sgn (x : Int) : Int := if x < 10 then 48 + x else 87 + x
def Aq8 (l : List Int) : List Int := l.flatMap fun b => [sgn (b / 16), sgn (b % 16)]
def Agw (w : Int) : List Int := Aq8 (be w 4)
theorem A4l : ∀ n : Fin 16, sgn n.val ∈ hxL /\ Ara (sgn n.val) = n.val := by decide
theorem Aun {x : Int} (h : 0 <= x /\ x < 16) : sgn x ∈ hxL /\ Ara (sgn x) = x := by
 have := A4l ⟨x.toNat, by omega⟩
 simp only [Int.toNat_of_nonneg h.1] at this
 exact this
theorem Ys : ∀ l : List Int, (Aq8 l).length = 2 * l.length
 | [] => rfl
 | x :: l => by
  have := Ys l
  unfold Aq8 at *
  rw [List.flatMap_cons, List.length_append, this]
  simp only [List.length_cons, List.length_nil]; omega
theorem A2g {l : List Int} (h : I6 l) : ∀ c ∈ Aq8 l, c ∈ hxL := by
 intro c hc
 obtain ⟨b, hb, hcb⟩ := List.mem_flatMap.1 hc
 have := h b hb
 simp only [List.mem_cons, List.not_mem_nil, or_false] at hcb
 rcases hcb with rfl | rfl
 ·exact (Aun ⟨by omega, by omega⟩).1
 ·exact (Aun ⟨by omega, by omega⟩).1
theorem A0o (w : Int) (n : Nat) : I6 (be w n) := by
 induction n with
 | zero => intro x hx; cases hx
 | succ n ih =>
  intro x hx
  rw [be] at hx
  rcases List.mem_cons.1 hx with rfl | hx
  ·omega
  ·exact ih x hx
theorem Ac4 (w : Int) : isH (Agw w) := by
 refine ⟨A2g (A0o w 4), ?_⟩
 unfold Agw
 rw [Ys, Pf]; omega
theorem Acn {w : Int} (h : 0 <= w /\ w < 4294967296) : Aoi (Agw w) = w := by
 have e : ∀ x : Int, 0 <= x -> x < 256 -> Ara (sgn (x / 16)) = x / 16 /\ Ara (sgn (x % 16)) = x % 16 := fun x h0 h1 => ⟨(Aun ⟨by omega, by omega⟩).2, (Aun ⟨by omega, by omega⟩).2⟩
 have b3 := e (w / 16777216 % 256) (by omega) (by omega)
 have b2 := e (w / 65536 % 256) (by omega) (by omega)
 have b1 := e (w / 256 % 256) (by omega) (by omega)
 have b0 := e (w % 256) (by omega) (by omega)
 have hb : be w 4 = [w / 16777216 % 256, w / 65536 % 256, w / 256 % 256, w % 256] := by
  simp [be]
 unfold Agw Aq8 Aoi
 rw [hb]
 simp only [List.flatMap_cons, List.flatMap_nil, List.append_nil, List.cons_append, List.nil_append, List.foldl_cons, List.foldl_nil, b3.1, b3.2, b2.1, b2.2, b1.1, b1.2, b0.1, b0.2]
 omega
theorem Ac7 : ∀ (w cur : List Int), (∀ c ∈ w, c ∉ gL) -> (cur ++ w ≠ []) -> B3 cur w = [cur ++ w]
 | [], cur, _, h => by rw [B3, List.append_nil, if_neg (by simpa using h)]
 | x :: w, cur, hw, _ => by
  rw [B3, if_neg (hw x (List.mem_cons_self ..)), Ac7 w _ (fun c hc => hw c (List.mem_cons_of_mem _ hc)) (by simp), List.append_assoc]; rfl
theorem Qp : ∀ (w cur l : List Int) (g : Int), (∀ c ∈ w, c ∉ gL) -> cur ++ w ≠ [] -> g ∈ gL -> B3 cur (w ++ g :: l) = (cur ++ w) :: B3 [] l
 | [], cur, l, g, _, h, hg => by
  rw [List.append_nil] at h
  rw [List.nil_append, B3, if_pos hg, if_neg h, List.append_nil]
 | x :: w, cur, l, g, hw, _, hg => by
  rw [List.cons_append, B3, if_neg (hw x (List.mem_cons_self ..)), Qp w _ l g (fun c hc => hw c (List.mem_cons_of_mem _ hc)) (by simp) hg, List.append_assoc]; rfl
theorem Al4 {g : Int} (l : List Int) (hg : g ∈ gL) : B3 [] (g :: l) = B3 [] l := by rw [B3, if_pos hg, if_pos rfl]
theorem Ap5 : ∀ (l : List Int) (p : Int), 35 ∉ l -> Ar6 p l = l
 | [], _, _ => rfl
 | x :: l, p, h => by
  unfold Ar6
  rw [if_neg (fun q => h (by rw [q.1]; simp)), Ap5 l x (fun q => h (by simp [q]))]
theorem T1 (n : Int) : ∀ c ∈ Rf n, isF c := At1 _ _
theorem Amo (n : Int) : ∀ c ∈ Rf n, c ∉ gL := fun c hc => Arr (T1 n c hc)
theorem Ajn (n : Int) : Rf n ≠ [] := fun h => by have := A1v n.toNat 0; unfold Rf at h; rw [h] at this; cases this
theorem Am2 {n : Int} (h : 0 <= n) : J2 (Rf n) = n := by unfold Rf; rw [Arw]; omega
theorem Adk {n : Int} {k : Nat} (h : 0 <= n /\ n < 10 ^ k) (hk : 1 <= k) : isN k (Rf n) := by
 have h0 := List.length_pos_iff.2 (Ajn n)
 refine ⟨T1 n, h0, ?_⟩
 have e : n.toNat < 10 ^ k := by
  have : ((n.toNat : Nat) : Int) < ((10 ^ k : Nat) : Int) := by rw [Int.toNat_of_nonneg h.1]; exact_mod_cast h.2
  exact_mod_cast this
 have hf := Agm k n.toNat e
 unfold Rf Aoh
 rw [List.length_append, List.length_replicate, List.length_reverse]; omega
def upL (u : Int) : List Int := 35 :: 36 :: 9 :: Rf u
def exL (e : Int) : List Int := 35 :: 64 :: 9 :: Rf e
def rwL (r : Int × Int) : List Int := Rf (Ah0 r) ++ 9 :: Rf r.2
def dgL (w : W5) : List Int := 35 :: 104 :: (wl w).flatMap fun x => 32 :: Agw x
def A64 (l : List (Int × Int)) (u e : Int) (w : W5) : List (List Int) := upL u :: exL e :: (l.map rwL ++ [dgL w])
def Q4 (l : List (Int × Int)) (u e : Int) (w : W5) : List Int := (A64 l u e w).flatMap (· ++ [10])
theorem Asc {l : List Int} (h : ∀ c ∈ l, isF c) {x : Int} (hx : ¬ isF x) : x ∉ l := fun q => hx (h x q)
theorem A41 {w x : Int} (hx : x ∉ hxL) : x ∉ Agw w := fun q => hx ((Ac4 w).1 x q)
theorem A4x (l : List (Int × Int)) (u e : Int) (w : W5) : ∀ x ∈ A64 l u e w, 10 ∉ x := by
 have f10 : ¬ isF 10 := by unfold isF; decide
 have h10 : (10 : Int) ∉ hxL := by decide
 have hd : ∀ n, 10 ∉ Rf n := fun n => Asc (T1 n) f10
 intro x hx
 unfold A64 at hx
 simp only [List.mem_cons, List.mem_append, List.mem_map, List.not_mem_nil, or_false] at hx
 rcases hx with rfl | rfl | ⟨r, _, rfl⟩ | rfl
 ·unfold upL; simp [hd]
 ·unfold exL; simp [hd]
 ·unfold rwL; simp [hd]
 ·unfold dgL
  simp only [List.mem_cons, List.mem_flatMap, not_or, not_exists, not_and]
  refine ⟨by decide, by decide, fun x _ => ⟨by decide, A41 h10⟩⟩
theorem Agg {x : Int} {l : List Int} (h : x ∉ gL) : ¬ ∀ y ∈ x :: l, y ∈ gL := fun q => h (q x (List.mem_cons_self ..))
theorem Apf {g : Int} (l : List Int) (h : g ∈ gL) : Aju (g :: l) := by unfold Aju Do; rw [if_pos h]; omega
theorem Apn {n : Int} (h : Ih n) : Afv (9 :: Rf n) = (n, none) := by
 have := A0k (9 :: Rf n)
 unfold Ih at h
 have e : A3j (9 :: Rf n) = some n := by
  unfold A3j
  rw [if_pos (Apf _ (by decide)), Al4 _ (by decide), Ac7 _ _ (Amo n) (by simpa using Ajn n)]
  simp only [List.nil_append]
  rw [if_pos (Adk ⟨h.1, by omega⟩ (by decide)), Am2 h.1]
 rw [e] at this
 exact this
theorem A53 {n : Int} (h : Ih n) (r : RS) (hr : r.up = none) : Nk r (upL n) = ({ r with up := some n }, none) := by
 unfold Nk upL
 rw [if_neg (Agg (by decide)), if_pos (show List.take 2 (35 :: 36 :: 9 :: Rf n) = [35, 36] from rfl)]
 simp only [List.drop_succ_cons, List.drop_zero, Apn h, hr, Option.isSome_none, Bool.false_eq_true, if_false]
theorem A5j {n : Int} (h : Ih n) (r : RS) (hr : r.ex = none) : Nk r (exL n) = ({ r with ex := some n }, none) := by
 unfold Nk exL
 rw [if_neg (Agg (by decide)), if_neg (by simp), if_pos (show List.take 2 (35 :: 64 :: 9 :: Rf n) = [35, 64] from rfl)]
 simp only [List.drop_succ_cons, List.drop_zero, Apn h, hr, Option.isSome_none, Bool.false_eq_true, if_false]
theorem Amc {r : Int × Int} (h : Oz r.1) : 0 <= Ah0 r /\ Ah0 r < 10 ^ 13 /\ Ah0 r % 86400 = 0 /\ Ah0 r / 86400 - 25567 = r.1 := by
 unfold Oz at h
 unfold Ah0
 omega
theorem A24 {r : Int × Int} (h : Oz r.1 /\ 0 <= r.2 /\ r.2 <= 1000) : A8v (rwL r) = (none, [r]) := by
 obtain ⟨s1, s2, s3, s4⟩ := Amc h.1
 have f35 : ¬ isF 35 := by unfold isF; decide
 have e : A60 (rwL r) = some (Ah0 r, r.2) := by
  unfold A60 rwL
  rw [Ap5, Qp _ _ _ _ (Amo _) (by simpa using Ajn _) (by decide), Ac7 _ _ (Amo _) (by simpa using Ajn _)]
  ·simp only [List.nil_append]
   rw [if_pos ⟨Adk ⟨s1, s2⟩ (by decide), Adk ⟨h.2.1, by omega⟩ (by decide)⟩, Am2 s1, Am2 h.2.1]
  ·simp only [List.mem_append, List.mem_cons, not_or]
   exact ⟨Asc (T1 _) f35, by decide, Asc (T1 _) f35⟩
 unfold A8v
 rw [e]
 simp only [s3, if_true, s4]
theorem Ax0 (n : Int) : ∃ c t, Rf n = c :: t /\ isF c := by
 cases h : Rf n with
 | nil => exact absurd h (Ajn n)
 | cons c t => exact ⟨c, t, rfl, T1 n c (by rw [h]; simp)⟩
theorem A14 {x : Int × Int} (h : Oz x.1 /\ 0 <= x.2 /\ x.2 <= 1000) (r : RS) : Nk r (rwL x) = ({ r with rows := r.rows ++ [x] }, none) := by
 obtain ⟨c, t, hc, hf⟩ := Ax0 (Ah0 x)
 have e : rwL x = c :: (t ++ 9 :: Rf x.2) := by unfold rwL; rw [hc]; rfl
 have h35 : c ≠ 35 := by unfold isF at hf; omega
 have hr := A24 h
 unfold Nk
 rw [A79, hr, e, if_neg (Agg (Arr hf))]
 have ht : ∀ b, (c :: (t ++ 9 :: Rf x.2)).take 2 ≠ [35, b] := fun b q => by
  rw [List.take_succ_cons] at q
  exact h35 (List.cons.inj q).1
 rw [if_neg (ht _), if_neg (ht _), if_neg (ht _), if_neg (by simpa using h35)]
theorem A6u {w : W5} (h : w5R w) (r : RS) (hr : r.dg = none) : Nk r (dgL w) = ({ r with dg := some (w.1, (w.2.1, (w.2.2.1, (w.2.2.2.1, w.2.2.2.2.1)))) }, none) := by
 obtain ⟨h1, h2, h3, h4, h5⟩ := h
 have hn : ∀ x, ∀ c ∈ Agw x, c ∉ gL := fun x c hc => Ayo c ((Ac4 x).1 c hc)
 have hne : ∀ x, [] ++ Agw x ≠ [] := fun x q => by have := (Ac4 x).2.1; rw [List.nil_append] at q; rw [q] at this; simp at this
 have hw : B3 [] ((wl w).flatMap fun x => 32 :: Agw x) = (wl w).map Agw := by
  unfold wl
  simp only [List.flatMap_cons, List.flatMap_nil, List.append_nil, List.cons_append, List.map_cons, List.map_nil]
  rw [Al4 _ (by decide), Qp _ _ _ _ (hn _) (hne _) (by decide), Qp _ _ _ _ (hn _) (hne _) (by decide), Qp _ _ _ _ (hn _) (hne _) (by decide), Qp _ _ _ _ (hn _) (hne _) (by decide), Ac7 _ _ (hn _) (hne _)]
  rfl
 have hs := A2b ((wl w).flatMap fun x => 32 :: Agw x)
 have e : A8x ((wl w).flatMap fun x => 32 :: Agw x) = some (wl w) := by
  unfold A8x
  rw [if_pos ⟨Apf _ (by decide), by rw [hw]; rfl, by rw [hw]; intro x hx; obtain ⟨y, _, rfl⟩ := List.mem_map.1 hx; exact Ac4 y⟩, hw]
  unfold wl
  simp only [List.map_cons, List.map_nil, Acn h1, Acn h2, Acn h3, Acn h4, Acn h5]
 rw [e] at hs
 simp only at hs
 unfold Nk dgL
 rw [if_neg (Agg (by decide)), if_neg (by simp), if_neg (by simp), if_pos (show List.take 2 (35 :: 104 :: (wl w).flatMap fun x => 32 :: Agw x) = [35, 104] from rfl)]
 unfold Atf
 simp only [List.drop_succ_cons, List.drop_zero, hs, hr, Option.isSome_none, Bool.false_eq_true, if_false]
 rfl
theorem A04 : ∀ (l : List (Int × Int)) (r : RS) (L : List (List Int)), rowsG l -> evF r (l.map rwL ++ L) = evF { r with rows := r.rows ++ l } L
 | [], r, L, _ => by simp
 | x :: l, r, L, h => by
  rw [List.map_cons, List.cons_append, evF, A14 (h x (List.mem_cons_self ..))]
  simp only
  rw [A04 l _ L fun y hy => h y (List.mem_cons_of_mem _ hy), List.append_assoc]; rfl
theorem Asm {l : List (Int × Int)} {u e : Int} {w : W5} (hg : rowsG l) (hu : Ih u) (he : Ih e) (hw : w5R w) (hlen : (Q4 l u e w).length <= 65535) :
  (Oj (Q4 l u e w)).1 = ⟨some u, some e, some (w.1, (w.2.1, (w.2.2.1, (w.2.2.2.1, w.2.2.2.2.1)))), l⟩ /\ (Oj (Q4 l u e w)).2.2 = none := by
 have h := A12 (Q4 l u e w) hlen
 rw [h.1, h.2]
 unfold Q4
 rw [Aim _ (A4x l u e w)]
 unfold A64
 rw [evF, A53 hu _ rfl]
 simp only
 rw [evF, A5j he _ rfl]
 simp only
 rw [A04 l _ _ hg, evF, A6u hw _ rfl]
 simp only [evF, List.nil_append, and_self]
theorem Al5 : ∀ (L : List (List Int)) (r : RS) (i : Nat), (Ab9 r i L).2.2 = none -> (Ab9 r i L).2.1 = 0
 | [], r, i, _ => rfl
 | l :: L, r, i, h => by
  unfold Ab9 at *
  cases hq : (Nk r l).2 with
  | some c => rw [hq] at h; cases h
  | none => rw [hq] at h; exact Al5 L _ _ h
theorem Av7 {l : List Int} (h : (Oj l).2.2 = none) : (Oj l).2.1 = 0 := by
 unfold Oj at *
 split
 ·rfl
 ·rename_i c
  rw [if_neg c] at h
  exact Al5 _ _ _ h
theorem A6k (w : W5) : (dgL w).length = 47 := by
 have h : ∀ x, (Agw x).length = 8 := fun x => by unfold Agw; rw [Ys, Pf]
 unfold dgL wl
 simp only [List.flatMap_cons, List.flatMap_nil, List.length_cons, List.length_append, List.length_nil, h]
theorem Axj {l : List (Int × Int)} {u e : Int} (w : W5) (hg : rowsG l) (hl : l.length <= 256) (hu : Ih u) (he : Ih e) : (Q4 l u e w).length <= 20000 := by
 unfold Ih at hu he
 have l1 := Ji u (by omega)
 have l2 := Ji e (by omega)
 have h3 := A6k w
 have h4 : ((l.map rwL).flatMap (· ++ [10])).length <= (l.map rwL).length * 42 := by
  refine Ac5 fun x hx => ?_
  obtain ⟨r, hr, rfl⟩ := List.mem_map.1 hx
  obtain ⟨h1, h2⟩ := hg r hr
  have hs := Amc h1
  have a1 := Ji (Ah0 r) (by omega)
  have a2 := Ji r.2 (by omega)
  unfold rwL
  simp only [List.length_append, List.length_cons, List.length_nil]; omega
 rw [List.length_map] at h4
 unfold Q4 A64
 simp only [List.flatMap_cons, List.flatMap_append, List.flatMap_nil, List.length_append, List.length_cons, List.length_nil, upL, exL, h3]
 omega
theorem Aqu {l : List (Int × Int)} {u e : Int} (ht : Asd l u e = 0) : Wb (Q4 l u e (Ar8 (dgB l u e))) = (some (l, (u, e)), none) /\ (Oj (Q4 l u e (Ar8 (dgB l u e)))).2.1 = 0 := by
 obtain ⟨g1, g2, g3⟩ := Ami ht
 have hlen := Axj (Ar8 (dgB l u e)) g1.rowsG g1.len.2 g2 g3
 obtain ⟨h1, h2⟩ := Asm (w := Ar8 (dgB l u e)) g1.rowsG g2 g3 (A77 _) (by omega)
 refine ⟨?_, Av7 h2⟩
 unfold Wb
 rw [h1, h2]
 simp only
 rw [if_pos ht]
 rw [if_pos]
 rfl
set_option maxRecDepth 10000
theorem At9 (x : Int) (h : 0 <= x /\ x < 16) : Jm ((), ((x, ()), ())) = some ((), ((sgn x, ()), ())) := by
 simp only [Jm, Acm, Ac]
 unfold sgn Cr Nj
 rw [wrap_u8, wrap_u8, wrap_u8]
 by_cases c : x < 10
 ·rw [if_pos c, if_pos c, show (48 + x) % 256 = 48 + x by omega]
 ·rw [if_neg c, if_neg c, show ((97 + x) % 256 - 10) % 256 = 87 + x by omega]
theorem A8n (T : Vy) (out : List Int) (x : T20) (i : Int) : V1 T ((out, ()), ((), (x, ((i, ()), ())))) =
  bif decide (i < (20 : Int)) then (bif decide ((0 : Int) <= i) && decide (i < (20 : Int)) then
   ((Jm ((), ((Axt .u8 (gd (.int .u8) (A7m x) i) (4 : Int), ()), ()))).bind fun x3 =>
   (Jm ((), ((Axv .u8 (gd (.int .u8) (A7m x) i) (15 : Int), ()), ()))).bind fun x5 =>
   bif decide (((out.length + [x3.2.1.1, x5.2.1.1].length) * 1 : Nat) <= 140737488355328) && decide (out.length + [x3.2.1.1, x5.2.1.1].length <= 9223372036854775807) then
    T.1 ((out ++ [x3.2.1.1, x5.2.1.1], ()), ((), (x, ((Cr .i64 i 1, ()), ())))) else none) else none)
  else some ((), ((As out, ()), ())) := by kernel_rfl
theorem A4p (b : List Int) (hb : b.length = 20) (hok : I6 b) : ∀ (k i : Nat), i + k = 20 ->
  Evn (fun f => (Jl f).1 ((Aq8 (b.take i), ()), ((), (t20 b, (((i : Int), ()), ()))))) ((), ((As (Aq8 b), ()), ())) := by
 intro k
 induction k with
 | zero =>
  intro i hi
  refine Evn.some 1 fun f => ?_
  simp only [Alb]
  rw [A8n, Ac, if_neg (by omega), List.take_of_length_le (by omega)]
 | succ k ih =>
  intro i hi
  have hlt : i < b.length := by omega
  have hx := hok _ (List.getElem_mem hlt)
  have hg : gd (.int .u8) (A7m (t20 b)) (i : Int) = b[i] := by
   rw [Ame, Ay2 hb, A8g, Int.toNat_natCast, List.getD_eq_getElem?_getD, List.getElem?_eq_getElem hlt]; rfl
  have e1 : Axt .u8 b[i] 4 = b[i] / 16 := by
   unfold Axt
   rw [show min (4 : Int).toNat (IntKind.bits .u8) = 4 from rfl, Int.fdiv_eq_ediv_of_nonneg _ (by decide)]; rfl
  have e2 : Axv .u8 b[i] 15 = b[i] % 16 := by
   have := A05 (k := .u8) (a := b[i]) 4 (by decide) rfl hx.1 (by simp only [IntKind.bits]; omega)
   exact this
  have h1 := At9 (b[i] / 16) (by omega)
  have h2 := At9 (b[i] % 16) (by omega)
  have ht : Aq8 (b.take (i + 1)) = Aq8 (b.take i) ++ [sgn (b[i] / 16), sgn (b[i] % 16)] := by
   unfold Aq8
   rw [List.take_add_one, List.getElem?_eq_getElem hlt, List.flatMap_append]; rfl
  have hl := Ys (b.take i)
  rw [List.length_take] at hl
  have h := ih (i + 1) (by omega)
  rw [ht] at h
  refine h.step fun f => ?_
  have e3 : Cr .i64 (i : Int) 1 = ((i + 1 : Nat) : Int) := by rw [A9 (by omega)]; rfl
  simp only [Alb]
  rw [A8n]
  simp only [hg, e1, e2, h1, h2, Option.bind_some, Ac, Ci, e3, List.length_cons, List.length_nil]
  rw [if_pos (by omega), if_pos (by omega), if_pos (by omega)]
theorem A52 (b : List Int) (hb : b.length = 20) (hok : I6 b) : Yw ((), (t20 b, ())) = some ((), ((As (Aq8 b), ()), ())) := by
 refine ((A4p b hb hok 20 0 (by omega)).cast fun f => ?_).lim
 simp only [X3]; rfl
theorem A70 (w : W5) : I6 (b20 w) := Abu fun x _ => A0o x 4
theorem A3m (w : W5) : Aq8 (b20 w) = (wl w).flatMap Agw := by
 unfold b20 Aq8
 rw [List.flatMap_assoc]; rfl
theorem At0 {f : Int -> List Int} (hf : ∀ x, (f x).length = 8) : ∀ (L : List Int) (i : Nat) (h : i < L.length), ((L.flatMap f).take ((i + 1) * 8)).drop (i * 8) = f L[i]
 | [], i, h => by cases h
 | x :: L, 0, _ => by
  rw [List.flatMap_cons, Nat.zero_mul, List.drop_zero, List.take_append_of_le_length (by rw [hf]; omega), List.take_of_length_le (by rw [hf]; omega)]; rfl
 | x :: L, i + 1, h => by
  have ih := At0 hf L i (by simpa using h)
  rw [List.flatMap_cons, List.take_append, List.drop_append, List.drop_eq_nil_of_le (by rw [List.length_take, hf]; omega), List.nil_append, List.length_take, hf]
  rw [show min ((i + 1 + 1) * 8) 8 = 8 by omega, show (i + 1 + 1) * 8 - 8 = (i + 1) * 8 by omega, show (i + 1) * 8 - 8 = i * 8 by omega]
  exact ih
theorem An5 (x : Int) : (Agw x).length = 8 := by unfold Agw; rw [Ys, Pf]
theorem Ayq (x : Int) : I6 (Agw x) := fun c hc => by
 have := (Ac4 x).1 c hc
 rw [show hxL = [48, 49, 50, 51, 52, 53, 54, 55, 56, 57, 97, 98, 99, 100, 101, 102, 65, 66, 67, 68, 69, 70] from rfl] at this
 have h : ∀ c ∈ ([48, 49, 50, 51, 52, 53, 54, 55, 56, 57, 97, 98, 99, 100, 101, 102, 65, 66, 67, 68, 69, 70] : List Int), 0 <= c /\ c < 256 := by decide
 exact h c this
theorem A44 (w : W5) {i : Nat} (h : i < 5) : ((As (Aq8 (b20 w))).extract (i * 8) ((i + 1) * 8)) = As (Agw ((wl w).getD i 0)) := by
 have hl : i < (wl w).length := h
 rw [Aid, A3m, At0 An5 (wl w) i hl, List.getD_eq_getElem?_getD, List.getElem?_eq_getElem hl]; rfl
theorem A5d (w : W5) {i : Nat} (h : i < 5) (f : Int -> List Int) : ((wl w).take (i + 1)).flatMap f = ((wl w).take i).flatMap f ++ f ((wl w).getD i 0) := by
 have hl : i < (wl w).length := h
 rw [List.take_add_one, List.getElem?_eq_getElem hl, List.flatMap_append, List.getD_eq_getElem?_getD, List.getElem?_eq_getElem hl]
 simp
theorem Azk (w : W5) : (As (Aq8 (b20 w))).size = 40 := by rw [Ce, Ys, Aii]
def dgT (w : W5) : List Int := (wl w).flatMap fun x => 32 :: Agw x
theorem Auc (w : W5) (i : Nat) : (((wl w).take i).flatMap fun x => 32 :: Agw x).length <= 45 := by
 have h := Ac5 (l := (wl w).take i) (f := fun x => 32 :: Agw x) (n := 9) (fun x _ => by rw [List.length_cons, An5]; omega)
 have : ((wl w).take i).length <= 5 := by rw [List.length_take]; show min i 5 <= 5; omega
 omega
theorem A51 (w : W5) (M : List Int) (hM : M.length <= 100000) : ∀ (k i : Nat), i + k = 5 ->
  Evn (fun f => (Ck f).2.1 (((none, ()), (M ++ ((wl w).take i).flatMap (fun x => 32 :: Agw x), ())), ((), ((As (Aq8 (b20 w)), ()), (((i : Int), ()), ()))))) ((), ((As (M ++ dgT w ++ [10]), ()), ((none, ()), ()))) := by
 intro k
 induction k with
 | zero =>
  intro i hi
  refine Evn.some 1 fun f => ?_
  have h5 := Auc w 5
  rw [show (wl w).take 5 = wl w from rfl] at h5
  have fit : Apc (As (M ++ dgT w)) (As [10]) = true := A3i _ _ (by unfold dgT; simp only [List.length_append, List.length_cons, List.length_nil]; omega)
  rw [show i = 5 by omega, show (wl w).take 5 = wl w from rfl]
  unfold dgT at fit ⊢
  simp only [On, Je, Ac, Ab7, fit, cond_true, A0e]
  rw [if_neg (by decide)]
 | succ k ih =>
  intro i hi
  have hti := Auc w i
  have hw := A44 w (i := i) (by omega)
  have h := ih (i + 1) (by omega)
  rw [A5d w (by omega)] at h
  refine h.step fun f => ?_
  have e1 : Cr .i64 (i : Int) 1 = ((i + 1 : Nat) : Int) := by rw [A9 (by omega)]; rfl
  have e2 : Tx .i64 (i : Int) 8 = ((i * 8 : Nat) : Int) := by rw [Iq (by omega)]; omega
  have e3 : Tx .i64 ((i + 1 : Nat) : Int) 8 = (((i + 1) * 8 : Nat) : Int) := by rw [Iq (by omega)]; omega
  have hs := Azk w
  have hlen := An5 ((wl w).getD i 0)
  simp only [On, Je, Ac, Ci, e1, e2, e3, Int.toNat_natCast, hw, Iu (Ayq _), hs, List.length_append, List.length_cons, List.length_nil, hlen]
  rw [if_pos (by omega), if_pos (by omega), if_pos (by omega), if_pos (by omega)]
  simp only [List.append_assoc, List.cons_append, List.nil_append]
theorem A6d (l : List (Int × Int)) (hg : rowsG l) (hl : l.length <= 256) (w : W5) (M : List Int) (hM : M.length <= 1000) : ∀ (k i : Nat), i + k = l.length ->
  Evn (fun f => (Ck f).1 ((t20 (b20 w), ((none, ()), (M ++ (l.take i).flatMap (fun r => rwL r ++ [10]), (l, ())))), ((), ((), ((), (((l.length : Int), ()), (((i : Int), ()), ())))))))
   ((), ((As (M ++ l.flatMap (fun r => rwL r ++ [10]) ++ [35, 104] ++ dgT w ++ [10]), ()), ((none, ()), ()))) := by
 have hlen : ∀ L : List (Int × Int), (∀ r ∈ L, Oz r.1 /\ 0 <= r.2 /\ r.2 <= 1000) -> (L.flatMap (fun r => rwL r ++ [10])).length <= L.length * 42 := fun L hL => Ac5 fun r hr => by
  obtain ⟨h1, h2⟩ := hL r hr
  have hs := Amc h1
  have a1 := Ji (Ah0 r) (by omega)
  have a2 := Ji r.2 (by omega)
  unfold rwL
  simp only [List.length_append, List.length_cons, List.length_nil]; omega
 have hfull := hlen l hg
 intro k
 induction k with
 | zero =>
  intro i hi
  rw [List.take_of_length_le (by omega)]
  have h := A51 w (M ++ l.flatMap (fun r => rwL r ++ [10]) ++ [35, 104]) (by simp only [List.length_append, List.length_cons, List.length_nil]; omega) 5 0 (by omega)
  rw [List.take_zero, List.flatMap_nil, List.append_nil] at h
  refine h.step fun f => ?_
  have hb : bytesOf (As [35, 104]) = [35, 104] := Iu (by unfold I6; decide)
  have hx := A52 (b20 w) (Aii w) (A70 w)
  simp only [On, Ja, Ac, Ci, A3x, hb, hx, Option.bind_some, List.length_append, List.length_cons, List.length_nil]
  rw [if_neg (by omega), if_pos (by omega)]; rfl
 | succ k ih =>
  intro i hi
  have hlt : i < l.length := by omega
  obtain ⟨h1, h2⟩ := hg _ (List.getElem_mem hlt)
  have hti := hlen (l.take i) fun r hr => hg r (List.mem_of_mem_take hr)
  rw [List.length_take] at hti
  have hw := A3s (M ++ (l.take i).flatMap (fun r => rwL r ++ [10])) [9] [10] l[i] h1 h2 (by rw [List.length_append]; omega) (by unfold I6; decide) (by decide) (by unfold I6; decide) (by decide)
  have e : (l.take (i + 1)).flatMap (fun r => rwL r ++ [10]) = (l.take i).flatMap (fun r => rwL r ++ [10]) ++ ((Rf (Ah0 l[i]) ++ [9]) ++ (Rf l[i].2 ++ [10])) := by
   rw [List.take_add_one, List.getElem?_eq_getElem hlt, List.flatMap_append]
   simp [rwL]
  have h := ih (i + 1) (by omega)
  rw [e, <- List.append_assoc] at h
  refine h.step fun f => ?_
  have e1 : Cr .i64 (i : Int) 1 = ((i + 1 : Nat) : Int) := by rw [A9 (by omega)]; rfl
  have s9 : (⟨#[9]⟩ : ByteArray) = As [9] := by kernel_rfl
  simp only [On, Ja, Ac, Ci, A33 hlt, s9, Ab7, hw, Option.bind_some, e1]
  rw [if_pos (by omega), if_pos (by omega)]
theorem Aqm (l : List (Int × Int)) (u e : Int) (w : W5) : Q4 l u e w = (([35, 36, 9] ++ (Rf u ++ [10])) ++ [35, 64, 9] ++ (Rf e ++ [10])) ++ l.flatMap (fun r => rwL r ++ [10]) ++ [35, 104] ++ dgT w ++ [10] := by
 unfold Q4 A64 upL exL dgL dgT
 simp only [List.flatMap_cons, List.flatMap_append, List.flatMap_nil, List.append_nil, List.flatMap_map, List.append_assoc, List.cons_append, List.nil_append]
theorem A6v (l : List (Int × Int)) (u e : Int) (ht : Asd l u e = 0) : Ot ((), ((some (l, (u, e)), ()), ())) = some ((), ((As (Q4 l u e (Ar8 (dgB l u e))), ()), ((none, ()), ()))) := by
 obtain ⟨g1, hu, he⟩ := Ami ht
 have hg := g1.rowsG
 have hl : l.length <= 256 := g1.len.2
 have hd := Alg l hg hl u e hu he
 obtain ⟨q1, q2, q3⟩ := Aqe l (by omega) u e
 unfold Ih at hu he
 have l1 := Ji u (by omega)
 have l2 := Ji e (by omega)
 have p1 := Alq [35, 36, 9] [10] u (by omega) (by decide) (by unfold I6; decide) (by decide)
 have p2 := Alq ([35, 36, 9] ++ (Rf u ++ [10]) ++ [35, 64, 9]) [10] e (by omega) (by simp only [List.length_append, List.length_cons, List.length_nil]; omega) (by unfold I6; decide) (by decide)
 have h := A6d l hg hl (Ar8 (dgB l u e)) (([35, 36, 9] ++ (Rf u ++ [10])) ++ [35, 64, 9] ++ (Rf e ++ [10])) (by simp only [List.length_append, List.length_cons, List.length_nil]; omega) l.length 0 (Nat.zero_add _)
 rw [List.take_zero, List.flatMap_nil, List.append_nil, <- Aqm] at h
 have b1 : bytesOf (⟨#[35, 36, 9]⟩ : ByteArray) = [35, 36, 9] := by kernel_rfl
 have b2 : bytesOf (⟨#[35, 64, 9]⟩ : ByteArray) = [35, 64, 9] := by kernel_rfl
 refine (h.cast fun f => ?_).lim
 simp only [Pm, hd, Option.bind_some, Option.isNone_none, Bool.not_true, cond_false, b1, b2, q1, q2, q3, Ab7, p1, p2, Ci, Ac]
 rw [if_pos (by decide), if_pos (by simp only [List.length_append, List.length_cons, List.length_nil]; omega)]; rfl
theorem A7u (l : List Int) (hl : I6 l) : I0 ((), ((As l, ()), ())) = some ((), (((Oj l).2.1, ()), ())) := by
 have h := Au6 l hl
 simp only [RS.t] at h
 simp only [I0, R9, h, Option.bind_some]
theorem A0z (l : List (Int × Int)) (u e : Int) (w : W5) : I6 (Q4 l u e w) := by
 rw [Aqm]
 have c : ∀ m : List Int, (∀ x ∈ m, 0 <= x /\ x < 256) -> I6 m := fun m h => h
 refine Ip (Ip (Ip (Ip (Ip (Ip (Ip (c _ (by decide)) (Ip (Uy _) (c _ (by decide)))) (c _ (by decide))) (Ip (Uy _) (c _ (by decide)))) ?_) (c _ (by decide))) ?_) (c _ (by decide))
 ·refine Abu fun r _ => Ip ?_ (c _ (by decide))
  unfold rwL
  exact Ip (Uy _) (Ao8 (by decide) (Uy _))
 ·unfold dgT
  exact Abu fun x _ => Ao8 (by decide) (Ayq x)
theorem A0g (l : List (Int × Int)) (u e : Int) (ht : Asd l u e = 0) : If ((), ((some (l, (u, e)), ()), ())) = some ((), ((true, ()), ())) := by
 have hg := (Ami ht).1
 have hl : l.length <= 300 := by have := hg.len.2; omega
 obtain ⟨h1, h2⟩ := Aqu ht
 have hok := A0z l u e (Ar8 (dgB l u e))
 have p1 := A6v l u e ht
 have p2 := Ag0 (Q4 l u e (Ar8 (dgB l u e))) hok
 have p3 := A7u (Q4 l u e (Ar8 (dgB l u e))) hok
 rw [h1] at p2
 rw [h2] at p3
 have hs : Nv ((), ((some (l, (u, e)), ()), ((some (l, (u, e)), ()), ()))) = some ((), ((true, ()), ())) := by
  rw [Ay8 l l u e u e hl hl, decide_eq_true ⟨rfl, rfl, Asq l⟩]
 simp only [If, Zs, p1, p2, p3, hs, Option.bind_some, Option.isNone_none, cond_true, beq_self_eq_true]
theorem list_back (l : List (Int × Int)) (u e : Int) (s : ByteArray) : Pt ((), ((l, (u, (e, ()))), ((s, ()), ()))) = some ((), ((true, ()), ())) := by
 simp only [Pt, Sn, Aw8, Option.bind_some, Bool.not_true, cond_false, Sd, Zy, gt_iff_lt, Ac]
 by_cases c1 : (296 : Int) < l.length
 ·rw [if_pos c1]
 rw [if_neg c1]
 by_cases c2 : (3000 : Int) < s.size
 ·rw [if_pos c2]
 rw [if_neg c2]
 have hp := Ag0 (bytesOf s) (A50 s)
 rw [Aug] at hp
 have two : ∀ r, r = Wb (bytesOf s) -> (bif (!r.2.isNone) then some ((), ((r.1.isNone, ()), ())) else ((If ((), ((r.1, ()), ()))).bind fun x => some ((), x.2))) = (some ((), ((true, ()), ())) : Option (Unit × ((Bool × Unit) × Unit))) := by
  intro r hr
  cases hq : r.1 with
  | some t =>
   obtain ⟨rows, u', e'⟩ := t
   have h := Atk (l := bytesOf s) (t := (rows, (u', e'))) (by rw [<- hr]; exact hq)
   rw [<- hr] at h
   rw [h.1, A0g rows u' e' h.2]; rfl
  | none =>
   cases hq2 : r.2 with
   | some c => rfl
   | none =>
    exfalso
    subst hr
    unfold Wb at hq hq2
    split at hq2
    ·cases hq2
    ·rename_i hr
     rw [hr] at hq
     simp only at hq
     split at hq2
     ·rename_i u e hu he
      rw [hu, he] at hq
      simp only at hq
      split at hq2
      ·rename_i ht
       rw [if_pos ht] at hq
       split at hq2
       ·rename_i w hw
        rw [hw] at hq
        simp only at hq
        split at hq2
        ·rename_i hb
         rw [if_pos hb] at hq; cases hq
        ·cases hq2
       ·rename_i hw
        rw [hw] at hq; cases hq
      ·rename_i ht
       simp only [Anl, ht, if_false] at hq2; cases hq2
     ·cases hq2
 have h2 := two _ rfl
 simp only [Avg, Option.bind_some, Aez, hp, Ac]
 by_cases ht : Asd l u e = 0
 ·rw [if_pos ht, if_pos ht, A0g l u e ht]
  simp only [Option.bind_some, Bool.not_true, cond_false]
  exact h2
 ·rw [if_neg ht]
  exact h2
open Go Go.Proofs
theorem Aku {b : Nat} {w : World} {v : Value} (t : w.cell? ⟨b, 0, none⟩ = some v) : b < w.heap.size /\ ∀ o : Obj, w.heap[b]? = some o -> o.isCells = true := by
 unfold World.cell? at t
 split at t
 ·rename_i cs x y h
  refine ⟨(Array.getElem?_eq_some_iff.1 h).1, fun o ho => ?_⟩
  rw [show w.heap[b]? = _ from h] at ho
  cases ho; rfl
 ·cases t
theorem glb_start {W : World} {X : Prop} (_ : X) (hsh : W.ShapedOpen Tryz.prog) : Glb g0 W := by
 have t3 : ∃ m, W.cell? ⟨0, 0, none⟩ = some (.int .i64 m) := Tryz.laysM146.s1_3 W hsh
 refine ⟨fun b hb => ?_, t3⟩
 have hb' : b = 0 := by simpa [A45] using hb
 subst hb'
 obtain ⟨m, hm⟩ := t3
 exact ⟨rfl, (Aku hm).1, (Aku hm).2⟩
theorem andShaped {H : Type} {enc : TypeId × Value -> H} {a : Assume} {C : Checked} {os : Os} {f : FuncId} {fn : Func} {s : ChangeSpec} {conds : List PathCond} {apart fresh handsOn again : Bool} {X : World -> Array Value -> Prop}
  (hX : ∀ (w w' : World) (args : Array Value), w.heap = w'.heap -> X w args -> X w' args)
  (own : ownKnob C.prog.godebug = none) (started : os.Started) (noInit : C.prog.inits.idxOf? f = none) (hfn : C.prog.funcs[f]? = some fn)
  (witness : ∃ (w : World) (tape : Tape) (i : Input), w.os = os /\ (w.forCall tape i).Shaped C.prog /\ i.vars = [] /\ Input.okWide C.prog (w.forCall tape i) .any w.heap.size f i /\
   ((s.pre enc C.prog fn conds apart (w.forCall tape i).memory i.args /\ X (w.forCall tape i).memory i.args) /\ sizedMet enc C.prog fn (OpenSpec.ofChange s) apart (w.forCall tape i).memory i.args) /\ a.holds C.prog (lone (Frame.enter C.prog f i.args .normal) [] (w.forCall tape i)))
  (contract : ∀ (W : World) (base : Nat) (args : Array Value) (ds gs : List (DataW H)) (before : List MemPlace),
   (∀ (j : Nat) t v, fn.params[j]? = some t -> args[j]? = some v -> Value.okWide C.prog W .any base t v) ->
   DataW.Whole enc C.prog fn.params.toList s.vars apart W args.toList ds gs before ->
   conds.all (PathCond.test C.prog ⟨fn.params.toList, ds, s.plain.varTypes C.prog, gs⟩) = true ->
   (DataW.weightsEach C.prog (fn.params.toList ++ s.plain.varTypes C.prog) (ds ++ gs)).all (· <= reachBytes) = true -> X W args -> W.ShapedOpen C.prog ->
   a.holds C.prog (lone (Frame.enter C.prog f args .normal) [] W) ->
   Calls C.prog f args W fun e W' => ∃ v, e = .returned v /\ s.post enc C.prog fn apart fresh handsOn again W args v W') :
  ReturnsInHanded a C os f .any (fun w args => (s.pre enc C.prog fn conds apart w args /\ X w args) /\ sizedMet enc C.prog fn (OpenSpec.ofChange s) apart w args) (s.post enc C.prog fn apart fresh handsOn again) := by
 refine returnsInHanded_of_calls own started noInit witness ?_
 intro w tape i _ hsh _ hok hpre hholds
 obtain ⟨_, _, _, fn', hfn', _, _, _, _, hval⟩ := hok
 have e : fn' = fn := Option.some.inj (hfn'.symm.trans hfn)
 subst e
 obtain ⟨⟨⟨ds, gs, before, hw, hc⟩, hx⟩, hz⟩ := hpre
 have hw' := DataW.Whole.of_heap (w' := w.forCall tape i) (by rfl) hw
 refine (contract (w.forCall tape i) w.heap.size i.args ds gs before hval hw' hc (hz.weights hw) (hX _ _ _ (by rfl) hx) hsh hholds).mono fun e W' ⟨v, he, hp⟩ => ?_
 subst he
 exact ChangeSpec.post_blind hp
end Go.Proofs.YtcnngodgngmghaaGreatDoor.Ev
