/- A plain evaluator of the loaded program's code over typed values: its definitions. -/
import Derived.Laws.AppendOwn
import Derived.Laws.OwnMore
import Derived.Laws.MakeOwn
import Derived.Below
import Derived.LoopN
import Derived.KernelRfl
import Derived.Laws.BitsLemmas
import Derived.Orders
namespace Go.Proofs.Ytfdppbfefplikaa.Ev
open Go
set_option linter.unusedVariables false

/-- What a value is, as plain data. -/
inductive Ty where
  | int (k : IntKind) | bool | str | err | sl (t : Ty) | nptr (t : Ty) | pair (a b : Ty) | unit
  deriving DecidableEq
@[reducible] def Ty.den : Ty → Type
  | .int _ => Int
  | .bool => Bool
  | .str => ByteArray
  | .err => Option Int
  | .sl t => List t.den
  | .nptr t => Option t.den
  | .pair a b => a.den × b.den
  | .unit => Unit
/-- How many cells. -/
def Ty.sz : Ty → Nat
  | .pair a b => a.sz + b.sz
  | .unit => 0
  | _ => 1

/-- Abstract values. 'b': a box of the call's own, 'v': its version. -/
inductive AV where
  | top | und | nilS | nilP
  | val (t : Ty) (x : t.den)
  | agg (l : List AV)
  | tup (l : List AV)
  | ref (b v off : Nat)
  | osl (b v : Nat)
  | imm (t : Ty) (x : t.den) (off : Nat)
  | oel (b v : Nat) (i : Int) (off : Nat)
  | fn (f : FuncId) (caps : List AV)
inductive BoxC where
  | dead
  | var (T : TypeId) (cells : List AV)
  | row (T : TypeId) (t : Ty) (xs : List t.den)
abbrev Boxes := List (Nat × (Nat × BoxC))
def look : Boxes → Nat → Option (Nat × BoxC)
  | [], _ => none
  | (i, x) :: r, b => bif Nat.beq i b then some x else look r b
def getBox (bs : Boxes) (b v : Nat) : BoxC :=
  match look bs b with
  | some (v', c) => bif Nat.beq v' v then c else .dead
  | none => .dead
def nextVer (bs : Boxes) (b : Nat) : Nat :=
  match look bs b with
  | some (v, _) => v + 1
  | none => 0
structure St where
  slots : List AV
  bs : Boxes

/-- What is known of a type. -/
inductive RK where
  | int (k : IntKind) | bool | str | iface | slice (elem : TypeId) | ptr | struct (fs : List (Nat × Nat × Bool)) | arr (n : Nat) (elem : TypeId) | other
  deriving DecidableEq
/-- A leaf that is compared by its value. -/
inductive LK where
  | int (k : IntKind) | bool | str
structure Row where
  kind : RK
  size : Nat
  bytes : Nat
  shape : Ty
  zero : List AV
  eqs : Option (List LK)
/-- What a call does, by its arguments; the first: the number that its temporary gives to new boxes. nb: how many boxes come with its results, where it is told by data alone. -/
structure CallSem where
  run : Option Nat → List AV → Boxes → (R : Type) → (AV → Boxes → Option R) → Option R
  nb : Option Nat
/-- What is known ahead: the types, the calls, the type of errors; 'base': where the numbers of new boxes begin; 'keep': temporaries that nothing is put into; 'frz': ahead of the operation that fills a temporary, what those temporaries lead to is told as plain values. -/
structure Env where
  rows : List (TypeId × Row)
  calls : List (FuncId × CallSem)
  ET : TypeId
  base : Nat := 0
  keep : List Nat := []
  frz : List (Tmp × List Tmp) := []
def Env.nid (E : Env) (d : Option Tmp) : Option Nat :=
  match d with
  | some d => some (E.base + (d + 1))
  | none => none
def Env.row (E : Env) (T : TypeId) : Option Row :=
  let rec go : List (TypeId × Row) → Option Row
    | [] => none
    | (i, x) :: r => bif Nat.beq i T then some x else go r
  go E.rows
def Env.callee (E : Env) (f : FuncId) : Option CallSem :=
  let rec go : List (FuncId × CallSem) → Option CallSem
    | [] => none
    | (i, x) :: r => bif Nat.beq i f then some x else go r
  go E.calls

def constAV : Value → AV
  | .int k n => .val (.int k) n
  | .bool b => .val .bool b
  | .string s => .val .str s
  | .nilIface => .val .err none
  | .slice none 0 0 => .nilS
  | .pointer none => .nilP
  | _ => .top
def getS : List AV → Nat → AV
  | [], _ => .top
  | a :: _, 0 => a
  | _ :: l, n + 1 => getS l n
def setS : List AV → Nat → AV → List AV
  | [], _, _ => []
  | _ :: l, 0, v => v :: l
  | a :: l, n + 1, v => a :: setS l n v
def opnd (sl : List AV) : Operand → AV
  | .tmp t => getS sl t
  | .const v => constAV v
  | .func f => .fn f []
  | .global _ => .top
def putS (sl : List AV) (d : Option Tmp) (v : AV) : List AV :=
  match d with
  | some d => setS sl d v
  | none => sl

noncomputable section
open Classical in
/-- Both, where they tell the same. -/
def agree {R : Type} (a b : Option R) : Option R := if a = b then a else none
variable {R : Type}
def kindEq (a b : IntKind) : Bool := decide (a = b)
def evIntBin (op : BinOp) (k : IntKind) (a b : Int) (K : AV → Option R) : Option R :=
  match op with
  | .add => K (.val (.int k) (k.wrap (a + b)))
  | .sub => K (.val (.int k) (k.wrap (a - b)))
  | .mul => K (.val (.int k) (k.wrap (a * b)))
  | .quo => bif b == 0 then none else K (.val (.int k) (k.wrap (a.tdiv b)))
  | .rem => bif b == 0 then none else K (.val (.int k) (a.tmod b))
  | .and => K (.val (.int k) (k.wrap ((BitVec.ofInt k.bits a &&& BitVec.ofInt k.bits b).toNat)))
  | .or => K (.val (.int k) (k.wrap ((BitVec.ofInt k.bits a ||| BitVec.ofInt k.bits b).toNat)))
  | .xor => K (.val (.int k) (k.wrap ((BitVec.ofInt k.bits a ^^^ BitVec.ofInt k.bits b).toNat)))
  | .andNot => K (.val (.int k) (k.wrap ((BitVec.ofInt k.bits a &&& ~~~BitVec.ofInt k.bits b).toNat)))
  | .eql => K (.val .bool (a == b))
  | .neq => K (.val .bool (a != b))
  | .lss => K (.val .bool (decide (a < b)))
  | .leq => K (.val .bool (decide (a ≤ b)))
  | .gtr => K (.val .bool (decide (a > b)))
  | .geq => K (.val .bool (decide (a ≥ b)))
  | .shl | .shr => none
def evStrBin (op : BinOp) (a b : ByteArray) (K : AV → Option R) : Option R :=
  match op with
  | .add => bif decide (((a.size + b.size : Nat) : Int) ≤ 9223372036854775807) then K (.val .str (a ++ b)) else none
  | .eql => K (.val .bool (a.toList == b.toList))
  | .neq => K (.val .bool (!(a.toList == b.toList)))
  | .lss => K (.val .bool (Op.bytesLess a.toList b.toList))
  | .leq => K (.val .bool (Op.bytesLess a.toList b.toList || a.toList == b.toList))
  | .gtr => K (.val .bool (!(Op.bytesLess a.toList b.toList || a.toList == b.toList)))
  | .geq => K (.val .bool (!(Op.bytesLess a.toList b.toList)))
  | _ => none
def isConstO : Operand → Bool
  | .const _ => true
  | _ => false
def kindOf (E : Env) (T : TypeId) : RK :=
  match E.row T with
  | some r => r.kind
  | none => .other
/-- Struct values, leaf by leaf. -/
def eqAVs : List LK → List AV → List AV → Option Bool
  | [], [], [] => some true
  | .int k :: ks, .val (.int k1) a :: l, .val (.int k2) b :: m => bif kindEq k k1 && kindEq k k2 then (match eqAVs ks l m with | some r => some ((a == b) && r) | none => none) else none
  | .bool :: ks, .val .bool a :: l, .val .bool b :: m => match eqAVs ks l m with | some r => some ((a == b) && r) | none => none
  | .str :: ks, .val .str a :: l, .val .str b :: m => match eqAVs ks l m with | some r => some ((a == b) && r) | none => none
  | _, _, _ => none
def eqsOf (E : Env) (T : TypeId) : Option (List LK) :=
  match E.row T with
  | some r => r.eqs
  | none => none
def evEq (E : Env) (T : TypeId) (cst neg : Bool) (x y : AV) (K : AV → Option R) : Option R :=
  let out (b : Bool) := K (.val .bool (cond neg (!b) b))
  match kindOf E T, x, y with
  | .bool, .val .bool a, .val .bool b => out (a == b)
  | .iface, .val .err a, .val .err none => cond cst (out a.isNone) none
  | .iface, .val .err none, .val .err b => cond cst (out b.isNone) none
  | .ptr, .val (.nptr _) o, .nilP => out o.isNone
  | .ptr, .ref _ _ _, .nilP => none
  | .ptr, .nilP, .nilP => out true
  | .slice _, .val (.sl t) l, .nilS => bif Nat.beq t.sz 0 then none else bif l.isEmpty then agree (out true) (out false) else out false
  | .slice _, .nilS, .nilS => out true
  | .struct _, .agg l, .agg m => match eqsOf E T with
    | some ks => match eqAVs ks l m with
      | some b => out b
      | none => none
    | none => none
  | _, _, _ => none
def evBin (E : Env) (op : BinOp) (T : TypeId) (cst : Bool) (x y : AV) (K : AV → Option R) : Option R :=
  match x, y with
  | .val (.int k) a, .val (.int k') b =>
    match op with
    | .shl => bif decide (b < 0) then none else K (.val (.int k) (k.wrap (a * 2 ^ (min b.toNat k.bits))))
    | .shr => bif decide (b < 0) then none else K (.val (.int k) (a.fdiv (2 ^ (min b.toNat k.bits))))
    | op => bif kindEq k k' then evIntBin op k a b K else none
  | .val .str a, .val .str b => evStrBin op a b K
  | x, y => match op with
    | .eql => evEq E T cst false x y K
    | .neq => evEq E T cst true x y K
    | _ => none
def evUn (op : UnOp) (x : AV) (K : AV → Option R) : Option R :=
  match op, x with
  | .neg, .val (.int k) n => K (.val (.int k) (k.wrap (0 - n)))
  | .xor, .val (.int k) n => K (.val (.int k) (k.wrap ((BitVec.ofInt k.bits (if k.signed then -1 else k.max) ^^^ BitVec.ofInt k.bits n).toNat)))
  | .not, .val .bool b => K (.val .bool (!b))
  | _, _ => none
/-- Element, or a zero beyond the end. -/
def Ty.dflt : (t : Ty) → t.den
  | .int _ => (0 : Int)
  | .bool => false
  | .str => ByteArray.empty
  | .err => none
  | .sl _ => []
  | .nptr _ => none
  | .pair a b => (a.dflt, b.dflt)
  | .unit => ()
def gd (t : Ty) (xs : List t.den) (i : Int) : t.den := xs.getD i.toNat t.dflt
def bt (s : ByteArray) (i : Int) : Int := if h : i.toNat < s.size then ((s[i.toNat]).toNat : Int) else 0
def expand : (t : Ty) → t.den → List AV
  | .pair a b, x => expand a x.1 ++ expand b x.2
  | .unit, _ => []
  | t, x => [.val t x]
/-- The value of a type that lies at a place in another. -/
def subT : (s : Ty) → s.den → Nat → (t : Ty) → Option t.den
  | .pair a b, x, off, t => if h : Ty.pair a b = t ∧ off = 0 then some (h.1 ▸ x) else bif Nat.blt off a.sz then subT a x.1 off t else subT b x.2 (off - a.sz) t
  | s, x, off, t => if h : s = t ∧ off = 0 then some (h.1 ▸ x) else none
/-- So many, one behind the other. -/
def subsT (s : Ty) (x : s.den) (e : Ty) : Nat → Nat → Option (List e.den)
  | 0, _ => some []
  | n + 1, off => match subT s x off e with
    | some y => match subsT s x e n (off + e.sz) with
      | some l => some (y :: l)
      | none => none
    | none => none
/-- A cell as a value of that kind. -/
def asTy (bs : Boxes) : (t : Ty) → AV → Option t.den
  | .int k, .val (.int k') n => bif kindEq k k' then some n else none
  | .bool, .val .bool b => some b
  | .str, .val .str s => some s
  | .err, .val .err e => some e
  | .sl _, .nilS => some []
  | .nptr _, .nilP => some none
  | .sl t, .val (.sl t') l => if h : t' = t then some (h ▸ l) else none
  | .nptr t, .val (.nptr t') o => if h : t' = t then some (h ▸ o) else none
  | .nptr t, .imm t' x off => match subT t' x off t with
    | some y => some (some y)
    | none => none
  | _, _ => none
/-- Cells put together: the value, and what is left. -/
def gather (bs : Boxes) : (t : Ty) → List AV → Option (t.den × List AV)
  | .pair a b, l => match gather bs a l with
    | some (x, l) => match gather bs b l with
      | some (y, l) => some ((x, y), l)
      | none => none
    | none => none
  | .unit, l => some ((), l)
  | t, [] => none
  | t, a :: l => match asTy bs t a with
    | some x => some (x, l)
    | none => none
def cellOk : AV → Bool
  | .top | .und | .agg _ | .tup _ => false
  | _ => true
def takeN : Nat → List AV → List AV
  | 0, _ => []
  | _ + 1, [] => []
  | n + 1, a :: l => a :: takeN n l
def dropN : Nat → List AV → List AV
  | 0, l => l
  | _ + 1, [] => []
  | n + 1, _ :: l => dropN n l
def lenN : List AV → Nat
  | [] => 0
  | _ :: l => lenN l + 1
def isAggK : RK → Bool
  | .struct _ | .arr _ _ => true
  | _ => false
/-- Cells as one value of a type. -/
def packK (size : Nat) (ag : Bool) (cells : List AV) (K : AV → Option R) : Option R :=
  bif Nat.beq (lenN cells) size then
    (bif ag then K (.agg cells) else match cells with
      | [c] => K c
      | _ => none)
  else none
def pack (r : Row) (cells : List AV) (K : AV → Option R) : Option R :=
  match r.kind with
  | .other => none
  | k => packK r.size (isAggK k) cells K
def leaves : AV → List AV
  | .agg l => l
  | x => [x]
def allOk : List AV → Bool
  | [] => true
  | a :: l => cellOk a && allOk l
def evLoad (E : Env) (T : TypeId) (x : AV) (bs : Boxes) (K : AV → Option R) : Option R :=
  match E.row T with
  | none => none
  | some r => match x with
    | .ref b v off => match getBox bs b v with
      | .var _ cells => pack r (takeN r.size (dropN off cells)) K
      | _ => none
    | .imm t x off => pack r (takeN r.size (dropN off (expand t x))) K
    | .oel b v i off => match getBox bs b v with
      | .row _ t xs => pack r (takeN r.size (dropN off (expand t (gd t xs i)))) K
      | _ => none
    | _ => none
def setCells : List AV → Nat → List AV → List AV
  | l, 0, [] => l
  | _ :: l, 0, v :: vs => v :: setCells l 0 vs
  | a :: l, n + 1, vs => a :: setCells l n vs
  | [], _, _ => []
def evStore (E : Env) (T : TypeId) (x y : AV) (bs : Boxes) (K : Boxes → Option R) : Option R :=
  match E.row T with
  | none => none
  | some r =>
    bif Nat.beq (lenN (leaves y)) r.size && allOk (leaves y) then
      match x with
      | .ref b v off => match getBox bs b v with
        | .var T' cells => bif Nat.ble (off + r.size) (lenN cells) && !Nat.beq b 0 then K ((b, (v, .var T' (setCells cells off (leaves y)))) :: bs) else none
        | _ => none
      | .oel b v i off => match getBox bs b v with
        | .row T' t xs => match gather bs t (setCells (expand t (gd t xs i)) off (leaves y)) with
          | some (z, []) => bif Nat.ble (off + r.size) t.sz && !Nat.beq b 0 then K ((b, (v, .row T' t (xs.set i.toNat z))) :: bs) else none
          | _ => none
        | _ => none
      | _ => none
    else none
def isVar : BoxC → Bool
  | .var _ _ => true
  | _ => false
def isRow : BoxC → Bool
  | .row _ _ _ => true
  | _ => false
def evFieldAddr (E : Env) (T : TypeId) (x : AV) (f : Nat) (bs : Boxes) (K : AV → Option R) : Option R :=
  match kindOf E T with
  | .struct fs => match fs[f]? with
    | some (o, n, _) => bif Nat.beq n 0 then none else match x with
      | .ref b v off => bif isVar (getBox bs b v) then K (.ref b v (off + o)) else none
      | .imm t x off => K (.imm t x (off + o))
      | .oel b v i off => bif isRow (getBox bs b v) then K (.oel b v i (off + o)) else none
      | _ => none
    | none => none
  | _ => none
def evField (E : Env) (T : TypeId) (x : AV) (f : Nat) (K : AV → Option R) : Option R :=
  match kindOf E T, x with
  | .struct fs, .agg l => match fs[f]? with
    | some (o, n, ag) => bif Nat.beq (lenN (takeN n (dropN o l))) n then
        (bif ag then K (.agg (takeN n (dropN o l))) else match takeN n (dropN o l) with
          | [c] => K c
          | _ => none) else none
    | none => none
  | _, _ => none
def elemRow (E : Env) (T : TypeId) (t : Ty) : Bool :=
  match E.row T with
  | some r => Nat.beq r.size t.sz && !Nat.beq t.sz 0
  | none => false
def asI : AV → Option Int
  | .val (.int _) n => some n
  | _ => none
/-- Place by place. -/
def pickN : Nat → Nat → Int → (Nat → Option R) → Option R
  | 0, _, _, _ => none
  | n + 1, j, i, f => bif decide (i = (j : Int)) then f j else pickN n (j + 1) i f
def evIndexAddr (E : Env) (T : TypeId) (x i : AV) (bs : Boxes) (K : AV → Option R) : Option R :=
  match asI i with
  | some i => match kindOf E T, x with
    | .slice e, .val (.sl t) l => bif elemRow E e t then (bif decide (0 ≤ i) && decide (i < l.length) then K (.imm t (gd t l i) 0) else none) else none
    | .slice e, .osl b v => match getBox bs b v with
      | .row e' t xs => bif Nat.beq e' e && elemRow E e t then (bif decide (0 ≤ i) && decide (i < xs.length) then K (.oel b v i 0) else none) else none
      | _ => none
    | .arr n e, .ref b v off => match E.row e with
      | some r => bif isVar (getBox bs b v) && decide (0 ≤ i) && decide (i < n) then pickN n 0 i fun j => K (.ref b v (off + j * r.size)) else none
      | none => none
    | .arr n e, .imm t x off => match E.row e with
      | some r => bif decide (0 ≤ i) && decide (i < n) then pickN n 0 i fun j => K (.imm t x (off + j * r.size)) else none
      | none => none
    | _, _ => none
  | none => none
def evIndex (E : Env) (T : TypeId) (x i : AV) (K : AV → Option R) : Option R :=
  match kindOf E T, x, asI i with
  | .str, .val .str s, some i => bif decide (0 ≤ i) && decide (i < (s.size : Int)) then K (.val (.int .u8) (bt s i)) else none
  | .arr n e, .agg l, some i => match E.row e with
    | some r => bif decide (0 ≤ i) && decide (i < n) then pickN n 0 i fun j => pack r (takeN r.size (dropN (j * r.size) l)) K else none
    | none => none
  | _, _, _ => none
def optInt : Option Operand → List AV → Option (Option Int)
  | none, _ => some none
  | some o, sl => match asI (opnd sl o) with
    | some i => some (some i)
    | none => none
def evSlice (E : Env) (T : TypeId) (x : AV) (lo hi : Option Int) (bs : Boxes) (K : AV → Option R) : Option R :=
  match kindOf E T, x with
  | .str, .val .str s =>
    let l := lo.getD 0
    let h := hi.getD s.size
    bif decide (0 ≤ l) && decide (l ≤ h) && decide (h ≤ s.size) then K (.val .str (s.extract l.toNat h.toNat)) else none
  | .slice e, .val (.sl t) xs =>
    let l := lo.getD 0
    let h := hi.getD xs.length
    bif elemRow E e t then (bif decide (0 ≤ l) && decide (l ≤ h) && decide (h ≤ xs.length) then K (.val (.sl t) ((xs.take h.toNat).drop l.toNat)) else none) else none
  | .arr n e, .imm t x off => match E.row e with
    | some r => match subsT t x r.shape n off with
      | some xs =>
        let l := lo.getD 0
        let h := hi.getD n
        bif elemRow E e r.shape then (bif decide (0 ≤ l) && decide (l ≤ h) && decide (h ≤ (n : Int)) then K (.val (.sl r.shape) ((xs.take h.toNat).drop l.toNat)) else none) else none
      | none => none
    | none => none
  | _, _ => none
def zeroRow (E : Env) (T : TypeId) : Option (List AV) :=
  match E.row T with
  | some r => some r.zero
  | none => none
def buildCells (fs : List (Nat × Nat × Bool)) : List AV → List (Nat × AV) → Option (List AV)
  | cells, [] => some cells
  | cells, (i, v) :: rest => match fs[i]? with
    | some (o, n, _) => bif Nat.beq (lenN (leaves v)) n && Nat.ble (o + n) (lenN cells) then buildCells fs (setCells cells o (leaves v)) rest else none
    | none => none
def arrPlaces : Nat → Nat → Nat → List (Nat × Nat × Bool)
  | 0, _, _ => []
  | n + 1, o, sz => (o, sz, false) :: arrPlaces n (o + sz) sz
def partsOk : List (Nat × AV) → Bool
  | [] => true
  | (_, .agg _) :: l => partsOk l
  | (_, x) :: l => cellOk x && partsOk l
def evBuild (E : Env) (T : TypeId) (parts : List (Nat × AV)) (K : AV → Option R) : Option R :=
  match E.row T with
  | some r => bif partsOk parts then match r.kind with
    | .struct fs => match buildCells fs r.zero parts with
      | some cells => K (.agg cells)
      | none => none
    | .arr n e => match E.row e with
      | some re => match buildCells (arrPlaces n 0 re.size) r.zero parts with
        | some cells => K (.agg cells)
        | none => none
      | none => none
    | _ => none else none
  | none => none
def gatherAll (bs : Boxes) (t : Ty) : Nat → List (Nat × AV) → Option (List t.den)
  | _, [] => some []
  | n, (i, v) :: rest => bif Nat.beq i n && allOk (leaves v) then
      (match gather bs t (leaves v) with
        | some (x, []) => match gatherAll bs t (n + 1) rest with
          | some l => some (x :: l)
          | none => none
        | _ => none) else none
/-- A new row of the call's own. -/
def newRow (d : Option Tmp) (bs : Boxes) (T : TypeId) (t : Ty) (xs : List t.den) (K : AV → Boxes → Option R) : Option R :=
  match d with
  | some d => K (.osl d (nextVer bs d)) ((d, (nextVer bs d, .row T t xs)) :: bs)
  | none => none
def newVar (d : Option Tmp) (bs : Boxes) (T : TypeId) (cells : List AV) (K : AV → Boxes → Option R) : Option R :=
  match d with
  | some d => bif allOk cells then K (.ref d (nextVer bs d) 0) ((d, (nextVer bs d, .var T cells)) :: bs) else none
  | none => none
def evBuildSlice (E : Env) (d : Option Tmp) (T : TypeId) (len : Nat) (parts : List (Nat × AV)) (bs : Boxes) (K : AV → Boxes → Option R) : Option R :=
  match kindOf E T with
  | .slice e => match E.row e with
    | some r => bif elemRow E e r.shape && Nat.beq parts.length len && Nat.ble (len * r.size) 16777216 then
        (match gatherAll bs r.shape 0 parts with
          | some xs => newRow d bs e r.shape xs K
          | none => none) else none
    | none => none
  | _ => none
def evMakeSlice (E : Env) (d : Option Tmp) (T : TypeId) (n m : AV) (bs : Boxes) (K : AV → Boxes → Option R) : Option R :=
  match n, m, kindOf E T with
  | .val (.int .i64) n, .val (.int .i64) m, .slice e => match E.row e with
    | some r => match gather bs r.shape r.zero with
      | some (z, []) => bif elemRow E e r.shape && Nat.beq r.size 1 && decide (0 ≤ n) && decide (n ≤ m) && decide (m * (r.bytes : Int) ≤ 140737488355328) && decide (m ≤ 9223372036854775807) then
          newRow d bs e r.shape (List.replicate n.toNat z) K else none
      | _ => none
    | none => none
  | _, _, _ => none
/-- The elements of what is appended. -/
def srcOf (E : Env) (bs : Boxes) (e : TypeId) (t : Ty) : AV → Option (List t.den)
  | .nilS => some []
  | .val (.sl t') l => if h : t' = t then some (h ▸ l) else none
  | .osl b v => match getBox bs b v with
    | .row e' t' xs => if h : t' = t then (bif Nat.beq e' e then some (h ▸ xs) else none) else none
    | _ => none
  | _ => none
/-- The boxes without that one: it is read no more. -/
def kill (bs : Boxes) (b v : Nat) : Boxes := (b, (v, .dead)) :: bs
def evAppend (E : Env) (d : Option Tmp) (T : TypeId) (x y : AV) (bs : Boxes) (K : AV → Boxes → Option R) : Option R :=
  match kindOf E T with
  | .slice e => match E.row e with
    | some r => bif elemRow E e r.shape then
        (match srcOf E bs e r.shape y with
          | some ys => match x with
            | .nilS => bif decide ((ys.length * r.bytes : Nat) ≤ 140737488355328) && decide (ys.length ≤ 9223372036854775807) then newRow d bs e r.shape ys K else none
            | .osl b v => match getBox bs b v with
              | .row e' t xs => bif Nat.beq e' e && !Nat.beq b 0 then
                  (if h : t = r.shape then
                    (bif decide (((xs.length + ys.length) * r.bytes : Nat) ≤ 140737488355328) && decide (xs.length + ys.length ≤ 9223372036854775807) then newRow d (kill bs b v) e r.shape ((h ▸ xs) ++ ys) K else none)
                    else none) else none
              | _ => none
            | _ => none
          | none => none) else none
    | none => none
  | _ => none
def evLen (E : Env) (T : TypeId) (x : AV) (bs : Boxes) (K : AV → Option R) : Option R :=
  match kindOf E T, x with
  | .str, .val .str s => K (.val (.int .i64) (s.size : Int))
  | .slice _, .val (.sl _) l => K (.val (.int .i64) (l.length : Int))
  | .slice _, .nilS => K (.val (.int .i64) (0 : Int))
  | .slice _, .osl b v => match getBox bs b v with
    | .row _ _ xs => K (.val (.int .i64) (xs.length : Int))
    | _ => none
  | .arr n _, _ => K (.val (.int .i64) (n : Int))
  | _, _ => none
def evMm (mx : Bool) : List AV → (AV → Option R) → Option R
  | [.val (.int k) a, .val (.int k') b], K => bif kindEq k k' then K (.val (.int k) (cond mx (if b > a then b else a) (if b < a then b else a))) else none
  | _, _ => none
def strOf (l : List Int) : ByteArray := ⟨(l.map fun n => UInt8.ofNat n.toNat).toArray⟩
def bytesOf (s : ByteArray) : List Int := s.data.toList.map fun b => (b.toNat : Int)
def evConv (E : Env) (d : Option Tmp) (src dst : TypeId) (x : AV) (bs : Boxes) (K : AV → Boxes → Option R) : Option R :=
  match kindOf E src, kindOf E dst, x with
  | .int _, .int k, .val (.int _) n => K (.val (.int k) (k.wrap n)) bs
  | .str, .str, .val .str s => K (.val .str s) bs
  | .slice e, .str, .val (.sl (.int .u8)) l => match kindOf E e with
    | .int .u8 => K (.val .str (strOf l)) bs
    | _ => none
  | .slice e, .str, .nilS => match kindOf E e with
    | .int .u8 => K (.val .str ByteArray.empty) bs
    | _ => none
  | .slice e, .str, .osl b v => match kindOf E e, getBox bs b v with
    | .int .u8, .row e' (.int .u8) xs => bif Nat.beq e' e then K (.val .str (strOf xs)) bs else none
    | _, _ => none
  | .str, .slice e, .val .str s => match kindOf E e with
    | .int .u8 => K (.val (.sl (.int .u8)) (bytesOf s)) bs
    | _ => none
  | _, _, _ => none
def evAssert (E : Env) (T : TypeId) (ok : Bool) (x : AV) (K : AV → Option R) : Option R :=
  match x with
  | .val .err e => match zeroRow E T with
    | some [.val (.int .i64) z] => bif ok && Nat.beq T E.ET && decide (kindOf E T = .int .i64) && z == (0 : Int) then K (.tup [.val (.int .i64) (e.getD 0), .val .bool e.isSome]) else none
    | _ => none
  | _ => none
def nth : List AV → Nat → Option AV
  | [], _ => none
  | a :: _, 0 => some a
  | _ :: l, n + 1 => nth l n
def callOp (E : Env) (d : Option Nat) (f : AV) (args : List AV) (bs : Boxes) (K : AV → Boxes → Option R) : Option R :=
  match f with
  | .fn g caps => match E.callee g with
    | some s => s.run d (args ++ caps) bs R K
    | none => none
  | _ => none
def isNilL {α : Type} : List α → Bool
  | [] => true
  | _ => false
/-- Variables alone. -/
def allRef : List AV → Bool
  | [] => true
  | .ref _ _ _ :: l => allRef l
  | _ :: _ => false
def evMakeFunc (fn : Fn) (b : Bool) (caps : List AV) (K : AV → Option R) : Option R :=
  match fn with
  | .func f => bif b && allRef caps then K (.fn f caps) else none
  | _ => none
/-- One operation: the value for its temporary, and the boxes behind it. -/
def evOp (E : Env) (o : Oper) (sl : List AV) (bs : Boxes) (K : AV → Boxes → Option R) : Option R :=
  match o.op with
  | .move x | .assign x => K (opnd sl x) bs
  | .pick c a b => match opnd sl c with
    | .val .bool t => cond t (K (opnd sl a) bs) (K (opnd sl b) bs)
    | _ => none
  | .binOp op T x y _ => evBin E op T (isConstO x || isConstO y) (opnd sl x) (opnd sl y) fun v => K v bs
  | .unOp op _ x => evUn op (opnd sl x) fun v => K v bs
  | .convert s d x => evConv E (E.nid o.dst) s d (opnd sl x) bs K
  | .extract t i => match opnd sl t with
    | .tup l => match nth l i with
      | some v => K v bs
      | none => none
    | _ => none
  | .makeInterface t x => match opnd sl x with
    | .val (.int .i64) n => bif Nat.beq t E.ET && decide (kindOf E t = .int .i64) then K (.val .err (some n)) bs else none
    | _ => none
  | .typeAssert x _ T ok => evAssert E T ok (opnd sl x) fun v => K v bs
  | .load T x => evLoad E T (opnd sl x) bs fun v => K v bs
  | .store T x y => evStore E T (opnd sl x) (opnd sl y) bs fun bs => K .und bs
  | .fieldAddr T x f => evFieldAddr E T (opnd sl x) f bs fun v => K v bs
  | .field T x f => evField E T (opnd sl x) f fun v => K v bs
  | .nilCheck x => match opnd sl x with
    | .ref b v off => bif isVar (getBox bs b v) then K (.ref b v off) bs else none
    | .imm t x off => K (.imm t x off) bs
    | .val (.nptr t) p => p.bind fun y => K (.imm t y 0) bs
    | _ => none
  | .indexAddr T x i => evIndexAddr E T (opnd sl x) (opnd sl i) bs fun v => K v bs
  | .index T x i => evIndex E T (opnd sl x) (opnd sl i) fun v => K v bs
  | .slice T x lo hi none => match optInt lo sl, optInt hi sl with
    | some l, some h => evSlice E T (opnd sl x) l h bs fun v => K v bs
    | _, _ => none
  | .alloc T => match zeroRow E T with
    | some z => newVar (E.nid o.dst) bs T z K
    | none => none
  | .box T x => match E.row T with
    | some r => bif Nat.beq (lenN (leaves (opnd sl x))) r.size then newVar (E.nid o.dst) bs T (leaves (opnd sl x)) K else none
    | none => none
  | .build T ps => evBuild E T (ps.toList.map fun p => (p.1, opnd sl p.2)) fun v => K v bs
  | .buildSlice T n ps => evBuildSlice E (E.nid o.dst) T n (ps.toList.map fun p => (p.1, opnd sl p.2)) bs K
  | .makeFunc fn fs caps => evMakeFunc fn (isNilL fs.toList) (caps.toList.map (opnd sl)) fun v => K v bs
  | .makeSlice T n m => evMakeSlice E (E.nid o.dst) T (opnd sl n) (opnd sl m) bs K
  | .call { callee := .value f, args := xs, argTypes := _ } => callOp E (E.nid o.dst) (opnd sl f) (xs.toList.map (opnd sl)) bs K
  | .call { callee := .builtin b, args := xs, argTypes := ts } =>
    match b, ts.toList, xs.toList.map (opnd sl) with
    | .len, T :: _, [x] => evLen E T x bs fun v => K v bs
    | .append, [T, T'], [x, y] => bif Nat.beq T T' then evAppend E (E.nid o.dst) T x y bs K else none
    | .max, _, l => evMm true l fun v => K v bs
    | .min, _, l => evMm false l fun v => K v bs
    | _, _, _ => none
  | _ => none
def guardSlot (all : List Oper) (j : Nat) : Option Tmp :=
  match all, j with
  | [], _ => none
  | o :: _, 0 => o.dst
  | _ :: l, n + 1 => guardSlot l n
def keepB (l : List Nat) (d : Option Tmp) : Bool :=
  match d with
  | some d => notN l d
  | none => true
where notN : List Nat → Nat → Bool
  | [], _ => true
  | a :: l, n => !Nat.beq a n && notN l n
def evOps (E : Env) (all : List Oper) : List Oper → St → (St → Option R) → Option R
  | [], st, K => K st
  | o :: rest, st, K => bif !keepB E.keep o.dst then none else
    let yes (sl : List AV) : Option R := evOp E o sl st.bs fun v bs => evOps E all rest ⟨putS sl o.dst v, bs⟩ K
    let no (sl : List AV) : Option R := evOps E all rest ⟨putS sl o.dst .und, st.bs⟩ K
    match o.guard with
    | none => yes st.slots
    | some (j, want) =>
      match guardSlot all j with
      | none => none
      | some s => match getS st.slots s with
        | .val .bool b =>
          cond b (cond want (yes (setS st.slots s (.val .bool true))) (no (setS st.slots s (.val .bool true))))
            (cond want (no (setS st.slots s (.val .bool false))) (yes (setS st.slots s (.val .bool false))))
        | .und => no st.slots
        | _ => none
/-! ### boxes told as plain values from here on -/
inductive Th where
  | row (t : Ty) (xs : List t.den)
  | var (t : Ty) (x : t.den)
def thA (b v : Nat) (c : Th) : AV → AV
  | .osl b' v' => match c with
    | .row t xs => bif Nat.beq b' b && Nat.beq v' v then .val (.sl t) xs else .osl b' v'
    | .var _ _ => .osl b' v'
  | .ref b' v' off => match c with
    | .var t x => bif Nat.beq b' b && Nat.beq v' v then .imm t x off else .ref b' v' off
    | .row _ _ => .ref b' v' off
  | x => x
def thAs (b v : Nat) (c : Th) : List AV → List AV
  | [] => []
  | x :: l => thA b v c x :: thAs b v c l
def thC (b v : Nat) (c : Th) : AV → AV
  | .agg l => .agg (thAs b v c l)
  | x => thA b v c x
def thCs (b v : Nat) (c : Th) : List AV → List AV
  | [] => []
  | x :: l => thC b v c x :: thCs b v c l
def thV (b v : Nat) (c : Th) : AV → AV
  | .tup l => .tup (thCs b v c l)
  | x => thC b v c x
def thVs (b v : Nat) (c : Th) : List AV → List AV
  | [] => []
  | x :: l => thV b v c x :: thVs b v c l
def thX (b v : Nat) (c : Th) : BoxC → BoxC
  | .var T cells => .var T (thAs b v c cells)
  | x => x
def thB (b v : Nat) (c : Th) : Boxes → Boxes
  | [] => []
  | (i, (k, x)) :: l => (i, (k, thX b v c x)) :: thB b v c l
def thSt (b v : Nat) (c : Th) (st : St) : St := ⟨thVs b v c st.slots, (b, (v, .dead)) :: thB b v c st.bs⟩
def freezeB (E : Env) (st : St) (b v : Nat) : St :=
  bif Nat.beq b 0 then st else match getBox st.bs b v with
    | .row _ t xs => thSt b v (.row t xs) st
    | .var T cells => match E.row T with
      | some r => match gather st.bs r.shape cells with
        | some (x, []) => thSt b v (.var r.shape x) st
        | _ => st
      | none => st
    | .dead => st
def rowsL : List AV → List (Nat × Nat)
  | [] => []
  | .osl b v :: l => (b, v) :: rowsL l
  | _ :: l => rowsL l
def catP : List (Nat × Nat) → List (Nat × Nat) → List (Nat × Nat)
  | [], m => m
  | x :: l, m => x :: catP l m
def boxL (bs : Boxes) : List AV → List (Nat × Nat)
  | [] => []
  | .osl b v :: l => (b, v) :: boxL bs l
  | .ref b v _ :: l => catP (match getBox bs b v with
    | .var _ cells => rowsL cells
    | _ => []) ((b, v) :: boxL bs l)
  | _ :: l => boxL bs l
def freezeL (E : Env) (st : St) : List (Nat × Nat) → St
  | [] => st
  | (b, v) :: l => freezeL E (freezeB E st b v) l
/-- Rows alone. -/
def boxR (bs : Boxes) : List AV → List (Nat × Nat)
  | [] => []
  | .osl b v :: l => (b, v) :: boxR bs l
  | .ref b v _ :: l => catP (match getBox bs b v with
    | .var _ cells => rowsL cells
    | _ => []) (boxR bs l)
  | _ :: l => boxR bs l
/-- A temporary's number; from 1000000 on: its rows alone. -/
def freezeT (E : Env) (st : St) : List Tmp → St
  | [] => st
  | t :: l => freezeT E (freezeL E st (bif Nat.blt t 1000000 then boxL st.bs (leaves (getS st.slots t)) else boxR st.bs (leaves (getS st.slots (t - 1000000))))) l
def frzOf : List (Tmp × List Tmp) → Option Tmp → List Tmp
  | [], _ => []
  | (d, l) :: r, x => match x with
    | some y => bif Nat.beq d y then l else frzOf r x
    | none => []
def evOpsF (E : Env) (all : List Oper) : List Oper → St → (St → Option R) → Option R
  | [], st, K => K st
  | o :: rest, st, K => evOps E all [o] (freezeT E st (frzOf E.frz o.dst)) fun st => evOpsF E all rest st K
/-! ### regions that draw their order -/
def memN : List Nat → Nat → Bool
  | [], _ => false
  | a :: l, n => Nat.beq a n || memN l n
/-- The boxes that values lead to. -/
def catN : List Nat → List Nat → List Nat
  | [], m => m
  | a :: l, m => a :: catN l m
def mentR : List AV → List Nat
  | [] => []
  | .ref b _ _ :: l => b :: mentR l
  | _ :: l => mentR l
def mentL : List AV → List Nat
  | [] => []
  | .ref b _ _ :: l => b :: mentL l
  | .osl b _ :: l => b :: mentL l
  | .oel b _ _ _ :: l => b :: mentL l
  | .fn _ k :: l => catN (mentR k) (mentL l)
  | _ :: l => mentL l
def ment : List AV → List Nat
  | [] => []
  | .ref b _ _ :: l => b :: ment l
  | .osl b _ :: l => b :: ment l
  | .oel b _ _ _ :: l => b :: ment l
  | .fn _ k :: l => catN (mentR k) (ment l)
  | .agg k :: l => catN (mentL k) (ment l)
  | _ :: l => ment l
def callBase (d : Option Nat) : Nat :=
  match d with
  | some n => 200000 + 1000 * n
  | none => 200000
def rangeN (c : Nat) : Nat → List Nat
  | 0 => []
  | n + 1 => (c + n) :: rangeN c n
def nidL (d : Option Nat) : List Nat :=
  match d with
  | some n => [n]
  | none => []
def isNilN : List Nat → Bool
  | [] => true
  | _ => false
/-- No variables. -/
def rowsB (bs : Boxes) : List Nat → Bool
  | [] => true
  | b :: l => (match look bs b with | some (_, .var _ _) => false | _ => true) && rowsB bs l
/-- The boxes that an operation reads or writes (none: any). -/
def foot (E : Env) (o : Oper) (sl : List AV) (bs : Boxes) : Option (List Nat) :=
  match o.op with
  | .move _ | .assign _ | .pick _ _ _ | .binOp _ _ _ _ _ | .unOp _ _ _ | .extract _ _ | .makeInterface _ _ | .typeAssert _ _ _ _ | .field _ _ _ | .index _ _ _ | .build _ _ | .slice _ _ _ _ none => some []
  | .convert _ _ x | .load _ x | .fieldAddr _ x _ | .nilCheck x | .indexAddr _ x _ | .store _ x _ => some (ment [opnd sl x])
  | .alloc _ | .box _ _ | .buildSlice _ _ _ | .makeSlice _ _ _ => some (nidL (E.nid o.dst))
  | .call { callee := .builtin _, args := xs, argTypes := _ } => some (catN (nidL (E.nid o.dst)) (ment (xs.toList.map (opnd sl))))
  | .call { callee := .value f, args := xs, argTypes := _ } => match opnd sl f with
    | .fn g [] => match E.callee g with
      | some s => match s.nb with
        | some n => bif rowsB bs (ment (xs.toList.map (opnd sl))) then some (catN (ment (xs.toList.map (opnd sl))) (rangeN (callBase (E.nid o.dst)) n)) else none
        | none => none
      | none => none
    | _ => none
  | _ => none
def isSliceK : RK → Bool
  | .slice _ => true
  | _ => false
/-- It tells one thing. -/
def detB (E : Env) (o : Oper) (sl : List AV) : Bool :=
  match o.op with
  | .binOp _ T _ _ _ => !isSliceK (kindOf E T)
  | .call { callee := .value f, args := _, argTypes := _ } => match opnd sl f with
    | .fn g [] => match E.callee g with
      | some s => s.nb.isSome
      | none => false
    | _ => false
  | _ => true
def lenBs : Boxes → Nat
  | [] => 0
  | _ :: l => lenBs l + 1
def idsN : Nat → Boxes → List Nat
  | 0, _ => []
  | _ + 1, [] => []
  | n + 1, (b, _) :: l => b :: idsN n l
def getN : List Nat → Nat → Nat
  | [], _ => 0
  | a :: _, 0 => a
  | _ :: l, n + 1 => getN l n
/-- Which operations come ahead of each, by the edges, as bits. -/
def maskOf (acc : List Nat) : List Edge → Nat → Nat
  | [], s => s
  | e :: l, s => maskOf acc l (bif Region.binds .any e then s ||| 2 ^ e.on ||| getN acc e.on else s)
def snocN : List Nat → Nat → List Nat
  | [], x => [x]
  | a :: l, x => a :: snocN l x
def masks : List Oper → List Nat → List Nat
  | [], acc => acc
  | o :: l, acc => masks l (snocN acc (maskOf acc o.after.toList 0))
/-- All edges lead back. -/
def backB : List Oper → Nat → Bool
  | [], _ => true
  | o :: l, i => o.after.toList.all (fun e => !Region.binds .any e || Nat.blt e.on i) && backB l (i + 1)
abbrev Log := List (Nat × Oper × Option (List Nat) × List Nat)
def disjN : Option (List Nat) → List Nat → Bool
  | some l, w => w.all fun b => !memN l b
  | none, w => isNilN w
def okOne (all : List Oper) (bm : Nat) (i : Nat) (o : Oper) (A : Option (List Nat)) (W : List Nat) : Log → Bool
  | [] => true
  | (j, oj, Aj, Wj) :: l => (bm.testBit j || (oj.apart all.toArray o && disjN A Wj && disjN Aj W)) && okOne all bm i o A W l
def okLog (all : List Oper) (bms : List Nat) : Log → Bool
  | [] => true
  | (i, o, A, W) :: l => okOne all (getN bms i) i o A W l && okLog all bms l
def evOpsD (E : Env) (all : List Oper) : List Oper → Nat → St → Log → (St → Option R) → Option R
  | [], _, st, lg, K => bif okLog all (masks all []) lg && backB all 0 && Region.noSelect all.toArray then K st else none
  | o :: rest, i, st, lg, K => bif detB E o st.slots then
      evOps E all [o] st fun st1 => evOpsD E all rest (i + 1) st1 ((i, o, foot E o st.slots st.bs, idsN (lenBs st1.bs - lenBs st.bs) st1.bs) :: lg) K
    else none
structure Kont (R : Type) where
  normal : St → Option R
  ret : St → Option R
  exits : List (Nat × (St → Option R))
def findExit (l : List (Nat × (St → Option R))) (i : Nat) : St → Option R :=
  match l with
  | [] => fun _ => none
  | (j, k) :: r => bif Nat.beq j i then k else findExit r i
/-- How many points (loops, sequences) a piece of code has. -/
def cnt : Code → Nat
  | .seq a b => cnt a + cnt b + 1
  | .loop b => cnt b + 1
  | .cond _ a b => cnt a + cnt b
  | .block _ b => cnt b
  | _ => 0
/-- The code, from point number n on. T: what follows at a point (a loop's head, or a cut). -/
def evCode (E : Env) (T : Nat → St → Option R) (cuts : List Nat) : Code → Nat → Kont R → St → Option R
  | .skip, _, K, st => K.normal st
  | .region id ops draw, _, K, st => bif draw then evOpsD E ops.toList ops.toList 0 (freezeT E st (frzOf E.frz (some (1000000 + id)))) [] K.normal else evOpsF E ops.toList ops.toList st K.normal
  | .seq a b, n, K, st =>
    evCode E T cuts a (n + 1) { K with normal := bif memN cuts n then T n else evCode E T cuts b (n + 1 + cnt a) K } st
  | .cond c a b, n, K, st =>
    match c with
    | .tmp t => match getS st.slots t with
      | .val .bool x => cond x (evCode E T cuts a n K ⟨setS st.slots t (.val .bool true), st.bs⟩) (evCode E T cuts b (n + cnt a) K ⟨setS st.slots t (.val .bool false), st.bs⟩)
      | _ => none
    | .const (.bool x) => cond x (evCode E T cuts a n K st) (evCode E T cuts b (n + cnt a) K st)
    | _ => none
  | .block i b, n, K, st => evCode E T cuts b n { K with exits := (i, K.normal) :: K.exits } st
  | .loop _, n, _, st => T n st
  | .exit i, _, K, st => findExit K.exits i st
  | .ret, _, K, st => K.ret st
  | _, _, _, _ => none
end
end Go.Proofs.Ytfdppbfefplikaa.Ev
