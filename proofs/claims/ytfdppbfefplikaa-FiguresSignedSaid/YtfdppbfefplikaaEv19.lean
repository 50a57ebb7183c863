/- Names for the arithmetic that the printed functions use; limits. -/
import Derived.Test.YtfdppbfefplikaaEv18
namespace Go.Proofs.Ytfdppbfefplikaa.Ev
open Go
def iadd (k : IntKind) (a b : Int) : Int := k.wrap (a + b)
def isub (k : IntKind) (a b : Int) : Int := k.wrap (a - b)
def imul (k : IntKind) (a b : Int) : Int := k.wrap (a * b)
def iquo (k : IntKind) (a b : Int) : Int := k.wrap (a.tdiv b)
def iand (k : IntKind) (a b : Int) : Int := k.wrap ((BitVec.ofInt k.bits a &&& BitVec.ofInt k.bits b).toNat)
def ior (k : IntKind) (a b : Int) : Int := k.wrap ((BitVec.ofInt k.bits a ||| BitVec.ofInt k.bits b).toNat)
def ixor (k : IntKind) (a b : Int) : Int := k.wrap ((BitVec.ofInt k.bits a ^^^ BitVec.ofInt k.bits b).toNat)
def iandNot (k : IntKind) (a b : Int) : Int := k.wrap ((BitVec.ofInt k.bits a &&& ~~~BitVec.ofInt k.bits b).toNat)
def ishl (k : IntKind) (a b : Int) : Int := k.wrap (a * 2 ^ (min b.toNat k.bits))
def ishr (k : IntKind) (a b : Int) : Int := a.fdiv (2 ^ (min b.toNat k.bits))
def ineg (k : IntKind) (a : Int) : Int := k.wrap (0 - a)
def inot (k : IntKind) (a : Int) : Int := k.wrap ((BitVec.ofInt k.bits (if k.signed then -1 else k.max) ^^^ BitVec.ofInt k.bits a).toNat)
def iconv (k : IntKind) (a : Int) : Int := k.wrap a
def bodyOf (f : Func) : Code := f.body.getD .skip
open Classical in
/-- What is told with enough rounds. -/
noncomputable def lim {R : Type} (F : Nat → Option R) : Option R := if h : ∃ out, ∃ n, ∀ k, n ≤ k → F k = some out then some h.choose else none
theorem lim_some {R : Type} {F : Nat → Option R} {out : R} (h : lim F = some out) : ∃ k, F k = some out := by
  unfold lim at h
  split at h
  · rename_i hx
    simp only [Option.some.injEq] at h
    obtain ⟨n, hn⟩ := hx.choose_spec
    exact ⟨n, by rw [hn n (Nat.le_refl n), h]⟩
  · cases h
theorem lim_eq {R : Type} {F : Nat → Option R} {out : R} (n : Nat) (h : ∀ k, n ≤ k → F k = some out) : lim F = some out := by
  have hx : ∃ out, ∃ n, ∀ k, n ≤ k → F k = some out := ⟨out, n, h⟩
  unfold lim
  rw [dif_pos hx]
  obtain ⟨m, hm⟩ := hx.choose_spec
  have h1 := hm (max n m) (Nat.le_max_right ..)
  rw [h (max n m) (Nat.le_max_left ..)] at h1
  exact h1.symm
end Go.Proofs.Ytfdppbfefplikaa.Ev
