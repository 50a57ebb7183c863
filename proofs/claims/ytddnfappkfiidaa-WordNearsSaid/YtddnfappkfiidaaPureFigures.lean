/- The laws of figures, plain. -/
import Derived.Test.YtddnfappkfiidaaPuPutF
import Derived.Test.YtddnfappkfiidaaPuNn
namespace Go.Proofs.Ytddnfappkfiidaa.Ev
open Go
set_option linter.unusedVariables false
set_option linter.unusedSimpArgs false
theorem take_val {s : ByteArray} {least most limit : Int} (h : takeE s least most limit = 0) : cutV s (takeK s most) ≤ limit ∧ takeK s most ≤ 20 ∧ takeK s most ≤ lead (bytesOf s) ∧ least ≤ takeK s most ∧ 1 ≤ least := by
  unfold takeE at h
  split at h
  · cases h
  · split at h
    · cases h
    · split at h
      · rename_i h1 h2 h3
        unfold takeK
        exact ⟨h3, by omega, by omega, by omega, by omega⟩
      · cases h
theorem cutV_nn {s : ByteArray} {k : Nat} (h : k ≤ lead (bytesOf s)) : 0 ≤ cutV s k := (val10_range _ _ rfl (cut_figs h)).1
/-- What whole gives: the error's number. -/
def wholeE (s : ByteArray) (least most limit : Int) : Int := if takeE s least most limit = 0 then if takeK s most < s.size then 2 else 0 else takeE s least most limit
theorem whole_take {s : ByteArray} {least most limit : Int} (h : wholeE s least most limit = 0) : takeE s least most limit = 0 ∧ s.size ≤ takeK s most := by
  unfold wholeE at h
  split at h
  · split at h
    · cases h
    · exact ⟨by assumption, by omega⟩
  · contradiction
end Go.Proofs.Ytddnfappkfiidaa.Ev
