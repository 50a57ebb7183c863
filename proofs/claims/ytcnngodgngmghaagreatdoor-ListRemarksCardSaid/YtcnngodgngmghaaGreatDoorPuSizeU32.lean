/- A word's bytes: how many. -/
import Derived.Test.YtcnngodgngmghaaGreatDoorEvG
import Derived.Test.YtcnngodgngmghaaGreatDoorEvE
namespace Go.Proofs.YtcnngodgngmghaaGreatDoor.Ev
open Go
set_option linter.unusedVariables false
set_option linter.unusedSimpArgs false

theorem size_u32 : g_octets_Size_u32 ((), ()) = some ((), ((4, ()), ())) :=
  Evn.lim ⟨10, fun k hk => by obtain ⟨m, rfl⟩ := Nat.exists_eq_add_of_le hk; rw [Nat.add_comm]; kernel_rfl⟩
end Go.Proofs.YtcnngodgngmghaaGreatDoor.Ev
