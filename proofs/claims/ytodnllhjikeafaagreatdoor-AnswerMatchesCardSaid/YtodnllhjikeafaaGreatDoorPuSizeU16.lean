/- A word's bytes: how many. -/
import Derived.Test.YtodnllhjikeafaaGreatDoorEvG
import Derived.Test.YtodnllhjikeafaaGreatDoorEvE
namespace Go.Proofs.YtodnllhjikeafaaGreatDoor.Ev
open Go
set_option linter.unusedVariables false
set_option linter.unusedSimpArgs false

theorem size_u16 : g_octets_Size_u16 ((), ()) = some ((), ((2, ()), ())) :=
  Evn.lim ⟨10, fun k hk => by obtain ⟨m, rfl⟩ := Nat.exists_eq_add_of_le hk; rw [Nat.add_comm]; kernel_rfl⟩
end Go.Proofs.YtodnllhjikeafaaGreatDoor.Ev
