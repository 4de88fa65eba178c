/-
THE ROW ConsoleNone holds. No condition.
-/
import Derived.Test.YtldoonplgilhkaaGreatDoorRow
import Derived.Test.YtldoonplgilhkaaGreatDoorFactj
import Derived.Test.YtldoonplgilhkaaGreatDoorFact
namespace Go.Proofs.YtldoonplgilhkaaGreatDoor
open Go
theorem row_holds : Rows.ConsoleNoneSaid :=
  OpenClaim.holds_of_wide 3 Tryz.f3 rfl rfl rfl rfl rfl rfl rfl ⟨rfl, rfl, rfl, rfl, rfl⟩ rfl rfl rfl rfl rfl row_named Tryz.func3 row_closed row_inst row_wrap
    (fun os started H enc _ => lifted os started H enc)
#print axioms row_holds
end Go.Proofs.YtldoonplgilhkaaGreatDoor
