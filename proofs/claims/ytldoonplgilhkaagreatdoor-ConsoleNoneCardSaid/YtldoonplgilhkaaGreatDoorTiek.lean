/-
PART OF THE PROOF OF ConsoleNone.
-/
import Derived.Test.YtldoonplgilhkaaGreatDoorRows
import Derived.LaidByTextLater
import Derived.SevenTiedAt
set_option maxRecDepth 100000
namespace Go.Proofs.YtldoonplgilhkaaGreatDoor
open Go
theorem ca_nogo : Tryz.prog.funcs.any Func.goes = false := by kernel_rfl
end Go.Proofs.YtldoonplgilhkaaGreatDoor
