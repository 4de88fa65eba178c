/-
PART OF THE PROOF OF ConsoleNone.
-/
import Derived.Test.YtldoonplgilhkaaGreatDoorRows
import Derived.ProofKit
import Derived.Stop.Joined
import Derived.JoinedOf
set_option maxRecDepth 100000
namespace Go.Proofs.YtldoonplgilhkaaGreatDoor
open Go
theorem row_named : Tryz.pinned.checked.prog.funcNamed Rows.consoleNoneRow.func = some 3 := by kernel_rfl
end Go.Proofs.YtldoonplgilhkaaGreatDoor
