/-
PART OF THE PROOF OF ConsoleNone.
-/
import Derived.Test.YtldoonplgilhkaaGreatDoorRows
import Derived.ProofKit
import Derived.Stop.Joined
import Derived.JoinedOf
import Derived.Test.YtldoonplgilhkaaGreatDoorFacte
set_option maxRecDepth 100000
namespace Go.Proofs.YtldoonplgilhkaaGreatDoor
open Go
theorem clT0 : stepC Tryz.prog 300 clS0 = clS1 := by kernel_rfl
end Go.Proofs.YtldoonplgilhkaaGreatDoor

namespace Go.Proofs.YtldoonplgilhkaaGreatDoor
open Go
theorem clT1 : stepC Tryz.prog 300 clS1 = clS2 := by kernel_rfl
end Go.Proofs.YtldoonplgilhkaaGreatDoor
