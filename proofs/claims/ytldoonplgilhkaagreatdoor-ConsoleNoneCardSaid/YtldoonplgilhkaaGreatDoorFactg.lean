/-
PART OF THE PROOF OF ConsoleNone.
-/
import Derived.Test.YtldoonplgilhkaaGreatDoorRows
import Derived.ProofKit
import Derived.Stop.Joined
import Derived.JoinedOf
import Derived.Test.YtldoonplgilhkaaGreatDoorFacte
set_option maxRecDepth 100000
namespace Go.Proofs.YtldoonplgilhkaaGreatDoor
open Go
theorem clT2 : stepC Tryz.prog 300 clS2 = clS3 := by kernel_rfl
end Go.Proofs.YtldoonplgilhkaaGreatDoor

namespace Go.Proofs.YtldoonplgilhkaaGreatDoor
open Go
theorem clT3 : stepC Tryz.prog 300 clS3 = clS4 := by kernel_rfl
end Go.Proofs.YtldoonplgilhkaaGreatDoor
