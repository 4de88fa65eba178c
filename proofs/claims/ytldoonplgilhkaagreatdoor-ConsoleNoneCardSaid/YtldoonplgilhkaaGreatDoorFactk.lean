/-
PART OF THE PROOF OF ConsoleNone.
-/
import Derived.Test.YtldoonplgilhkaaGreatDoorRows
import Derived.ProofKit
import Derived.Stop.Joined
import Derived.JoinedOf
set_option maxRecDepth 100000
namespace Go.Proofs.YtldoonplgilhkaaGreatDoor
open Go
theorem laidT2 : ((List.range 170).all fun t => rowFine Tryz.prog (340 + t)) = true := by kernel_rfl
end Go.Proofs.YtldoonplgilhkaaGreatDoor

namespace Go.Proofs.YtldoonplgilhkaaGreatDoor
open Go
theorem laidT3 : ((List.range 162).all fun t => rowFine Tryz.prog (510 + t)) = true := by kernel_rfl
end Go.Proofs.YtldoonplgilhkaaGreatDoor
