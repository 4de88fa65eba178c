/-
PART OF THE PROOF OF ConsoleNone.
-/
import Derived.Test.YtldoonplgilhkaaGreatDoorRows
import Derived.ProofKit
import Derived.Stop.Joined
import Derived.JoinedOf
set_option maxRecDepth 100000
namespace Go.Proofs.YtldoonplgilhkaaGreatDoor
open Go
theorem laidT0 : ((List.range 170).all fun t => rowFine Tryz.prog (0 + t)) = true := by kernel_rfl
end Go.Proofs.YtldoonplgilhkaaGreatDoor

namespace Go.Proofs.YtldoonplgilhkaaGreatDoor
open Go
theorem laidT1 : ((List.range 170).all fun t => rowFine Tryz.prog (170 + t)) = true := by kernel_rfl
end Go.Proofs.YtldoonplgilhkaaGreatDoor
