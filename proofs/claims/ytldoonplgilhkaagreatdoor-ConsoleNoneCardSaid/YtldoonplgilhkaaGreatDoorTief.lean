/-
PART OF THE PROOF OF ConsoleNone.
-/
import Derived.Test.YtldoonplgilhkaaGreatDoorTieList
set_option maxRecDepth 100000
namespace Go.Proofs.YtldoonplgilhkaaGreatDoor
open Go
theorem t_hd : ∀ os tape, varsDone Tryz.prog 400 (varsId Tryz.prog) os tape = true := fun _ _ => by kernel_rfl
end Go.Proofs.YtldoonplgilhkaaGreatDoor
