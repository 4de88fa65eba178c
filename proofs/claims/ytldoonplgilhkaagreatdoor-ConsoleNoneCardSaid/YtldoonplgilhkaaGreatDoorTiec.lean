/-
PART OF THE PROOF OF ConsoleNone.
-/
import Derived.Test.YtldoonplgilhkaaGreatDoorTieList
set_option maxRecDepth 100000
namespace Go.Proofs.YtldoonplgilhkaaGreatDoor
open Go
theorem t_hw2 : Tryz.prog.worded (varsWordLater false) = false := by kernel_rfl
end Go.Proofs.YtldoonplgilhkaaGreatDoor
