/-
PART OF THE PROOF OF ConsoleNone.
-/
import Derived.Test.YtldoonplgilhkaaGreatDoorEnt
set_option maxRecDepth 100000
namespace Go.Proofs
open Go Go.Ev
theorem Tryz.runMade : valOf (callK 10 (Tryz.tab (fun _ => none) (fun _ => false) (fun _ _ => none)) (runC (Tryz.tab (fun _ => none) (fun _ => false) (fun _ _ => none)) 1000000) 494 [] (T.const .dead 14) 10 retK) = some Tryz.madeV := by kernel_rfl
end Go.Proofs
