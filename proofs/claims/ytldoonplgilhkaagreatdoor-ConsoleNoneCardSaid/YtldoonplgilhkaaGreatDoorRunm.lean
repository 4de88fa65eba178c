/-
PART OF THE PROOF OF ConsoleNone.
-/
import Derived.Test.YtldoonplgilhkaaGreatDoorEnt
set_option maxRecDepth 100000
namespace Go.Proofs
open Go Go.Ev
theorem Tryz.runKnown : valOf (callK 10 (Tryz.tab Tryz.memoF Tryz.isoF Tryz.orac2) (runC (Tryz.tab Tryz.memoF Tryz.isoF Tryz.orac2) 1000000) 4 [] Tryz.heap0 10 retK) = some (.bool true) := by kernel_rfl
end Go.Proofs
