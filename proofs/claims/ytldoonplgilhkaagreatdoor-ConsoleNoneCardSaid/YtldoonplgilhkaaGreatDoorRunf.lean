/-
PART OF THE PROOF OF ConsoleNone.
-/
import Derived.Test.YtldoonplgilhkaaGreatDoorEnt
set_option maxRecDepth 100000
namespace Go.Proofs
open Go Go.Ev
theorem Tryz.run31_5127 : checkB (Tryz.tab Tryz.memoF Tryz.isoF (fun _ _ => none)) (runC (Tryz.tab Tryz.memoF Tryz.isoF (fun _ _ => none)) 1000000) 31 5127 Tryz.e31_5127 = true := by kernel_rfl
end Go.Proofs
