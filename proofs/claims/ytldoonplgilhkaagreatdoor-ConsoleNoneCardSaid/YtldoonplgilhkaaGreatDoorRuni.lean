/-
PART OF THE PROOF OF ConsoleNone.
-/
import Derived.Test.YtldoonplgilhkaaGreatDoorEnt
set_option maxRecDepth 100000
namespace Go.Proofs
open Go Go.Ev
theorem Tryz.run5_1347 : checkB (Tryz.tab Tryz.memoF Tryz.isoF Tryz.orac1) (runC (Tryz.tab Tryz.memoF Tryz.isoF Tryz.orac1) 1000000) 5 1347 Tryz.e5_1347 = true := by kernel_rfl
end Go.Proofs
