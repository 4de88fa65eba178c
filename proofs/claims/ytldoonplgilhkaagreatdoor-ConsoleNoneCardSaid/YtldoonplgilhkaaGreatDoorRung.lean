/-
PART OF THE PROOF OF ConsoleNone.
-/
import Derived.Test.YtldoonplgilhkaaGreatDoorEnt
set_option maxRecDepth 100000
namespace Go.Proofs
open Go Go.Ev
theorem Tryz.run5_15 : checkB (Tryz.tab Tryz.memoF Tryz.isoF (fun _ _ => none)) (runC (Tryz.tab Tryz.memoF Tryz.isoF (fun _ _ => none)) 1000000) 5 15 Tryz.e5_15 = true := by kernel_rfl
end Go.Proofs

namespace Go.Proofs
open Go Go.Ev
theorem Tryz.run5_751 : checkB (Tryz.tab Tryz.memoF Tryz.isoF (fun _ _ => none)) (runC (Tryz.tab Tryz.memoF Tryz.isoF (fun _ _ => none)) 1000000) 5 751 Tryz.e5_751 = true := by kernel_rfl
end Go.Proofs

namespace Go.Proofs
open Go Go.Ev
theorem Tryz.run5_1060 : checkB (Tryz.tab Tryz.memoF Tryz.isoF (fun _ _ => none)) (runC (Tryz.tab Tryz.memoF Tryz.isoF (fun _ _ => none)) 1000000) 5 1060 Tryz.e5_1060 = true := by kernel_rfl
end Go.Proofs
