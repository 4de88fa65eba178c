/-
PART OF THE PROOF OF ConsoleNone.
-/
import Derived.Test.YtldoonplgilhkaaGreatDoorEnt
set_option maxRecDepth 100000
namespace Go.Proofs
open Go Go.Ev
theorem Tryz.run5_7330 : checkB (Tryz.tab Tryz.memoF Tryz.isoF (fun _ _ => none)) (runC (Tryz.tab Tryz.memoF Tryz.isoF (fun _ _ => none)) 1000000) 5 7330 Tryz.e5_7330 = true := by kernel_rfl
end Go.Proofs

namespace Go.Proofs
open Go Go.Ev
theorem Tryz.run5_7555 : checkB (Tryz.tab Tryz.memoF Tryz.isoF (fun _ _ => none)) (runC (Tryz.tab Tryz.memoF Tryz.isoF (fun _ _ => none)) 1000000) 5 7555 Tryz.e5_7555 = true := by kernel_rfl
end Go.Proofs

namespace Go.Proofs
open Go Go.Ev
theorem Tryz.run5_7878 : checkB (Tryz.tab Tryz.memoF Tryz.isoF (fun _ _ => none)) (runC (Tryz.tab Tryz.memoF Tryz.isoF (fun _ _ => none)) 1000000) 5 7878 Tryz.e5_7878 = true := by kernel_rfl
end Go.Proofs
