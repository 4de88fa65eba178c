/-
PART OF THE PROOF OF ConsoleNone.
-/
import Derived.Test.YtldoonplgilhkaaGreatDoorEnt
set_option maxRecDepth 100000
namespace Go.Proofs
open Go Go.Ev
theorem Tryz.run5_6652 : checkB (Tryz.tab Tryz.memoF Tryz.isoF (fun _ _ => none)) (runC (Tryz.tab Tryz.memoF Tryz.isoF (fun _ _ => none)) 1000000) 5 6652 Tryz.e5_6652 = true := by kernel_rfl
end Go.Proofs

namespace Go.Proofs
open Go Go.Ev
theorem Tryz.run5_6874 : checkB (Tryz.tab Tryz.memoF Tryz.isoF (fun _ _ => none)) (runC (Tryz.tab Tryz.memoF Tryz.isoF (fun _ _ => none)) 1000000) 5 6874 Tryz.e5_6874 = true := by kernel_rfl
end Go.Proofs

namespace Go.Proofs
open Go Go.Ev
theorem Tryz.run5_7115 : checkB (Tryz.tab Tryz.memoF Tryz.isoF (fun _ _ => none)) (runC (Tryz.tab Tryz.memoF Tryz.isoF (fun _ _ => none)) 1000000) 5 7115 Tryz.e5_7115 = true := by kernel_rfl
end Go.Proofs
