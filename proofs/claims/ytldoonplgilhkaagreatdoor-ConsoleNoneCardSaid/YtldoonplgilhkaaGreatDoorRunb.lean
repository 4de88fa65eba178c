/-
PART OF THE PROOF OF ConsoleNone.
-/
import Derived.Test.YtldoonplgilhkaaGreatDoorEnt
set_option maxRecDepth 100000
namespace Go.Proofs
open Go Go.Ev
theorem Tryz.run31_2735 : checkB (Tryz.tab Tryz.memoF Tryz.isoF (fun _ _ => none)) (runC (Tryz.tab Tryz.memoF Tryz.isoF (fun _ _ => none)) 1000000) 31 2735 Tryz.e31_2735 = true := by kernel_rfl
end Go.Proofs

namespace Go.Proofs
open Go Go.Ev
theorem Tryz.run31_4716 : checkB (Tryz.tab Tryz.memoF Tryz.isoF (fun _ _ => none)) (runC (Tryz.tab Tryz.memoF Tryz.isoF (fun _ _ => none)) 1000000) 31 4716 Tryz.e31_4716 = true := by kernel_rfl
end Go.Proofs

namespace Go.Proofs
open Go Go.Ev
theorem Tryz.run31_4921 : checkB (Tryz.tab Tryz.memoF Tryz.isoF (fun _ _ => none)) (runC (Tryz.tab Tryz.memoF Tryz.isoF (fun _ _ => none)) 1000000) 31 4921 Tryz.e31_4921 = true := by kernel_rfl
end Go.Proofs

namespace Go.Proofs
open Go Go.Ev
theorem Tryz.run31_5963 : checkB (Tryz.tab Tryz.memoF Tryz.isoF (fun _ _ => none)) (runC (Tryz.tab Tryz.memoF Tryz.isoF (fun _ _ => none)) 1000000) 31 5963 Tryz.e31_5963 = true := by kernel_rfl
end Go.Proofs
