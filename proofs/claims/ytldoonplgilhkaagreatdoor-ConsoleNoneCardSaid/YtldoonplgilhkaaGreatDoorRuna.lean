/-
PART OF THE PROOF OF ConsoleNone.
-/
import Derived.Test.YtldoonplgilhkaaGreatDoorEnt
set_option maxRecDepth 100000
namespace Go.Proofs
open Go Go.Ev
theorem Tryz.run31_1372 : checkB (Tryz.tab Tryz.memoF Tryz.isoF (fun _ _ => none)) (runC (Tryz.tab Tryz.memoF Tryz.isoF (fun _ _ => none)) 1000000) 31 1372 Tryz.e31_1372 = true := by kernel_rfl
end Go.Proofs

namespace Go.Proofs
open Go Go.Ev
theorem Tryz.run31_2219 : checkB (Tryz.tab Tryz.memoF Tryz.isoF (fun _ _ => none)) (runC (Tryz.tab Tryz.memoF Tryz.isoF (fun _ _ => none)) 1000000) 31 2219 Tryz.e31_2219 = true := by kernel_rfl
end Go.Proofs

namespace Go.Proofs
open Go Go.Ev
theorem Tryz.run31_2483 : checkB (Tryz.tab Tryz.memoF Tryz.isoF (fun _ _ => none)) (runC (Tryz.tab Tryz.memoF Tryz.isoF (fun _ _ => none)) 1000000) 31 2483 Tryz.e31_2483 = true := by kernel_rfl
end Go.Proofs

namespace Go.Proofs
open Go Go.Ev
theorem Tryz.run31_4464 : checkB (Tryz.tab Tryz.memoF Tryz.isoF (fun _ _ => none)) (runC (Tryz.tab Tryz.memoF Tryz.isoF (fun _ _ => none)) 1000000) 31 4464 Tryz.e31_4464 = true := by kernel_rfl
end Go.Proofs
