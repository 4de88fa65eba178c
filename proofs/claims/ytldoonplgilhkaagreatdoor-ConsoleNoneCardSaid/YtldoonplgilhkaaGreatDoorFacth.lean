/-
PART OF THE PROOF OF ConsoleNone.
-/
import Derived.Test.YtldoonplgilhkaaGreatDoorRows
import Derived.ProofKit
import Derived.Stop.Joined
import Derived.JoinedOf
import Derived.Test.YtldoonplgilhkaaGreatDoorFacte
import Derived.Test.YtldoonplgilhkaaGreatDoorFactf
import Derived.Test.YtldoonplgilhkaaGreatDoorFactg
set_option maxRecDepth 100000
namespace Go.Proofs.YtldoonplgilhkaaGreatDoor
open Go
theorem clU0 : Tryz.prog.closureVia 1723 clS0.1 clS0.2 = Tryz.prog.closureVia 1423 clS1.1 clS1.2 :=
  (via_step Tryz.prog 1423 300 clS0).trans (congrArg (fun s : List FuncId × List FuncId => Tryz.prog.closureVia 1423 s.1 s.2) clT0)
theorem clU1 : Tryz.prog.closureVia 1423 clS1.1 clS1.2 = Tryz.prog.closureVia 1123 clS2.1 clS2.2 :=
  (via_step Tryz.prog 1123 300 clS1).trans (congrArg (fun s : List FuncId × List FuncId => Tryz.prog.closureVia 1123 s.1 s.2) clT1)
theorem clU2 : Tryz.prog.closureVia 1123 clS2.1 clS2.2 = Tryz.prog.closureVia 823 clS3.1 clS3.2 :=
  (via_step Tryz.prog 823 300 clS2).trans (congrArg (fun s : List FuncId × List FuncId => Tryz.prog.closureVia 823 s.1 s.2) clT2)
theorem clU3 : Tryz.prog.closureVia 823 clS3.1 clS3.2 = Tryz.prog.closureVia 523 clS4.1 clS4.2 :=
  (via_step Tryz.prog 523 300 clS3).trans (congrArg (fun s : List FuncId × List FuncId => Tryz.prog.closureVia 523 s.1 s.2) clT3)
theorem clV : Tryz.prog.closureVia 523 clS4.1 clS4.2 = closL := (via_nil Tryz.prog 523 clS4.2).trans (by kernel_rfl)
theorem clW : Tryz.prog.closure 3 = Tryz.prog.closureVia 1723 clS0.1 clS0.2 := congrArg (fun k => Tryz.prog.closureVia k [3] []) fuelOk
theorem clos : Tryz.pinned.checked.prog.closure 3 = closL := clW.trans (clU0.trans (clU1.trans (clU2.trans (clU3.trans clV))))
theorem fact9 : ((Rows.consoleNoneRow.inPlace == Tryz.pinned.checked.prog.inPlace 3)) = true := by
  unfold Program.inPlace
  rw [clos]
  kernel_rfl
theorem unf : Tryz.pinned.checked.prog.unfollowed 3 = true := by
  unfold Program.unfollowed
  rw [clos]
  kernel_rfl
theorem fact10 : ((Rows.consoleNoneRow.unfollowed == Tryz.pinned.checked.prog.unfollowed 3)) = true := by
  rw [unf]; rfl
theorem fact11 : ((Rows.consoleNoneRow.recurses == Tryz.pinned.checked.prog.recurses 3)) = true := by
  unfold Program.recurses
  rw [unf, Bool.true_or]; rfl
theorem fact12 : ((Rows.consoleNoneRow.named == Tryz.pinned.checked.prog.varsNamed 3)) = true := by
  unfold Program.varsNamed
  rw [clos]
  kernel_rfl

end Go.Proofs.YtldoonplgilhkaaGreatDoor
