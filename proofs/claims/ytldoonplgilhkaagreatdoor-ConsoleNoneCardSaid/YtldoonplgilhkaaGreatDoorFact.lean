/-
PART OF THE PROOF OF ConsoleNone.
-/
import Derived.Test.YtldoonplgilhkaaGreatDoorRows
import Derived.ProofKit
import Derived.Stop.Joined
import Derived.JoinedOf
import Derived.Test.YtldoonplgilhkaaGreatDoorFacth
import Derived.Test.YtldoonplgilhkaaGreatDoorFactl
import Derived.Test.YtldoonplgilhkaaGreatDoorFacta
import Derived.Test.YtldoonplgilhkaaGreatDoorFactb
import Derived.Test.YtldoonplgilhkaaGreatDoorFactc
import Derived.Test.YtldoonplgilhkaaGreatDoorFactd
set_option maxRecDepth 100000
namespace Go.Proofs.YtldoonplgilhkaaGreatDoor
open Go
theorem bothTrue {a b : Bool} (ha : a = true) (hb : b = true) : (a && b) = true := by rw [ha, hb]; rfl
theorem row_closed : joinedFacts Tryz.pinned.checked.prog 3 Tryz.f3 Rows.consoleNoneSpec Rows.consoleNoneRow = true := by
  unfold joinedFacts
  exact (bothTrue (bothTrue (bothTrue (bothTrue (bothTrue (bothTrue (bothTrue (bothTrue (bothTrue (bothTrue (bothTrue (bothTrue (bothTrue (bothTrue (bothTrue (bothTrue (bothTrue (bothTrue (bothTrue (bothTrue (bothTrue (bothTrue (bothTrue (bothTrue (bothTrue (bothTrue (bothTrue (bothTrue (bothTrue (bothTrue (bothTrue fact0 fact1) fact2) fact3) fact4) fact5) fact6) fact7) fact8) fact9) fact10) fact11) fact12) fact13) fact14) fact15) fact16) fact17) fact18) fact19) fact20) fact21) fact22) fact23) fact24) fact25) fact26) fact27) fact28) fact29) fact30) fact31)
end Go.Proofs.YtldoonplgilhkaaGreatDoor

namespace Go.Proofs.YtldoonplgilhkaaGreatDoor
open Go
theorem row_inst : Tryz.f3.isInstance Tryz.pinned.checked.prog Rows.consoleNoneRow.origin Rows.consoleNoneRow.targs := of_decide_eq_true (by kernel_rfl)
end Go.Proofs.YtldoonplgilhkaaGreatDoor

namespace Go.Proofs.YtldoonplgilhkaaGreatDoor
open Go
theorem row_wrap : Tryz.f3.isWrapper Tryz.pinned.checked.prog Rows.consoleNoneRow.wrapper Rows.consoleNoneRow.mainSum := by unfold Func.isWrapper; first | (rw [if_pos (by decide +kernel)]; kernel_rfl) | (rw [if_neg (by decide +kernel)]; exact ⟨rfl, rfl⟩)
end Go.Proofs.YtldoonplgilhkaaGreatDoor
