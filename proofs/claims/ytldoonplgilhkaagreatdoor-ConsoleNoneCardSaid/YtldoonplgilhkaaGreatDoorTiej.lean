/-
PART OF THE PROOF OF ConsoleNone.
-/
import Derived.Test.YtldoonplgilhkaaGreatDoorRows
import Derived.LaidByTextLater
import Derived.SevenTiedAt
set_option maxRecDepth 100000
namespace Go.Proofs.YtldoonplgilhkaaGreatDoor
open Go
theorem noOwnWord : Tryz.pinned.checked.prog.headLifts.contains "ownunsafe" = false := by kernel_rfl
theorem fitsL : Tryz.pinned.checked.prog.listedFits [("internal/strconv.uint64pow10", Rows.laid_internal_strconv_uint64pow10), ("math/bits.deBruijn32tab", Rows.laid_math_bits_deBruijn32tab), ("math/bits.deBruijn64tab", Rows.laid_math_bits_deBruijn64tab), ("redpencil/message.parts", Rows.laid_redpencil_message_parts), ("unicode/utf8.first", Rows.laid_unicode_utf8_first), ("unicode/utf8.acceptRanges", Rows.laid_unicode_utf8_acceptRanges), ("unicode.CaseRanges", Rows.laid_unicode_CaseRanges), ("strconv.ErrSyntax", Rows.laid_strconv_ErrSyntax), ("strconv.ErrRange", Rows.laid_strconv_ErrRange)] = true := by
  unfold Program.listedFits
  rw [noOwnWord]
  kernel_rfl
end Go.Proofs.YtldoonplgilhkaaGreatDoor

namespace Go.Proofs.YtldoonplgilhkaaGreatDoor
open Go
theorem ca_wf : Rows.consoleNoneRow.wfByText (OpenSpec.ofChange Rows.consoleNoneSpec) = true := by kernel_rfl
end Go.Proofs.YtldoonplgilhkaaGreatDoor

namespace Go.Proofs.YtldoonplgilhkaaGreatDoor
open Go
theorem ca_main : Tryz.pinned.checked.prog.mainIs = some (true, "d3801ec63f5a839e7fe8a6542a2605fea2a6e1bf15445514ced7cc6fac3b1a47".toList) := by kernel_rfl
end Go.Proofs.YtldoonplgilhkaaGreatDoor

namespace Go.Proofs.YtldoonplgilhkaaGreatDoor
open Go
theorem ca_looks : true = Tryz.pinned.checked.prog.looks [] := by kernel_rfl
end Go.Proofs.YtldoonplgilhkaaGreatDoor

namespace Go.Proofs.YtldoonplgilhkaaGreatDoor
open Go
theorem ca_stand : Tryz.prog.wantsStandIn 9 = false := by kernel_rfl
end Go.Proofs.YtldoonplgilhkaaGreatDoor
