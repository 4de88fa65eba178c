/-
PART OF THE PROOF OF ConsoleNone.
-/
import Derived.Test.YtldoonplgilhkaaGreatDoorRows
import Derived.ProofKit
import Derived.Stop.Joined
import Derived.JoinedOf
import Derived.Test.YtldoonplgilhkaaGreatDoorFacti
import Derived.Test.YtldoonplgilhkaaGreatDoorFactk
set_option maxRecDepth 100000
namespace Go.Proofs.YtldoonplgilhkaaGreatDoor
open Go
theorem laidG : (Tryz.prog.globals.all (fun g => decide (g.type < Tryz.prog.types.size)) && Tryz.prog.funcs.all (fun f => f.params.all fun t => decide (t < Tryz.prog.types.size))) = true := by kernel_rfl
theorem laidN : Tryz.prog.types.size = 672 := by kernel_rfl
theorem rangeAll {p : Nat → Bool} {n a : Nat} (h : ((List.range n).all fun t => p (a + t)) = true) {t : Nat} (h1 : a ≤ t) (h2 : t < a + n) : p t = true := by
  have := List.all_eq_true.1 h (t - a) (List.mem_range.2 (by omega))
  rwa [show a + (t - a) = t by omega] at this
theorem fact1 : (laidOutB Tryz.pinned.checked.prog) = true := by
  show ((List.range Tryz.prog.types.size).all (rowFine Tryz.prog) && Tryz.prog.globals.all (fun g => decide (g.type < Tryz.prog.types.size)) && Tryz.prog.funcs.all (fun f => f.params.all fun t => decide (t < Tryz.prog.types.size))) = true
  rw [Bool.and_assoc, laidG, Bool.and_true, laidN, List.all_eq_true]
  intro t ht
  have ht := List.mem_range.1 ht
  rcases Nat.lt_or_ge t 170 with h | h
  · exact rangeAll laidT0 (Nat.zero_le _) (by omega)
  · rcases Nat.lt_or_ge t 340 with h' | h'
    · exact rangeAll laidT1 h (by omega)
    · rcases Nat.lt_or_ge t 510 with h'' | h''
      · exact rangeAll laidT2 h' (by omega)
      · exact rangeAll laidT3 h'' (by omega)

end Go.Proofs.YtldoonplgilhkaaGreatDoor
