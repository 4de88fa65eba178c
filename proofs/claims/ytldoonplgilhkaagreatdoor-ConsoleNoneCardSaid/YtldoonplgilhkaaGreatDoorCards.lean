/-
  DERIVED. GIVEN WITH THE SEED: THE CARDS: each row of YtldoonplgilhkaaGreatDoorRows.lean that lists a variable, with what it lists TIED to the program's text (the seventh form; the later family's looks); each row that meets fmt, with fmt's text TOLD by the authors' own Lean function (tested against real Go, not proved from fmt's source: count such statements apart). THE CARD IS WHAT COUNTS. Prove the row's statement (the work); the ties are given (YtldoonplgilhkaaGreatDoorTie.lean); close each card by the builder's one call (the guide's Derived/Test/ToyasCard.lean, 'card_holds'). Laid BY PROGRAM, IN A SANDBOX (cutbox-door.mjs). By AI agents, Wed Nov 11 2026. No macro, syntax, notation, axiom, sorry.
-/
import Derived.Test.YtldoonplgilhkaaGreatDoorRows
import GoSem.ClaimSeven
namespace Go.Proofs.YtldoonplgilhkaaGreatDoor
namespace Rows

/-- THE TIED CARD OF 'redpencillaw53.ConsoleNone'. -/
def consoleNoneCard : Claim7 := { stood := { row := consoleNoneRow, standIns := [], harness := (true, "d3801ec63f5a839e7fe8a6542a2605fea2a6e1bf15445514ced7cc6fac3b1a47"), looks := true }, kinds := [], alts := [], laidByText := true, laidKinds := [.data, .data, .data, .data, .pinned, .data, .pinned, .sentinel, .sentinel], laidTests := true, laidLooks := .later }
def ConsoleNoneCardSaid : Prop := Claim7.holds Tryz.pinned (.plain (OpenSpec.ofChange consoleNoneSpec)) consoleNoneCard

/-- THE SECOND FORM's CARD OF 'redpencillaw53.ConsoleNone'. -/
def consoleNoneUptoCard : Claim7 := { stood := { row := consoleNoneUptoRow, standIns := [], harness := (true, "d3801ec63f5a839e7fe8a6542a2605fea2a6e1bf15445514ced7cc6fac3b1a47"), looks := true }, kinds := [], alts := [], laidByText := true, laidKinds := [.data, .data, .data, .data, .pinned, .data, .pinned, .sentinel, .sentinel], laidTests := true, laidLooks := .later }
def ConsoleNoneUptoCardSaid : Prop := Claim7.holds Tryz.pinned (.plain (OpenSpec.upto consoleNoneSpec)) consoleNoneUptoCard
end Rows
end Go.Proofs.YtldoonplgilhkaaGreatDoor
