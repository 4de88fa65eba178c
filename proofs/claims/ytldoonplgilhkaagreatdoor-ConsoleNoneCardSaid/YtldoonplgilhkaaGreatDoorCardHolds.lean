/-
THE TIED CARD OF ConsoleNone: the law returns true for every line; the row's list is tied to the program's text. No condition.
-/
import Derived.Test.YtldoonplgilhkaaGreatDoorCards
import Derived.Test.YtldoonplgilhkaaGreatDoorRowHolds
import Derived.Test.YtldoonplgilhkaaGreatDoorTiei
import Derived.Test.YtldoonplgilhkaaGreatDoorTiej
import Derived.Test.YtldoonplgilhkaaGreatDoorTieList
import Derived.Test.YtldoonplgilhkaaGreatDoorTiea
import Derived.Test.YtldoonplgilhkaaGreatDoorTieb
import Derived.Test.YtldoonplgilhkaaGreatDoorTiec
import Derived.Test.YtldoonplgilhkaaGreatDoorTied
import Derived.Test.YtldoonplgilhkaaGreatDoorTiee
import Derived.Test.YtldoonplgilhkaaGreatDoorTief
import Derived.Test.YtldoonplgilhkaaGreatDoorTieg
import Derived.Test.YtldoonplgilhkaaGreatDoorTieh
import Derived.Test.YtldoonplgilhkaaGreatDoorTiek
set_option maxRecDepth 100000
namespace Go.Proofs.YtldoonplgilhkaaGreatDoor
open Go
theorem ca_goes : false = Rows.consoleNoneRow.goesBy Tryz.pinned.checked.prog := by
  have hall : ∀ g : Nat, (Tryz.prog.funcs[g]?).any Func.goes = false := by
    intro g
    cases hg : Tryz.prog.funcs[g]? with
    | none => rfl
    | some fn =>
      have h1 := ca_nogo
      rw [Array.any_eq_false] at h1
      obtain ⟨hlt, he⟩ := Array.getElem?_eq_some_iff.1 hg
      have := h1 g hlt
      rw [he] at this
      simpa using this
  have h1 : Tryz.prog.goes 3 = false := by
    unfold Program.goes
    rw [ca_nogo, Bool.and_false, Bool.or_false, List.any_eq_false]
    intro g _
    rw [hall g]; decide
  have h2 : Tryz.pinned.checked.prog.goes 3 = false := h1
  unfold OpenClaim.goesBy Program.goesAt Program.goesFrom
  rw [row_named, Option.any_some, h2, Bool.false_or]
  exact Eq.refl false
theorem tieL : Tryz.prog.laidByTextLater laidL [.data, .data, .data, .data, .data, .sentinel, .sentinel] true :=
  Program.laidByTextLater_by_run 400 8 t_hw t_hw2 t_hroot t_hk t_hg t_hn t_hd t_h1 t_h2 t_hp
theorem row_tie : Rows.consoleNoneRow.laidByTextAt .later Tryz.pinned [.data, .data, .data, .data, .pinned, .data, .pinned, .sentinel, .sentinel] true :=
  OpenClaim.laidByTextAt_pinned rfl rfl tieL rfl rfl rfl rfl (fun y hy e => by
    simp only [Rows.consoleNoneRow, List.zip_cons_cons, List.zip_nil_right, List.mem_cons, List.mem_nil_iff, or_false] at hy
    rcases hy with rfl | rfl | rfl | rfl | rfl | rfl | rfl | rfl | rfl
    · cases e
    · cases e
    · cases e
    · cases e
    · exact ⟨pin_first, by kernel_rfl⟩
    · cases e
    · exact ⟨pin_case, by kernel_rfl⟩
    · cases e
    · cases e) fitsL
theorem card_holds : Rows.ConsoleNoneCardSaid :=
  Claim7.holds_tied_plain_at .later [] [.data, .data, .data, .data, .pinned, .data, .pinned, .sentinel, .sentinel] true (true, "d3801ec63f5a839e7fe8a6542a2605fea2a6e1bf15445514ced7cc6fac3b1a47") true
    row_holds (fun _ h => by cases h) ca_wf (fun _ h => by cases h) row_tie rfl ⟨rfl, rfl⟩ ca_main rfl
    (fun f fn hf hfn => by
      obtain rfl : f = 3 := (Option.some.inj (row_named.symm.trans hf)).symm
      obtain rfl : fn = Tryz.f3 := (Option.some.inj (Tryz.func3.symm.trans hfn)).symm
      exact ⟨ca_looks, fun j t ht => by
        rw [Tryz.params3] at ht
        have h9 : t = 9 := by
          rcases j with _ | j
          · simpa using ht.symm
          · simp at ht
        subst h9
        exact ca_stand⟩)
    ca_goes
#print axioms card_holds
end Go.Proofs.YtldoonplgilhkaaGreatDoor
