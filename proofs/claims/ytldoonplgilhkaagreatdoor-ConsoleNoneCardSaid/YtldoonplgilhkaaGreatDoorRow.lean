/-
THE ROW LIFTED: ConsoleNone returns true and leaves what was there as it was. No condition beyond the row's own.
-/
import Derived.Test.YtldoonplgilhkaaGreatDoorRows
import Derived.Test.YtldoonplgilhkaaGreatDoorGlob
import Derived.ProofKit
import Derived.OpenShut
import Derived.LaidMore
import Derived.Lay
import Derived.SevenTiedAt
import Derived.Stop.Joined
set_option maxRecDepth 100000
namespace Go.Proofs.YtldoonplgilhkaaGreatDoor
open Go.ChangeShapes Go.WideShapes Go.ChangeAt Go.RowKit
theorem Tryz.own : ownKnob Tryz.prog.godebug = none := by kernel_rfl
theorem Tryz.plain : (Rows.consoleNoneRow.laid.all fun x => x.2.handleName?.isNone) = true := by kernel_rfl
theorem Tryz.deb : Rows.laid_math_bits_deBruijn64tab = (Lib.tabData .u8 Tryz.debZ : DataW Unit) := by kernel_rfl
theorem Tryz.part : Rows.laid_redpencil_message_parts = (Lib.tabData .i64 Tryz.partZ : DataW Unit) := by kernel_rfl
theorem Tryz.globsRow {w : World} (hsh : w.ShapedOpen Tryz.prog) (h : laidMetH Tryz.prog Rows.consoleNoneRow.laid w) : Tryz.Globs w := by
  rw [MakeChecks.laidMetH_plain _ _ _ Tryz.plain] at h
  refine Tryz.globsOf hsh ?_ ?_
  · rw [← Tryz.deb]; exact Lib.laidMet.reads h (by simp [Rows.consoleNoneRow])
  · rw [← Tryz.part]; exact Lib.laidMet.reads h (by simp [Rows.consoleNoneRow])
theorem Tryz.shapedW (os : Os) : ((World.laidAll Tryz.prog os Rows.consoleNoneRow.laid).forCall (fun _ _ => 0) ⟨#[], #[.string ⟨#[]⟩], []⟩).Shaped Tryz.prog :=
  World.shaped_of_ZipB (by kernel_rfl) (by kernel_rfl)
theorem Tryz.laidW (os : Os) : laidMetH Tryz.prog Rows.consoleNoneRow.laid ((World.laidAll Tryz.prog os Rows.consoleNoneRow.laid).forCall (fun _ _ => 0) ⟨#[], #[.string ⟨#[]⟩], []⟩).memory := by
  rw [MakeChecks.laidMetH_plain _ _ _ Tryz.plain]; exact laidMet_laidAll _ (by kernel_rfl) (by kernel_rfl)
theorem lifted (os : Os) (started : os.Started) (H : Type) (enc : TypeId × Value → H) :
    ReturnsInHanded {} Tryz.checked os 3 .any (fun w args => (Rows.consoleNoneSpec.pre enc Tryz.prog Tryz.f3 [] false w args ∧ laidMetH Tryz.prog Rows.consoleNoneRow.laid w) ∧ sizedMet enc Tryz.prog Tryz.f3 (OpenSpec.ofChange Rows.consoleNoneSpec) false w args)
      (Rows.consoleNoneSpec.post enc Tryz.prog Tryz.f3 false true false false) := by
  refine handed_shaped (C := Tryz.checked) (X := fun w _ => laidMetH Tryz.prog Rows.consoleNoneRow.laid w) (fun _ _ _ hh h => h.of_heap hh) Tryz.own started (by kernel_rfl) Tryz.func3
    (ChangeSpec.witness_shaped (enc := enc) (C := Tryz.checked) (os := os) (X := fun w _ => laidMetH Tryz.prog Rows.consoleNoneRow.laid w) false (World.laidAll Tryz.prog os Rows.consoleNoneRow.laid) #[.string ⟨#[]⟩] 8 (World.laidAll_os _ _ _)
      (Tryz.shapedW os) (by kernel_rfl) (by kernel_rfl) (by kernel_rfl) (Tryz.laidW os)) ?_
  intro W base args ds gs before hsh hval0 hW hL
  have hval : ∀ (j : Nat) t v, Tryz.f3.params[j]? = some t → args[j]? = some v → Value.okWide Tryz.prog W .any base t v := hval0
  have hW' := hW
  obtain ⟨p, q, hA0, hV, rfl, _, _⟩ := hW
  have hA : DataW.TrodAll enc Tryz.prog W 0 (fun _ => true) true Tryz.f3.params.toList args.toList ds p := hA0
  rw [Tryz.params3] at hA hval
  obtain ⟨v0, d0, rfl, rfl, h0⟩ := trodAll_one hA
  obtain ⟨rfl, rfl⟩ := trodVars_none hV
  obtain ⟨s, rfl, rfl, rfl, hs⟩ := Go.ChangeMaps.open_string Tryz.underlying9 (hval 0 9 v0 rfl rfl) h0
  have hg := Tryz.globsRow hsh hL
  refine (Tryz.law s W hg).mono fun e W' ⟨he, hb⟩ => ?_
  subst he
  have e1 : Rows.consoleNoneSpec.fn H ([.lit (.string s.data.toList)] ++ []) = { results := [.lit (.bool true)], args := [.lit (.string s.data.toList)] } := by simp [Rows.consoleNoneSpec]
  refine ⟨_, rfl, _, _, _, [], [], [], hW', ?_, ?_, ?_, ?_, fun h => by cases h⟩
  · rw [e1]; exact trodAll_mk1 (shut_bool Tryz.underlying4 true)
  · rw [e1]; exact trodAll_mk1 (Go.ChangeMaps.shut_string Tryz.underlying9 hs)
  · rw [e1]; rfl
  · exact hb.frame _
end Go.Proofs.YtldoonplgilhkaaGreatDoor
