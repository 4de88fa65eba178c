/-
THE LAW's WALK: true whatever the line is; the two tables out of the row's condition. No condition.
-/
import Derived.Test.YtldoonplgilhkaaGreatDoorKnown
import Derived.Lib.LaidTab
import Derived.Lib.LaidU8
import Derived.Handed
import Derived.WalkKit
set_option maxRecDepth 100000
namespace Go.Proofs
open Go Go.Ev Go.RowKit
def Tryz.debZ : List Int := [0, 1, 56, 2, 57, 49, 28, 3, 61, 58, 42, 50, 38, 29, 17, 4, 62, 47, 59, 36, 45, 43, 51, 22, 53, 39, 33, 30, 24, 18, 12, 5, 63, 55, 48, 27, 60, 41, 37, 16, 46, 35, 44, 21, 52, 32, 23, 11, 54, 26, 40, 15, 34, 20, 31, 10, 25, 14, 19, 9, 13, 8, 7, 6]
def Tryz.partZ : List Int := [0, 7, 2, 8, 6, 6]
theorem Tryz.debOk : (Tryz.debZ.map fun z => Value.int .u8 z) = Tryz.debruijn := by kernel_rfl
theorem Tryz.partOk : (Tryz.partZ.map fun z => Value.int .i64 z) = Tryz.partsV := by kernel_rfl
theorem Tryz.row8 : ((((begin Tryz.prog (fun _ _ => 0) default).world.heap[8]?).bind Obj.row?).map fun q => q.2) = some 475 := by kernel_rfl
theorem Tryz.row9 : ((((begin Tryz.prog (fun _ _ => 0) default).world.heap[9]?).bind Obj.row?).map fun q => q.2) = some 531 := by kernel_rfl
theorem Tryz.gsize : Tryz.prog.globals.size = 10 := by kernel_rfl
theorem Tryz.n8 : Tryz.prog.globalNamed "math/bits.deBruijn64tab" = some 8 := by kernel_rfl
theorem Tryz.n9 : Tryz.prog.globalNamed "redpencil/message.parts" = some 9 := by kernel_rfl
theorem Tryz.y8 : (Tryz.prog.globals[8]?).map (·.type) = some 475 := by kernel_rfl
theorem Tryz.y9 : (Tryz.prog.globals[9]?).map (·.type) = some 531 := by kernel_rfl
theorem Tryz.c3 : Tryz.prog.cellsOf 3 = 1 := by kernel_rfl
theorem Tryz.c475 : Tryz.prog.cellsOf 475 = 64 := by kernel_rfl
theorem Tryz.c531 : Tryz.prog.cellsOf 531 = 6 := by kernel_rfl
theorem Tryz.u475 : Tryz.prog.underlying 475 = some (.array 64 5) := by kernel_rfl
theorem Tryz.u531 : Tryz.prog.underlying 531 = some (.array 6 3) := by kernel_rfl
theorem Tryz.u5 : Tryz.prog.underlying 5 = some (.int .u8) := by kernel_rfl
theorem Tryz.u3 : Tryz.prog.underlying 3 = some (.int .i64) := by kernel_rfl
theorem Tryz.globBlock {w : World} (hsh : w.ShapedOpen Tryz.prog) {g : Nat} {t : TypeId} (hg : g < 10) (hr : ((((begin Tryz.prog (fun _ _ => 0) default).world.heap[g]?).bind Obj.row?).map fun q => q.2) = some t) {n : String} {cs : Array Value}
    (hn : Tryz.prog.globalNamed n = some g) (hv : w.var? Tryz.prog n = some cs) : ∃ fz, w.heap[g]? = some (.cells cs t fz) := by
  obtain ⟨⟨zero, t'⟩, h1, h2⟩ := Option.map_eq_some_iff.1 hr
  have h2 : t' = t := h2
  subst h2
  obtain ⟨cs', h3, _⟩ := hsh.1 g zero t' (by rw [Tryz.gsize]; exact hg) h1
  simp only [World.var?, hn, Option.bind_some, h3] at hv
  exact ⟨_, by rw [h3, Option.some.inj hv]⟩
theorem Tryz.globsOf {w : World} (hsh : w.ShapedOpen Tryz.prog) (h8 : Lib.VarReads Tryz.prog w "math/bits.deBruijn64tab" (Lib.tabData .u8 Tryz.debZ)) (h9 : Lib.VarReads Tryz.prog w "redpencil/message.parts" (Lib.tabData .i64 Tryz.partZ)) : Tryz.Globs w := by
  constructor
  · obtain ⟨g, t, cs, fuel, p, hg, ht, hv, hd⟩ := h8
    obtain rfl := Option.some.inj (Tryz.n8.symm.trans hg)
    obtain rfl := Option.some.inj (Tryz.y8.symm.trans ht)
    have hcs := Lib.cells_of_tab Tryz.u475 Tryz.u5 Tryz.c1 Tryz.c475 hd
    rw [Tryz.debOk] at hcs
    have : cs = ⟨Tryz.debruijn⟩ := by rw [← hcs]
    rw [← this]
    exact Tryz.globBlock hsh (by decide) Tryz.row8 Tryz.n8 hv
  · obtain ⟨g, t, cs, fuel, p, hg, ht, hv, hd⟩ := h9
    obtain rfl := Option.some.inj (Tryz.n9.symm.trans hg)
    obtain rfl := Option.some.inj (Tryz.y9.symm.trans ht)
    have hcs := Lib.cells_of_tab Tryz.u531 Tryz.u3 Tryz.c3 Tryz.c531 hd
    rw [Tryz.partOk] at hcs
    have : cs = ⟨Tryz.partsV⟩ := by rw [← hcs]
    rw [← this]
    exact Tryz.globBlock hsh (by decide) Tryz.row9 Tryz.n9 hv
theorem Tryz.link {w w1 w2 : World} (h : Below w.heap.size w w1) (h' : Below w1.heap.size w1 w2) : Below w.heap.size w w2 := h.trans (h'.mono h.size)
set_option maxHeartbeats 4000000 in
theorem Tryz.law (s : ByteArray) (w : World) (hg : Tryz.Globs w) : Calls Tryz.prog 3 #[.string s] w fun e w' => e = .returned (.bool true) ∧ Below w.heap.size w w' := by
  by_cases hs : (420 : Int) < s.size
  · go_enter Tryz.func3, Tryz.ntmps3
    go_wp2_with (go_at_call 4; refine (Tryz.known hg).mono ?_; rintro e w' ⟨rfl, hb⟩)
    go_ret
    exact ⟨rfl, hb⟩
  · go_enter Tryz.func3, Tryz.ntmps3
    go_wp2_with (first | (go_at_call 5; refine (Tryz.doNil s hg).mono ?_; rintro e w1 ⟨rfl, hb1⟩) | (go_at_call 6; refine (Tryz.copyNil (Tryz.globs_below hg hb1)).mono ?_; rintro e w2 ⟨rfl, hb2⟩) | (go_at_call 4; refine (Tryz.known (Tryz.globs_below (Tryz.globs_below hg hb1) hb2)).mono ?_; rintro e w3 ⟨rfl, hb3⟩))
    go_ret
    exact ⟨rfl, Tryz.link hb1 (Tryz.link hb2 hb3)⟩
/-- a row whose condition is met by a world of the right shape: the contract sees the shape -/
theorem handed_shaped {H : Type} {enc : TypeId × Value → H} {a : Assume} {C : Checked} {os : Os} {f : FuncId} {fn : Func} {s : ChangeSpec} {conds : List PathCond} {apart fresh handsOn again : Bool} {X : World → Array Value → Prop}
    (hX : ∀ (w w' : World) (args : Array Value), w.heap = w'.heap → X w args → X w' args)
    (own : ownKnob C.prog.godebug = none) (started : os.Started) (noInit : C.prog.inits.idxOf? f = none) (hfn : C.prog.funcs[f]? = some fn)
    (witness : ∃ (w : World) (tape : Tape) (i : Input), w.os = os ∧ (w.forCall tape i).Shaped C.prog ∧ i.vars = [] ∧ Input.okWide C.prog (w.forCall tape i) .any w.heap.size f i ∧
      ((s.pre enc C.prog fn conds apart (w.forCall tape i).memory i.args ∧ X (w.forCall tape i).memory i.args) ∧ sizedMet enc C.prog fn (OpenSpec.ofChange s) apart (w.forCall tape i).memory i.args) ∧ a.holds C.prog (lone (Frame.enter C.prog f i.args .normal) [] (w.forCall tape i)))
    (contract : ∀ (W : World) (base : Nat) (args : Array Value) (ds gs : List (DataW H)) (before : List MemPlace), W.ShapedOpen C.prog →
      (∀ (j : Nat) t v, fn.params[j]? = some t → args[j]? = some v → Value.okWide C.prog W .any base t v) →
      DataW.Whole enc C.prog fn.params.toList s.vars apart W args.toList ds gs before → X W args →
      Calls C.prog f args W fun e W' => ∃ v, e = .returned v ∧ s.post enc C.prog fn apart fresh handsOn again W args v W') :
    ReturnsInHanded a C os f .any (fun w args => (s.pre enc C.prog fn conds apart w args ∧ X w args) ∧ sizedMet enc C.prog fn (OpenSpec.ofChange s) apart w args) (s.post enc C.prog fn apart fresh handsOn again) := by
  refine returnsInHanded_of_calls own started noInit witness ?_
  intro w tape i _ hsh _ hok hpre _
  obtain ⟨_, _, _, fn', hfn', _, _, _, _, hval⟩ := hok
  have e : fn' = fn := Option.some.inj (hfn'.symm.trans hfn)
  subst e
  obtain ⟨⟨⟨ds, gs, before, hw, _⟩, hx⟩, _⟩ := hpre
  have hw' := DataW.Whole.of_heap (w' := w.forCall tape i) (by rfl) hw
  refine (contract (w.forCall tape i) w.heap.size i.args ds gs before hsh hval hw' (hX _ _ _ (by rfl) hx)).mono fun e W' ⟨v, he, hp⟩ => ?_
  subst he
  exact ChangeSpec.post_blind hp
end Go.Proofs
