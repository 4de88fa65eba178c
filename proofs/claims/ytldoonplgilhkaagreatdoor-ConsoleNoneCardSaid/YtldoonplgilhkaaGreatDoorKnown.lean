/-
THE CLOSED RUN of the chapter's examples gives true, in every world that holds the two tables; a nil console's answers. No condition.
-/
import Derived.Test.YtldoonplgilhkaaGreatDoorRuna
import Derived.Test.YtldoonplgilhkaaGreatDoorRunc
import Derived.Test.YtldoonplgilhkaaGreatDoorRunb
import Derived.Test.YtldoonplgilhkaaGreatDoorRund
import Derived.Test.YtldoonplgilhkaaGreatDoorRune
import Derived.Test.YtldoonplgilhkaaGreatDoorRunf
import Derived.Test.YtldoonplgilhkaaGreatDoorRung
import Derived.Test.YtldoonplgilhkaaGreatDoorRunh
import Derived.Test.YtldoonplgilhkaaGreatDoorRuni
import Derived.Test.YtldoonplgilhkaaGreatDoorRunj
import Derived.Test.YtldoonplgilhkaaGreatDoorRunk
import Derived.Test.YtldoonplgilhkaaGreatDoorRunl
import Derived.Test.YtldoonplgilhkaaGreatDoorRunm
set_option maxRecDepth 100000
namespace Go.Proofs
open Go Go.Ev Go.RowKit
noncomputable def Tryz.es (t : TypeId) : Nat := match Tryz.prog.info? t with | some i => i.size | none => 0
theorem Tryz.hes (K : Ctx) (h : K.es = Tryz.es) : ∀ t i, Tryz.prog.info? t = some i → K.es t = i.size := by
  intro t i hi
  rw [h]; unfold Tryz.es; rw [hi]
theorem Tryz.ext (memo : Nat → Option Value) (iso : Nat → Bool) (orac : Nat → Nat → Option Entry) (K : Ctx) (h : K.es = Tryz.es) : ExtOk K Tryz.prog (Tryz.tab memo iso orac) :=
  ext_ok (Tryz.tabOk memo iso orac) (Tryz.hes K h) (Tryz.extOk memo iso orac)
theorem Tryz.rc (memo : Nat → Option Value) (iso : Nat → Bool) (orac : Nat → Nat → Option Entry) (K : Ctx) (h : K.es = Tryz.es) (hM : MemoOk K (Tryz.tab memo iso orac) Tryz.prog) (n : Nat) : RCOk K Tryz.prog (runC (Tryz.tab memo iso orac) n) :=
  run_ok (Tryz.tabOk memo iso orac) (Tryz.hes K h) (Tryz.ext memo iso orac K h) hM (draw_ok (Tryz.tabOk memo iso orac) (Tryz.hes K h) Tryz.mixed) n
theorem Tryz.memo0 (K : Ctx) : MemoOk K (Tryz.tab (fun _ => none) (fun _ => false) (fun _ _ => none)) Tryz.prog := ⟨(fun f v h => by cases h), (fun f nx E h => by cases h)⟩
theorem Tryz.made : ∀ w : World, 10 ≤ w.heap.size → ∃ w', Runs Tryz.prog 494 [] w Tryz.madeV w' ∧ Below w.heap.size w w' := by
  intro w h10
  refine top_ok (σ := Tryz.es) (Tryz.tabOk _ _ _) (Tryz.ext _ _ _) (fun K _ => Tryz.memo0 K) (fun K h => Tryz.rc _ _ _ K h (Tryz.memo0 K) 1000000) (by kernel_rfl) rfl (T.full_const _ _) (fun id _ _ => T.get_const _ _ _) (fun g _ => ?_) h10 Tryz.runMade
  rw [T.get_const]; trivial
theorem Tryz.memoOk (orac : Nat → Nat → Option Entry) (ho : ∀ f nx E, orac f nx = some E → EntryOk Tryz.es Tryz.prog f nx E) (K : Ctx) (h : K.es = Tryz.es) : MemoOk K (Tryz.tab Tryz.memoF Tryz.isoF orac) Tryz.prog := by
  refine ⟨fun f v hm => ?_, fun f nx E he => by rw [h]; exact ho f nx E he⟩
  have hm : Tryz.memoF f = some v := hm
  unfold Tryz.memoF at hm
  split at hm
  · rename_i hf
    obtain rfl := Nat.eq_of_beq_eq_true hf
    obtain rfl := Option.some.inj hm
    exact ⟨by kernel_rfl, Tryz.made⟩
  · cases hm
theorem Tryz.entryOk (orac : Nat → Nat → Option Entry) (ho : ∀ f nx E, orac f nx = some E → EntryOk Tryz.es Tryz.prog f nx E) {f : FuncId} {nx : Nat} {E : Entry}
    (hc : checkB (Tryz.tab Tryz.memoF Tryz.isoF orac) (runC (Tryz.tab Tryz.memoF Tryz.isoF orac) 1000000) f nx E = true) : EntryOk Tryz.es Tryz.prog f nx E :=
  entry_ok (Tryz.tabOk _ _ _) (Tryz.ext _ _ _) (fun K h => Tryz.rc _ _ _ K h (Tryz.memoOk orac ho K h) 1000000) hc
theorem Tryz.noOrac : ∀ f nx E, (fun _ _ => none : Nat → Nat → Option Entry) f nx = some E → EntryOk Tryz.es Tryz.prog f nx E := fun f nx E h => by cases h
theorem Tryz.ok31_1372 : EntryOk Tryz.es Tryz.prog 31 1372 Tryz.e31_1372 := Tryz.entryOk (fun _ _ => none) Tryz.noOrac Tryz.run31_1372
theorem Tryz.ok31_1651 : EntryOk Tryz.es Tryz.prog 31 1651 Tryz.e31_1651 := Tryz.entryOk (fun _ _ => none) Tryz.noOrac Tryz.run31_1651
theorem Tryz.ok31_2219 : EntryOk Tryz.es Tryz.prog 31 2219 Tryz.e31_2219 := Tryz.entryOk (fun _ _ => none) Tryz.noOrac Tryz.run31_2219
theorem Tryz.ok31_2483 : EntryOk Tryz.es Tryz.prog 31 2483 Tryz.e31_2483 := Tryz.entryOk (fun _ _ => none) Tryz.noOrac Tryz.run31_2483
theorem Tryz.ok31_2735 : EntryOk Tryz.es Tryz.prog 31 2735 Tryz.e31_2735 := Tryz.entryOk (fun _ _ => none) Tryz.noOrac Tryz.run31_2735
theorem Tryz.ok31_2941 : EntryOk Tryz.es Tryz.prog 31 2941 Tryz.e31_2941 := Tryz.entryOk (fun _ _ => none) Tryz.noOrac Tryz.run31_2941
theorem Tryz.ok31_3665 : EntryOk Tryz.es Tryz.prog 31 3665 Tryz.e31_3665 := Tryz.entryOk (fun _ _ => none) Tryz.noOrac Tryz.run31_3665
theorem Tryz.ok31_4464 : EntryOk Tryz.es Tryz.prog 31 4464 Tryz.e31_4464 := Tryz.entryOk (fun _ _ => none) Tryz.noOrac Tryz.run31_4464
theorem Tryz.ok31_4716 : EntryOk Tryz.es Tryz.prog 31 4716 Tryz.e31_4716 := Tryz.entryOk (fun _ _ => none) Tryz.noOrac Tryz.run31_4716
theorem Tryz.ok31_4921 : EntryOk Tryz.es Tryz.prog 31 4921 Tryz.e31_4921 := Tryz.entryOk (fun _ _ => none) Tryz.noOrac Tryz.run31_4921
theorem Tryz.ok31_5127 : EntryOk Tryz.es Tryz.prog 31 5127 Tryz.e31_5127 := Tryz.entryOk (fun _ _ => none) Tryz.noOrac Tryz.run31_5127
theorem Tryz.ok31_5963 : EntryOk Tryz.es Tryz.prog 31 5963 Tryz.e31_5963 := Tryz.entryOk (fun _ _ => none) Tryz.noOrac Tryz.run31_5963
theorem Tryz.oracOk1 : ∀ f nx E, Tryz.orac1 f nx = some E → EntryOk Tryz.es Tryz.prog f nx E := by
  intro f nx E h
  unfold Tryz.orac1 at h
  cases hf : Nat.beq f 31 with
  | false => rw [hf] at h; cases h
  | true =>
    rw [hf] at h
    obtain rfl := Nat.eq_of_beq_eq_true hf
    simp only [cond_true] at h
    cases h5963 : Nat.beq nx 5963 with
    | true => rw [h5963] at h; obtain rfl := Nat.eq_of_beq_eq_true h5963; obtain rfl := Option.some.inj h; exact Tryz.ok31_5963
    | false =>
    rw [h5963] at h; simp only [cond_false] at h
    cases h5127 : Nat.beq nx 5127 with
    | true => rw [h5127] at h; obtain rfl := Nat.eq_of_beq_eq_true h5127; obtain rfl := Option.some.inj h; exact Tryz.ok31_5127
    | false =>
    rw [h5127] at h; simp only [cond_false] at h
    cases h4921 : Nat.beq nx 4921 with
    | true => rw [h4921] at h; obtain rfl := Nat.eq_of_beq_eq_true h4921; obtain rfl := Option.some.inj h; exact Tryz.ok31_4921
    | false =>
    rw [h4921] at h; simp only [cond_false] at h
    cases h4716 : Nat.beq nx 4716 with
    | true => rw [h4716] at h; obtain rfl := Nat.eq_of_beq_eq_true h4716; obtain rfl := Option.some.inj h; exact Tryz.ok31_4716
    | false =>
    rw [h4716] at h; simp only [cond_false] at h
    cases h4464 : Nat.beq nx 4464 with
    | true => rw [h4464] at h; obtain rfl := Nat.eq_of_beq_eq_true h4464; obtain rfl := Option.some.inj h; exact Tryz.ok31_4464
    | false =>
    rw [h4464] at h; simp only [cond_false] at h
    cases h3665 : Nat.beq nx 3665 with
    | true => rw [h3665] at h; obtain rfl := Nat.eq_of_beq_eq_true h3665; obtain rfl := Option.some.inj h; exact Tryz.ok31_3665
    | false =>
    rw [h3665] at h; simp only [cond_false] at h
    cases h2941 : Nat.beq nx 2941 with
    | true => rw [h2941] at h; obtain rfl := Nat.eq_of_beq_eq_true h2941; obtain rfl := Option.some.inj h; exact Tryz.ok31_2941
    | false =>
    rw [h2941] at h; simp only [cond_false] at h
    cases h2735 : Nat.beq nx 2735 with
    | true => rw [h2735] at h; obtain rfl := Nat.eq_of_beq_eq_true h2735; obtain rfl := Option.some.inj h; exact Tryz.ok31_2735
    | false =>
    rw [h2735] at h; simp only [cond_false] at h
    cases h2483 : Nat.beq nx 2483 with
    | true => rw [h2483] at h; obtain rfl := Nat.eq_of_beq_eq_true h2483; obtain rfl := Option.some.inj h; exact Tryz.ok31_2483
    | false =>
    rw [h2483] at h; simp only [cond_false] at h
    cases h2219 : Nat.beq nx 2219 with
    | true => rw [h2219] at h; obtain rfl := Nat.eq_of_beq_eq_true h2219; obtain rfl := Option.some.inj h; exact Tryz.ok31_2219
    | false =>
    rw [h2219] at h; simp only [cond_false] at h
    cases h1651 : Nat.beq nx 1651 with
    | true => rw [h1651] at h; obtain rfl := Nat.eq_of_beq_eq_true h1651; obtain rfl := Option.some.inj h; exact Tryz.ok31_1651
    | false =>
    rw [h1651] at h; simp only [cond_false] at h
    cases h1372 : Nat.beq nx 1372 with
    | true => rw [h1372] at h; obtain rfl := Nat.eq_of_beq_eq_true h1372; obtain rfl := Option.some.inj h; exact Tryz.ok31_1372
    | false =>
    rw [h1372] at h; simp only [cond_false] at h
    cases h
theorem Tryz.ok5_15 : EntryOk Tryz.es Tryz.prog 5 15 Tryz.e5_15 := Tryz.entryOk (fun _ _ => none) Tryz.noOrac Tryz.run5_15
theorem Tryz.ok5_289 : EntryOk Tryz.es Tryz.prog 5 289 Tryz.e5_289 := Tryz.entryOk (fun _ _ => none) Tryz.noOrac Tryz.run5_289
theorem Tryz.ok5_751 : EntryOk Tryz.es Tryz.prog 5 751 Tryz.e5_751 := Tryz.entryOk (fun _ _ => none) Tryz.noOrac Tryz.run5_751
theorem Tryz.ok5_1060 : EntryOk Tryz.es Tryz.prog 5 1060 Tryz.e5_1060 := Tryz.entryOk (fun _ _ => none) Tryz.noOrac Tryz.run5_1060
theorem Tryz.ok5_1347 : EntryOk Tryz.es Tryz.prog 5 1347 Tryz.e5_1347 := Tryz.entryOk Tryz.orac1 Tryz.oracOk1 Tryz.run5_1347
theorem Tryz.ok5_6652 : EntryOk Tryz.es Tryz.prog 5 6652 Tryz.e5_6652 := Tryz.entryOk (fun _ _ => none) Tryz.noOrac Tryz.run5_6652
theorem Tryz.ok5_6874 : EntryOk Tryz.es Tryz.prog 5 6874 Tryz.e5_6874 := Tryz.entryOk (fun _ _ => none) Tryz.noOrac Tryz.run5_6874
theorem Tryz.ok5_7115 : EntryOk Tryz.es Tryz.prog 5 7115 Tryz.e5_7115 := Tryz.entryOk (fun _ _ => none) Tryz.noOrac Tryz.run5_7115
theorem Tryz.ok5_7330 : EntryOk Tryz.es Tryz.prog 5 7330 Tryz.e5_7330 := Tryz.entryOk (fun _ _ => none) Tryz.noOrac Tryz.run5_7330
theorem Tryz.ok5_7555 : EntryOk Tryz.es Tryz.prog 5 7555 Tryz.e5_7555 := Tryz.entryOk (fun _ _ => none) Tryz.noOrac Tryz.run5_7555
theorem Tryz.ok5_7878 : EntryOk Tryz.es Tryz.prog 5 7878 Tryz.e5_7878 := Tryz.entryOk (fun _ _ => none) Tryz.noOrac Tryz.run5_7878
theorem Tryz.oracOk2 : ∀ f nx E, Tryz.orac2 f nx = some E → EntryOk Tryz.es Tryz.prog f nx E := by
  intro f nx E h
  unfold Tryz.orac2 at h
  cases hf : Nat.beq f 5 with
  | false => rw [hf] at h; cases h
  | true =>
    rw [hf] at h
    obtain rfl := Nat.eq_of_beq_eq_true hf
    simp only [cond_true] at h
    cases h7878 : Nat.beq nx 7878 with
    | true => rw [h7878] at h; obtain rfl := Nat.eq_of_beq_eq_true h7878; obtain rfl := Option.some.inj h; exact Tryz.ok5_7878
    | false =>
    rw [h7878] at h; simp only [cond_false] at h
    cases h7555 : Nat.beq nx 7555 with
    | true => rw [h7555] at h; obtain rfl := Nat.eq_of_beq_eq_true h7555; obtain rfl := Option.some.inj h; exact Tryz.ok5_7555
    | false =>
    rw [h7555] at h; simp only [cond_false] at h
    cases h7330 : Nat.beq nx 7330 with
    | true => rw [h7330] at h; obtain rfl := Nat.eq_of_beq_eq_true h7330; obtain rfl := Option.some.inj h; exact Tryz.ok5_7330
    | false =>
    rw [h7330] at h; simp only [cond_false] at h
    cases h7115 : Nat.beq nx 7115 with
    | true => rw [h7115] at h; obtain rfl := Nat.eq_of_beq_eq_true h7115; obtain rfl := Option.some.inj h; exact Tryz.ok5_7115
    | false =>
    rw [h7115] at h; simp only [cond_false] at h
    cases h6874 : Nat.beq nx 6874 with
    | true => rw [h6874] at h; obtain rfl := Nat.eq_of_beq_eq_true h6874; obtain rfl := Option.some.inj h; exact Tryz.ok5_6874
    | false =>
    rw [h6874] at h; simp only [cond_false] at h
    cases h6652 : Nat.beq nx 6652 with
    | true => rw [h6652] at h; obtain rfl := Nat.eq_of_beq_eq_true h6652; obtain rfl := Option.some.inj h; exact Tryz.ok5_6652
    | false =>
    rw [h6652] at h; simp only [cond_false] at h
    cases h1347 : Nat.beq nx 1347 with
    | true => rw [h1347] at h; obtain rfl := Nat.eq_of_beq_eq_true h1347; obtain rfl := Option.some.inj h; exact Tryz.ok5_1347
    | false =>
    rw [h1347] at h; simp only [cond_false] at h
    cases h1060 : Nat.beq nx 1060 with
    | true => rw [h1060] at h; obtain rfl := Nat.eq_of_beq_eq_true h1060; obtain rfl := Option.some.inj h; exact Tryz.ok5_1060
    | false =>
    rw [h1060] at h; simp only [cond_false] at h
    cases h751 : Nat.beq nx 751 with
    | true => rw [h751] at h; obtain rfl := Nat.eq_of_beq_eq_true h751; obtain rfl := Option.some.inj h; exact Tryz.ok5_751
    | false =>
    rw [h751] at h; simp only [cond_false] at h
    cases h289 : Nat.beq nx 289 with
    | true => rw [h289] at h; obtain rfl := Nat.eq_of_beq_eq_true h289; obtain rfl := Option.some.inj h; exact Tryz.ok5_289
    | false =>
    rw [h289] at h; simp only [cond_false] at h
    cases h15 : Nat.beq nx 15 with
    | true => rw [h15] at h; obtain rfl := Nat.eq_of_beq_eq_true h15; obtain rfl := Option.some.inj h; exact Tryz.ok5_15
    | false =>
    rw [h15] at h; simp only [cond_false] at h
    cases h
/-- the two tables that are read -/
def Tryz.Globs (w : World) : Prop := (∃ fz, w.heap[8]? = some (.cells ⟨Tryz.debruijn⟩ 475 fz)) ∧ ∃ fz, w.heap[9]? = some (.cells ⟨Tryz.partsV⟩ 531 fz)
theorem Tryz.globRel {vs : List Value} {t : TypeId} {g : Nat} {c : Option Obj} (ha : vs.all Ev.atom = true) (h : ∃ fz, c = some (.cells ⟨vs⟩ t fz)) : ORel Tryz.es rho0 ⟨g, 0, 0⟩ (Tryz.glob vs t) c := by
  obtain ⟨fz, h⟩ := h
  have hle := depthFor_le vs.length
  refine ⟨⟨vs⟩, fz, h, T.full_putList _ _ _ _ (T.full_const _ _), hle, fun k hk => ?_, .inr (.inr ⟨rfl, rfl⟩), fun _ => ⟨rfl, rfl, rfl⟩, (fun h => by cases h)⟩
  refine ⟨vs[k], by simp [hk], ?_⟩
  rw [T.get_putList _ _ _ 0 k (T.full_const _ _) (by omega) (by omega), dif_pos (by omega)]
  exact VRel.of_atom (List.all_eq_true.1 ha _ (List.getElem_mem _))
theorem Tryz.heap0_full : T.full 14 Tryz.heap0 := T.full_set _ _ _ _ (T.full_set _ _ _ _ (T.full_const _ _))
theorem Tryz.heap0_get (id : Nat) (h : id < 16384) : Tryz.heap0.get id = if id = 9 then Tryz.glob Tryz.partsV 531 else if id = 8 then Tryz.glob Tryz.debruijn 475 else .dead := by
  unfold Tryz.heap0
  rw [T.get_set _ 14 _ 9 id (T.full_set _ _ _ _ (T.full_const _ _)) (by decide) h, T.get_set _ 14 _ 8 id (T.full_const _ _) (by decide) h, T.get_const]
theorem Tryz.topCall {f : FuncId} {args : List Value} {v : Value} (hv : clo v = true) (ha : args.all Ev.atom = true) {w : World} (hg : Tryz.Globs w)
    (hr : valOf (callK 10 (Tryz.tab Tryz.memoF Tryz.isoF Tryz.orac2) (runC (Tryz.tab Tryz.memoF Tryz.isoF Tryz.orac2) 1000000) f args Tryz.heap0 10 retK) = some v) :
    ∃ w', Runs Tryz.prog f args w v w' ∧ Below w.heap.size w w' := by
  have h10 : 10 ≤ w.heap.size := by
    obtain ⟨_, fz, h⟩ := hg
    have := (Array.getElem?_eq_some_iff.1 h).1
    omega
  refine top_ok (σ := Tryz.es) (Tryz.tabOk _ _ _) (Tryz.ext _ _ _) (Tryz.memoOk _ Tryz.oracOk2) (fun K h => Tryz.rc _ _ _ K h (Tryz.memoOk _ Tryz.oracOk2 K h) 1000000) hv ha Tryz.heap0_full (fun id h1 h2 => ?_) (fun g hg' => ?_) h10 hr
  · rw [Tryz.heap0_get id h2, if_neg (by omega), if_neg (by omega)]
  · rw [Tryz.heap0_get g (by omega)]
    by_cases h9 : g = 9
    · subst h9; rw [if_pos rfl]; exact Tryz.globRel (by kernel_rfl) hg.2
    · rw [if_neg h9]
      by_cases h8 : g = 8
      · subst h8; rw [if_pos rfl]; exact Tryz.globRel (by kernel_rfl) hg.1
      · rw [if_neg h8]; trivial
/-- known() gives true -/
theorem Tryz.known {w : World} (hg : Tryz.Globs w) : Calls Tryz.prog 4 #[] w fun e w' => e = .returned (.bool true) ∧ Below w.heap.size w w' := by
  obtain ⟨w', h1, h2⟩ := Tryz.topCall rfl rfl hg Tryz.runKnown
  refine (calls_of_runs (P := Tryz.prog) (fn := Tryz.f4) Tryz.func4 rfl (by kernel_rfl) h1).mono fun e w'' h => ⟨h.1, by rw [h.2]; exact h2⟩
/-- a nil console -/
theorem Tryz.runDo (s : ByteArray) : valOf (callK 10 (Tryz.tab Tryz.memoF Tryz.isoF Tryz.orac2) (runC (Tryz.tab Tryz.memoF Tryz.isoF Tryz.orac2) 1000000) 5 [.pointer none, .string s] Tryz.heap0 10 retK) = some (Value.string { data := #[101, 114, 114, 111, 114, 32, 49, 10] }) := by kernel_rfl
theorem Tryz.doNil (s : ByteArray) {w : World} (hg : Tryz.Globs w) : Calls Tryz.prog 5 #[.pointer none, .string s] w fun e w' => e = .returned (Value.string { data := #[101, 114, 114, 111, 114, 32, 49, 10] }) ∧ Below w.heap.size w w' := by
  obtain ⟨w', h1, h2⟩ := Tryz.topCall (by kernel_rfl) rfl hg (Tryz.runDo s)
  refine (calls_of_runs (P := Tryz.prog) (fn := Tryz.f5) Tryz.func5 rfl (by kernel_rfl) h1).mono fun e w'' h => ⟨h.1, by rw [h.2]; exact h2⟩
theorem Tryz.runCopy : valOf (callK 10 (Tryz.tab Tryz.memoF Tryz.isoF Tryz.orac2) (runC (Tryz.tab Tryz.memoF Tryz.isoF Tryz.orac2) 1000000) 6 [.pointer none] Tryz.heap0 10 retK) = some (.pointer none) := by kernel_rfl
theorem Tryz.copyNil {w : World} (hg : Tryz.Globs w) : Calls Tryz.prog 6 #[.pointer none] w fun e w' => e = .returned (.pointer none) ∧ Below w.heap.size w w' := by
  obtain ⟨w', h1, h2⟩ := Tryz.topCall rfl rfl hg Tryz.runCopy
  refine (calls_of_runs (P := Tryz.prog) (fn := Tryz.f6) Tryz.func6 rfl (by kernel_rfl) h1).mono fun e w'' h => ⟨h.1, by rw [h.2]; exact h2⟩
theorem Tryz.globs_below {w w' : World} (hg : Tryz.Globs w) (h : Below w.heap.size w w') : Tryz.Globs w' := by
  obtain ⟨⟨f1, h1⟩, f2, h2⟩ := hg
  have k1 := (Array.getElem?_eq_some_iff.1 h1).1
  have k2 := (Array.getElem?_eq_some_iff.1 h2).1
  exact ⟨⟨f1, by rw [h.block 8 k1]; exact h1⟩, f2, by rw [h.block 9 k2]; exact h2⟩
end Go.Proofs
