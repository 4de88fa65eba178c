/-
THE EVALUATOR IS SOUND, fourth part: regions whose order is drawn. No condition.
-/
import Derived.Test.YtldoonplgilhkaaGreatDoorEvC
import Derived.Orders
namespace Go.Ev
open Go Go.RowKit
variable {B : Tab}

/-! what an operation looks at is all that it hangs on -/
def sameAt (n : Nat) (e e' : T Value) (o : Operand) : Prop := ∀ t, o = .tmp t → t < n → e.get t = e'.get t
theorem evalK_same {n : Nat} {e e' : T Value} {o : Operand} (h : sameAt n e e' o) : evalK n e o = evalK n e' o := by
  funext k
  cases o with
  | tmp t =>
    show onTmp n e t k = onTmp n e' t k
    unfold onTmp
    by_cases ht : t < n
    · rw [h t rfl ht]
    · have : Nat.blt t n = false := by
        cases hb : Nat.blt t n with
        | false => rfl
        | true => rw [Nat.blt_eq] at hb; exact absurd hb ht
      rw [this]; rfl
  | const v => rfl
  | global g => rfl
  | func f => rfl
theorem evalsK_same {n : Nat} {e e' : T Value} : ∀ {l : List Operand}, (∀ o ∈ l, sameAt n e e' o) → evalsK n e l = evalsK n e' l
  | [], _ => rfl
  | o :: l, h => by
    funext k
    show evalK n e o (fun v => evalsK n e l fun vs => k (v :: vs)) = evalK n e' o (fun v => evalsK n e' l fun vs => k (v :: vs))
    rw [evalK_same (h o (by simp)), evalsK_same fun o ho => h o (by simp [ho])]
theorem evalOptK_same {n : Nat} {e e' : T Value} {o : Option Operand} (h : ∀ x, o = some x → sameAt n e e' x) : evalOptK n e o = evalOptK n e' o := by
  funext k
  cases o with
  | none => rfl
  | some x =>
    show evalK n e x _ = evalK n e' x _
    rw [evalK_same (h x rfl)]
theorem fillK_same {sub : Nat → Option (Nat × Nat)} {n : Nat} {e e' : T Value} : ∀ {ps : List (Nat × Operand)}, (∀ p ∈ ps, sameAt n e e' p.2) → ∀ cells k, fillK sub n e ps cells k = fillK sub n e' ps cells k
  | [], _, _, _ => rfl
  | (i, o) :: ps, h, cells, k => by
    unfold fillK
    split
    · rfl
    · rw [evalK_same (h (i, o) (by simp))]
      congr 1
      funext v
      rw [fillK_same fun p hp => h p (by simp [hp])]

def HSame (x : H) (os : List Operand) : Prop := ∀ a e e' h nx k, (∀ o ∈ os, sameAt a.n e e' o) → x a e h nx k = x a e' h nx k

section builtins
variable {c : Call}
theorem hs_append : HSame (bAppend B c) c.args.toList := by
  intro a e e' h nx k hs
  unfold bAppend
  split
  · rename_i x y ha
    rw [ha] at hs
    simp only [evalK_same (hs x (by simp)), evalK_same (hs y (by simp))]
  · rfl
theorem hs_cap : HSame (bCap B c) c.args.toList := by
  intro a e e' h nx k hs
  unfold bCap
  split
  · rename_i x xs t ts ha _
    rw [ha] at hs
    simp only [evalK_same (hs x (by simp))]
  · rfl
theorem hs_len : HSame (bLen B c) c.args.toList := by
  intro a e e' h nx k hs
  unfold bLen
  split
  · rename_i x xs t ts ha _
    rw [ha] at hs
    simp only [evalK_same (hs x (by simp))]
  · rfl
theorem hs_min : HSame (bMin c) c.args.toList := by
  intro a e e' h nx k hs
  unfold bMin
  split
  · rename_i x y ha
    rw [ha] at hs
    simp only [evalK_same (hs x (by simp)), evalK_same (hs y (by simp))]
  · rfl
theorem hs_max : HSame (bMax c) c.args.toList := by
  intro a e e' h nx k hs
  unfold bMax
  split
  · rename_i x y ha
    rw [ha] at hs
    simp only [evalK_same (hs x (by simp)), evalK_same (hs y (by simp))]
  · rfl
theorem hs_sliceData : HSame (bSliceData c) c.args.toList := by
  intro a e e' h nx k hs
  unfold bSliceData
  split
  · rename_i x ha
    rw [ha] at hs
    simp only [evalK_same (hs x (by simp))]
  · rfl
theorem hs_copy : HSame (bCopy B c) c.args.toList := by
  intro a e e' h nx k hs
  unfold bCopy
  split
  · rename_i x y t ts ha _
    rw [ha] at hs
    simp only [evalK_same (hs x (by simp)), evalK_same (hs y (by simp))]
  · rfl
theorem hs_clear : HSame (bClear B c) c.args.toList := by
  intro a e e' h nx k hs
  unfold bClear
  split
  · rename_i x t ts ha _
    rw [ha] at hs
    simp only [evalK_same (hs x (by simp))]
  · rfl
theorem hs_unsafeString : HSame (bUnsafeString B c) c.args.toList := by
  intro a e e' h nx k hs
  unfold bUnsafeString
  split
  · rename_i x y t ts ha _
    rw [ha] at hs
    simp only [evalK_same (hs x (by simp)), evalK_same (hs y (by simp))]
  · rfl
theorem hs_recover : HSame bRecover c.args.toList := fun _ _ _ _ _ _ _ => rfl
theorem hs_none : HSame hNone c.args.toList := fun _ _ _ _ _ _ _ => rfl
theorem hs_builtin (b : Builtin) : HSame (hBuiltin B b c) c.args.toList := by
  cases b <;> first | exact hs_none | exact hs_append | exact hs_cap | exact hs_clear | exact hs_copy | exact hs_len | exact hs_max | exact hs_min | exact hs_recover | exact hs_sliceData | exact hs_unsafeString
end builtins

theorem opV_same {rc : RC} {op : Op} {a : Act0} {e e' : T Value} {ds : List Deferred} {h : T AObj} {nx : Nat} {k : KD} (hs : ∀ o ∈ op.operands.toList, sameAt a.n e e' o) : opV B rc op a e ds h nx k = opV B rc op a e' ds h nx k := by
  have one : ∀ {x : Operand}, x ∈ op.operands.toList → evalK a.n e x = evalK a.n e' x := fun hx => evalK_same (hs _ hx)
  cases op with
  | move x => simp only [opV, selOp, vH, hMove, one (x := x) (by simp [Op.operands])]
  | assign x => simp only [opV, selOp, vH, hMove, one (x := x) (by simp [Op.operands])]
  | pick c x y => simp only [opV, selOp, vH, hPick, one (x := c) (by simp [Op.operands]), one (x := x) (by simp [Op.operands]), one (x := y) (by simp [Op.operands])]
  | alloc t => rfl
  | box t x => simp only [opV, selOp, vH, hBox, one (x := x) (by simp [Op.operands])]
  | build t ps =>
    have hp : ∀ p ∈ ps.toList, sameAt a.n e e' p.2 := fun p hp => hs p.2 (by simp [Op.operands]; exact ⟨p.1, by simpa using hp⟩)
    simp only [opV, selOp, vH, hBuild, fillK_same hp]
  | buildSlice t l ps =>
    have hp : ∀ p ∈ ps.toList, sameAt a.n e e' p.2 := fun p hp => hs p.2 (by simp [Op.operands]; exact ⟨p.1, by simpa using hp⟩)
    simp only [opV, selOp, vH, hBuildSlice, fillK_same hp]
  | insert t m y x => simp only [opV, selOp, vH, hMapUpdate, one (x := m) (by simp [Op.operands]), one (x := y) (by simp [Op.operands]), one (x := x) (by simp [Op.operands])]
  | load t x => simp only [opV, selOp, vH, hLoad, one (x := x) (by simp [Op.operands])]
  | store t p x => simp only [opV, selOp, vH, hStore, one (x := p) (by simp [Op.operands]), one (x := x) (by simp [Op.operands])]
  | ready g => rfl
  | waits g => rfl
  | nilCheck x => simp only [opV, selOp, vH, hNilCheck, one (x := x) (by simp [Op.operands])]
  | binOp o t x y fl => simp only [opV, selOp, vH, hBin, one (x := x) (by simp [Op.operands]), one (x := y) (by simp [Op.operands])]
  | unOp o t x => simp only [opV, selOp, vH, hUn, one (x := x) (by simp [Op.operands])]
  | convert s d x => simp only [opV, selOp, vH, hConvert, one (x := x) (by simp [Op.operands])]
  | sliceToArrayPointer d x => rfl
  | makeInterface t x => simp only [opV, selOp, vH, hMakeInterface, one (x := x) (by simp [Op.operands])]
  | makeFunc fn xs ys =>
    have h1 : evalsK a.n e xs.toList = evalsK a.n e' xs.toList := evalsK_same fun o ho => hs o (by simp [Op.operands]; exact .inl (by simpa using ho))
    have h2 : evalsK a.n e ys.toList = evalsK a.n e' ys.toList := evalsK_same fun o ho => hs o (by simp [Op.operands]; exact .inr (by simpa using ho))
    simp only [opV, selOp, vH, hMakeFunc, h1, h2]
  | makeMap t r => rfl
  | makeChan t s => rfl
  | makeSlice t l c => simp only [opV, selOp, vH, hMakeSlice, one (x := l) (by simp [Op.operands]), one (x := c) (by simp [Op.operands])]
  | slice t x lo hi mx =>
    have h1 : evalOptK a.n e lo = evalOptK a.n e' lo := evalOptK_same fun y hy => hs y (by subst hy; simp [Op.operands])
    have h2 : evalOptK a.n e hi = evalOptK a.n e' hi := evalOptK_same fun y hy => hs y (by subst hy; simp [Op.operands])
    have h3 : evalOptK a.n e mx = evalOptK a.n e' mx := evalOptK_same fun y hy => hs y (by subst hy; simp [Op.operands])
    simp only [opV, selOp, vH, hSlice, one (x := x) (by simp [Op.operands]), h1, h2, h3]
  | fieldAddr t x i => simp only [opV, selOp, vH, hFieldAddr, one (x := x) (by simp [Op.operands])]
  | field t x i => simp only [opV, selOp, vH, hField, one (x := x) (by simp [Op.operands])]
  | indexAddr t x y => simp only [opV, selOp, vH, hIndexAddr, one (x := x) (by simp [Op.operands]), one (x := y) (by simp [Op.operands])]
  | index t x y => simp only [opV, selOp, vH, hIndex, one (x := x) (by simp [Op.operands]), one (x := y) (by simp [Op.operands])]
  | lookup t x y ok => simp only [opV, selOp, vH, hLookup, one (x := x) (by simp [Op.operands]), one (x := y) (by simp [Op.operands])]
  | mapUpdate t m y x => simp only [opV, selOp, vH, hMapUpdate, one (x := m) (by simp [Op.operands]), one (x := y) (by simp [Op.operands]), one (x := x) (by simp [Op.operands])]
  | mapEntry t m y => simp only [opV, selOp, vH, hMapEntry, one (x := m) (by simp [Op.operands]), one (x := y) (by simp [Op.operands])]
  | entryStore t m s x => simp only [opV, selOp, vH, hEntryStore, one (x := m) (by simp [Op.operands]), one (x := s) (by simp [Op.operands]), one (x := x) (by simp [Op.operands])]
  | range t x => simp only [opV, selOp, vH, hRange, one (x := x) (by simp [Op.operands])]
  | next it s => simp only [opV, selOp, vH, hNext, one (x := it) (by simp [Op.operands])]
  | entry x => simp only [opV, selOp, vH, hEntry, one (x := x) (by simp [Op.operands])]
  | typeAssert x t u ok => simp only [opV, selOp, vH, hTypeAssert, one (x := x) (by simp [Op.operands])]
  | extract x i => simp only [opV, selOp, vH, hExtract, one (x := x) (by simp [Op.operands])]
  | call c =>
    have hargs : ∀ o ∈ c.args.toList, sameAt a.n e e' o := fun o ho => hs o (by simp [Op.operands, Call.operands]; exact .inr (by simpa using ho))
    show vCall B rc c a e ds h nx k = vCall B rc c a e' ds h nx k
    unfold vCall
    split
    · rename_i f hc
      have hf : sameAt a.n e e' f := hs f (by simp [Op.operands, Call.operands, hc])
      rw [evalK_same hf]
      simp only [evalsK_same hargs]
    · rename_i b hc
      exact hs_builtin b a e e' h nx _ hargs
    · rfl
  | go c => rfl
  | defer c =>
    have hargs : ∀ o ∈ c.args.toList, sameAt a.n e e' o := fun o ho => hs o (by simp [Op.operands, Call.operands]; exact .inr (by simpa using ho))
    show vDefer c a e ds h nx k = vDefer c a e' ds h nx k
    unfold vDefer
    split
    · rename_i f hc _
      have hf : sameAt a.n e e' f := hs f (by simp [Op.operands, Call.operands, hc])
      rw [evalK_same hf]
      simp only [evalsK_same hargs]
    · rfl
  | panic x => rfl
  | send c x => rfl
  | recv t c ok => rfl
  | select cs b => rfl
end Go.Ev

namespace Go.Ev
open Go Go.RowKit
variable {Q : Out → Prop} {B : Tab}

theorem iteR_true (x y : R) : iteR true x y = x := rfl
theorem iteR_false (x y : R) : iteR false x y = y := rfl
theorem forceN_eq (n : Nat) (k : Nat → R) : forceN n k = k n := by cases n <;> rfl
theorem forceI_eq (i : Int) (k : Int → R) : forceI i k = k i := by
  cases i with
  | ofNat n => show forceN n (fun n => k (Int.ofNat n)) = _; rw [forceN_eq]
  | negSucc n => show forceN n (fun n => k (Int.negSucc n)) = _; rw [forceN_eq]
theorem forceB_eq (b : Bool) (k : Bool → R) : forceB b k = k b := by cases b <;> rfl
theorem forceV_eq (v : Value) (k : Value → R) : forceV v k = k v := by
  cases v with
  | bool b => show forceB b (fun b => k (.bool b)) = _; rw [forceB_eq]
  | int q i => show forceI i (fun i => k (.int q i)) = _; rw [forceI_eq]
  | _ => rfl
theorem newCellsK_eq (vs : List Value) (elem : TypeId) (sl : Bool) (h : T AObj) (nx : Nat) (k : Nat → T AObj → Nat → R) : newCellsK vs elem sl h nx k = newK (cellsOf vs elem sl) h nx k := by
  unfold newCellsK
  rw [forceN_eq, forceN_eq]
  rfl

theorem evalK_val {n : Nat} {e : T Value} {o : Operand} {k : Value → R} (hA : All Q (evalK n e o k)) : ∃ v, (∀ k, evalK n e o k = k v) ∧ All Q (k v) := by
  cases o with
  | tmp t =>
    have hA : All Q (onTmp n e t k) := hA
    rw [all_onTmp] at hA
    refine ⟨e.get t, fun k => ?_, hA.2⟩
    show iteR (Nat.blt t n) (k (e.get t)) (failR "tmp") = _
    have : Nat.blt t n = true := by rw [Nat.blt_eq]; exact hA.1
    rw [this, iteR_true]
  | const v =>
    have hA : All Q (iteR (clo v) (k v) (failR "const")) := hA
    rw [all_iteR_fail] at hA
    refine ⟨v, fun k => ?_, hA.2⟩
    show iteR (clo v) (k v) (failR "const") = _
    rw [hA.1, iteR_true]
  | global g =>
    have hA : All Q (iteR (Nat.blt g 10) (k (ptrTo g)) (failR "global")) := hA
    rw [all_iteR_fail] at hA
    refine ⟨ptrTo g, fun k => ?_, hA.2⟩
    show iteR (Nat.blt g 10) (k (ptrTo g)) (failR "global") = _
    rw [hA.1, iteR_true]
  | func f => exact ⟨.func (.func f) #[] #[], fun k => rfl, hA⟩
theorem evalsK_val {n : Nat} {e : T Value} : ∀ {l : List Operand} {k : List Value → R}, All Q (evalsK n e l k) → ∃ vs, (∀ k, evalsK n e l k = k vs) ∧ All Q (k vs)
  | [], k, hA => ⟨[], fun k => rfl, hA⟩
  | o :: l, k, hA => by
    have hA : All Q (evalK n e o fun v => evalsK n e l fun vs => k (v :: vs)) := hA
    obtain ⟨v, h1, hA⟩ := evalK_val hA
    obtain ⟨vs, h2, hA⟩ := evalsK_val hA
    refine ⟨v :: vs, fun k => ?_, hA⟩
    show evalK n e o (fun v => evalsK n e l fun vs => k (v :: vs)) = _
    rw [h1, h2]
theorem evalOptK_val {n : Nat} {e : T Value} {o : Option Operand} {k : Option Value → R} (hA : All Q (evalOptK n e o k)) : ∃ v, (∀ k, evalOptK n e o k = k v) ∧ All Q (k v) := by
  cases o with
  | none => exact ⟨none, fun k => rfl, hA⟩
  | some x =>
    have hA : All Q (evalK n e x fun v => k (some v)) := hA
    obtain ⟨v, h1, hA⟩ := evalK_val hA
    refine ⟨some v, fun k => ?_, hA⟩
    show evalK n e x (fun v => k (some v)) = _
    rw [h1]
theorem onRow_val {t : TypeId} {k : TypeDesc → Nat → Option Value → List (Nat × Nat) → R} (hA : All Q (onRow B t k)) : ∃ d n z sub, (∀ k, onRow B t k = k d n z sub) ∧ All Q (k d n z sub) := by
  rw [all_onRow] at hA
  obtain ⟨ht, d, n, z, sub, hrow, hA⟩ := hA
  refine ⟨d, n, z, sub, fun k => ?_, hA⟩
  unfold onRow
  have : Nat.blt t 1024 = true := by rw [Nat.blt_eq]; exact ht
  rw [this, iteR_true, hrow]
theorem onTy_val {t : TypeId} {k : R} (hA : All Q (onTy B t k)) : (∀ k, onTy B t k = k) ∧ All Q k := by
  rw [all_onTy] at hA
  refine ⟨fun k => ?_, hA.2⟩
  unfold onTy
  have : Nat.blt t B.nt = true := by rw [Nat.blt_eq]; exact hA.1
  rw [this, iteR_true]
theorem onO_val {α : Type} {o : Option α} {w : String} {k : α → R} (hA : All Q (onO o w k)) : ∃ x, o = some x ∧ All Q (k x) := (all_onO o w k).1 hA
theorem onO_some {α : Type} (x : α) (w : String) (k : α → R) : onO (some x) w k = k x := rfl
theorem partK_val {t : TypeId} {cs : List Value} {off : Nat} {k : Value → R} (hA : All Q (partK B t cs off k)) : ∃ v, (∀ k, partK B t cs off k = k v) ∧ All Q (k v) := by
  unfold partK at hA
  obtain ⟨d, n, z, sub, h1, hA⟩ := onRow_val hA
  rw [all_iteR] at hA
  rcases hA with ⟨hd, hA⟩ | ⟨hd, hA⟩
  · rw [all_iteR_fail] at hA
    exact ⟨_, fun k => by unfold partK; rw [h1, hd, iteR_true, hA.1, iteR_true], hA.2⟩
  · obtain ⟨v, hv, hA⟩ := onO_val hA
    exact ⟨v, fun k => by unfold partK; rw [h1, hd, iteR_false, hv, onO_some], hA⟩
theorem fillK_val {sub : Nat → Option (Nat × Nat)} {n : Nat} {e : T Value} : ∀ {ps : List (Nat × Operand)} {cells : List Value} {k : List Value → R}, All Q (fillK sub n e ps cells k) → ∃ l, (∀ k, fillK sub n e ps cells k = k l) ∧ All Q (k l)
  | [], cells, k, hA => ⟨cells, fun k => rfl, hA⟩
  | (i, o) :: ps, cells, k, hA => by
    unfold fillK at hA
    split at hA
    · exact (hA : False).elim
    · rename_i off size hsub
      obtain ⟨v, h1, hA⟩ := evalK_val hA
      rw [all_iteR_fail] at hA
      obtain ⟨hc, hA⟩ := hA
      obtain ⟨l, h2, hA⟩ := fillK_val hA
      refine ⟨l, fun k => ?_, hA⟩
      unfold fillK
      rw [hsub]
      simp only
      rw [h1, hc, iteR_true, h2]

/-- the value without a look at memory; the value at this memory; a new block -/
def HS (x : H) (a : Act0) (e : T Value) (v : Value) : Prop := ∀ h nx k, x a e h nx k = k v h nx
def HA (x : H) (a : Act0) (e : T Value) (h : T AObj) (nx : Nat) (v : Value) : Prop := ∀ k, x a e h nx k = k v h nx
def HN (x : H) (a : Act0) (e : T Value) (obj : AObj) (mk : Nat → Value) : Prop := ∀ h nx k, x a e h nx k = newK obj h nx fun id h nx => k (mk id) h nx

variable {a : Act0} {e : T Value} {h : T AObj} {nx : Nat} {k : KV}
theorem v_move {x : Operand} (hA : All Q (hMove x a e h nx k)) : ∃ v, HS (hMove x) a e v := by
  obtain ⟨v, h1, _⟩ := evalK_val (k := fun v => k v h nx) hA
  exact ⟨v, fun h nx k => h1 _⟩
theorem v_pick {c x y : Operand} (hA : All Q (hPick c x y a e h nx k)) : ∃ v, HS (hPick c x y) a e v := by
  unfold hPick at hA
  obtain ⟨v, h1, hA⟩ := evalK_val hA
  rw [all_onBool] at hA
  obtain ⟨b, rfl, hA⟩ := hA
  cases b with
  | true =>
    obtain ⟨u, h2, _⟩ := evalK_val (k := fun v => k v h nx) hA
    exact ⟨u, fun h nx k => by unfold hPick; rw [h1]; exact h2 _⟩
  | false =>
    obtain ⟨u, h2, _⟩ := evalK_val (k := fun v => k v h nx) hA
    exact ⟨u, fun h nx k => by unfold hPick; rw [h1]; exact h2 _⟩
theorem v_build {t : TypeId} {ps : Array (Nat × Operand)} (hA : All Q (hBuild B t ps a e h nx k)) : ∃ v, HS (hBuild B t ps) a e v := by
  unfold hBuild at hA
  obtain ⟨d, n, z, sub, h1, hA⟩ := onRow_val hA
  obtain ⟨z, rfl, hA⟩ := onO_val hA
  split at hA
  · obtain ⟨l, h2, _⟩ := fillK_val hA
    exact ⟨_, fun h nx k => by unfold hBuild; rw [h1, onO_some]; exact h2 _⟩
  · obtain ⟨l, h2, _⟩ := fillK_val hA
    exact ⟨_, fun h nx k => by unfold hBuild; rw [h1, onO_some]; exact h2 _⟩
  · exact (hA : False).elim
theorem v_nilCheck {x : Operand} (hA : All Q (hNilCheck x a e h nx k)) : ∃ v, HS (hNilCheck x) a e v := by
  unfold hNilCheck at hA
  obtain ⟨v, h1, hA⟩ := evalK_val hA
  rw [all_iteR_fail] at hA
  exact ⟨v, fun h nx k => by unfold hNilCheck; rw [h1, hA.1, iteR_true]⟩
theorem v_bin {op : BinOp} {t : TypeId} {x y : Operand} (hA : All Q (hBin B op t x y a e h nx k)) : ∃ v, HS (hBin B op t x y) a e v := by
  unfold hBin at hA
  obtain ⟨v, h1, hA⟩ := evalK_val hA
  obtain ⟨u, h2, hA⟩ := evalK_val hA
  obtain ⟨r, h3, hA⟩ := onO_val hA
  exact ⟨r, fun h nx k => by unfold hBin; rw [h1, h2, h3, onO_some, forceV_eq]⟩
theorem v_un {op : UnOp} {x : Operand} (hA : All Q (hUn op x a e h nx k)) : ∃ v, HS (hUn op x) a e v := by
  unfold hUn at hA
  obtain ⟨v, h1, hA⟩ := evalK_val hA
  obtain ⟨r, h3, hA⟩ := onO_val hA
  exact ⟨r, fun h nx k => by unfold hUn; rw [h1, h3, onO_some, forceV_eq]⟩
theorem v_makeInterface {t : TypeId} {x : Operand} (hA : All Q (hMakeInterface B t x a e h nx k)) : ∃ v, HS (hMakeInterface B t x) a e v := by
  unfold hMakeInterface at hA
  obtain ⟨v, h1, hA⟩ := evalK_val hA
  obtain ⟨d, n, z, sub, h2, hA⟩ := onRow_val hA
  rw [all_iteR_fail] at hA
  exact ⟨_, fun h nx k => by unfold hMakeInterface; rw [h1, h2, hA.1, iteR_true]⟩
theorem v_makeFunc {fn : Fn} {xs ys : Array Operand} (hA : All Q (hMakeFunc fn xs ys a e h nx k)) : ∃ v, HS (hMakeFunc fn xs ys) a e v := by
  unfold hMakeFunc at hA
  rw [all_iteR_fail] at hA
  obtain ⟨hp, hA⟩ := hA
  obtain ⟨vs, h1, hA⟩ := evalsK_val hA
  obtain ⟨us, h2, hA⟩ := evalsK_val hA
  exact ⟨_, fun h nx k => by unfold hMakeFunc; rw [hp, iteR_true, h1, h2]⟩
theorem v_fieldAddr {t : TypeId} {x : Operand} {i : Nat} (hA : All Q (hFieldAddr B t x i a e h nx k)) : ∃ v, HS (hFieldAddr B t x i) a e v := by
  unfold hFieldAddr at hA
  obtain ⟨v, h1, hA⟩ := evalK_val hA
  rw [all_onPtr] at hA
  obtain ⟨id, off, rfl, hA⟩ := hA
  obtain ⟨d, n, z, sub, h2, hA⟩ := onRow_val hA
  split at hA
  · obtain ⟨⟨o, s⟩, h3, hA⟩ := onO_val hA
    have hA : All Q (iteR (Nat.beq s 0) (failR "field: no cells") (forceN (Nat.add off o) fun off => k (.pointer (some ⟨id, off, none⟩)) h nx)) := hA
    rw [all_iteR_fail'] at hA
    refine ⟨.pointer (some ⟨id, off + o, none⟩), fun h nx k => ?_⟩
    unfold hFieldAddr
    rw [h1]
    show onRow B t _ = _
    rw [h2, h3, onO_some]
    show iteR (Nat.beq s 0) _ _ = _
    rw [hA.1, iteR_false, forceN_eq]
    rfl
  · exact (hA : False).elim
theorem v_field {t : TypeId} {x : Operand} {i : Nat} (hA : All Q (hField B t x i a e h nx k)) : ∃ v, HS (hField B t x i) a e v := by
  unfold hField at hA
  obtain ⟨v, h1, hA⟩ := evalK_val hA
  rw [all_onAgg] at hA
  obtain ⟨cs, rfl, hA⟩ := hA
  obtain ⟨d, n, z, sub, h2, hA⟩ := onRow_val hA
  split at hA
  · obtain ⟨f, h3, hA⟩ := onO_val hA
    obtain ⟨u, h4, _⟩ := partK_val hA
    refine ⟨u, fun h nx k => ?_⟩
    unfold hField
    rw [h1]
    show onRow B t _ = _
    rw [h2]
    show onO _ _ _ = _
    rw [h3, onO_some, h4]
  · exact (hA : False).elim
theorem v_indexAddr {t : TypeId} {x y : Operand} (hA : All Q (hIndexAddr B t x y a e h nx k)) : ∃ v, HS (hIndexAddr B t x y) a e v := by
  unfold hIndexAddr at hA
  obtain ⟨v, h1, hA1⟩ := evalK_val hA
  obtain ⟨iv, h2, hA2⟩ := evalK_val hA1
  clear hA hA1
  rw [all_onIx] at hA2
  obtain ⟨q, i, rfl, hA3⟩ := hA2
  obtain ⟨d, n, z, sub, h3, hA4⟩ := onRow_val hA3
  clear hA3
  split at hA4
  · rename_i size _
    rw [all_onPtr] at hA4
    obtain ⟨id, off, rfl, hA5⟩ := hA4
    rw [all_iteR_fail] at hA5
    refine ⟨.pointer (some ⟨id, off + i * size, none⟩), fun h nx k => ?_⟩
    unfold hIndexAddr
    rw [h1, h2]
    show onRow B t _ = _
    rw [h3]
    show iteR _ _ _ = _
    rw [hA5.1, iteR_true, forceN_eq]
    rfl
  · rename_i size _
    rw [all_onSlice] at hA4
    obtain ⟨b, len, c, rfl, hA5⟩ := hA4
    split at hA5
    · exact (hA5 : False).elim
    · rename_i id off sp hsp
      rw [all_iteR_fail] at hA5
      refine ⟨.pointer (some ⟨id, off + i * size, none⟩), fun h nx k => ?_⟩
      unfold hIndexAddr
      rw [h1, h2]
      show onRow B t _ = _
      rw [h3]
      show (match (some ⟨id, off, sp⟩ : Option Addr) with
        | some ⟨_, _, some 1⟩ => failR "index"
        | some ⟨id, off, _⟩ => iteR (Nat.blt i len) (forceN (Nat.add off (Nat.mul i size)) fun off => k (.pointer (some ⟨id, off, none⟩)) h nx) (failR "index")
        | none => failR "index") = _
      split
      · rename_i heq; cases heq; first | exact (hsp rfl).elim | exact (hsp _ rfl).elim | exact (hsp _ _ rfl).elim
      · rename_i heq; cases heq
        rw [hA5.1, iteR_true, forceN_eq]
        rfl
      · rename_i heq; cases heq
    · exact (hA5 : False).elim
  · exact (hA4 : False).elim
theorem v_index {t : TypeId} {x y : Operand} (hA : All Q (hIndex B t x y a e h nx k)) : ∃ v, HS (hIndex B t x y) a e v := by
  unfold hIndex at hA
  obtain ⟨v, h1, hA1⟩ := evalK_val hA
  obtain ⟨iv, h2, hA2⟩ := evalK_val hA1
  clear hA hA1
  rw [all_onIx] at hA2
  obtain ⟨q, i, rfl, hA3⟩ := hA2
  obtain ⟨d, n, z, sub, h3, hA4⟩ := onRow_val hA3
  clear hA3
  split at hA4
  · rw [all_onAgg] at hA4
    obtain ⟨cs, rfl, hA5⟩ := hA4
    rw [all_iteR_fail] at hA5
    obtain ⟨u, h4, _⟩ := partK_val hA5.2
    refine ⟨u, fun h nx k => ?_⟩
    unfold hIndex
    rw [h1, h2]
    show onRow B t _ = _
    rw [h3]
    show iteR _ _ _ = _
    rw [hA5.1, iteR_true, h4]
  · rw [all_onStr] at hA4
    obtain ⟨s, rfl, hA5⟩ := hA4
    obtain ⟨c, h4, hA6⟩ := onO_val hA5
    refine ⟨.int .u8 (Int.ofNat c.toNat), fun h nx k => ?_⟩
    unfold hIndex
    rw [h1, h2]
    show onRow B t _ = _
    rw [h3]
    show onO _ _ _ = _
    rw [h4, onO_some]
  · exact (hA4 : False).elim
theorem v_typeAssert {x : Operand} {u : TypeId} {ok : Bool} (hA : All Q (hTypeAssert B x u ok a e h nx k)) : ∃ v, HS (hTypeAssert B x u ok) a e v := by
  unfold hTypeAssert at hA
  obtain ⟨v, h1, hA1⟩ := evalK_val hA
  obtain ⟨d, n, z, sub, h2, hA2⟩ := onRow_val hA1
  clear hA hA1
  split at hA2
  · rename_i t v
    rw [all_iteR_fail] at hA2
    refine ⟨if ok then .tuple #[v, .bool true] else v, fun h nx k => ?_⟩
    unfold hTypeAssert
    rw [h1, h2]
    show iteR _ _ _ = _
    rw [hA2.1, iteR_true]
  · exact (hA2 : False).elim
theorem v_extract {x : Operand} {i : Nat} (hA : All Q (hExtract x i a e h nx k)) : ∃ v, HS (hExtract x i) a e v := by
  unfold hExtract at hA
  obtain ⟨v, h1, hA⟩ := evalK_val hA
  split at hA
  · obtain ⟨u, h3, hA⟩ := onO_val hA
    refine ⟨u, fun h nx k => ?_⟩
    unfold hExtract
    rw [h1]
    show onO _ _ _ = _
    rw [h3, onO_some]
  · exact (hA : False).elim
section calls
variable {c : Call}
theorem v_min (hA : All Q (bMin c a e h nx k)) : ∃ v, HS (bMin c) a e v := by
  unfold bMin at hA
  split at hA
  · rename_i x y ha
    obtain ⟨v, h1, hA1⟩ := evalK_val hA
    obtain ⟨u, h2, hA2⟩ := evalK_val hA1
    clear hA hA1
    rw [all_onInt] at hA2
    obtain ⟨q, i, rfl, hA3⟩ := hA2
    rw [all_onInt] at hA3
    obtain ⟨q', j, rfl, hA4⟩ := hA3
    refine ⟨.int q (if ltK j i then j else i), fun h nx k => ?_⟩
    unfold bMin
    rw [ha]
    simp only
    rw [h1, h2]
    rfl
  · exact (hA : False).elim
theorem v_max (hA : All Q (bMax c a e h nx k)) : ∃ v, HS (bMax c) a e v := by
  unfold bMax at hA
  split at hA
  · rename_i x y ha
    obtain ⟨v, h1, hA1⟩ := evalK_val hA
    obtain ⟨u, h2, hA2⟩ := evalK_val hA1
    clear hA hA1
    rw [all_onInt] at hA2
    obtain ⟨q, i, rfl, hA3⟩ := hA2
    rw [all_onInt] at hA3
    obtain ⟨q', j, rfl, hA4⟩ := hA3
    refine ⟨.int q (if ltK i j then j else i), fun h nx k => ?_⟩
    unfold bMax
    rw [ha]
    simp only
    rw [h1, h2]
    rfl
  · exact (hA : False).elim
theorem v_cap (hA : All Q (bCap B c a e h nx k)) : ∃ v, HS (bCap B c) a e v := by
  unfold bCap at hA
  split at hA
  · rename_i x xs t ts ha ht
    obtain ⟨v, h1, hA1⟩ := evalK_val hA
    obtain ⟨d, n, z, sub, h2, hA2⟩ := onRow_val hA1
    clear hA hA1
    split at hA2
    · rename_i n
      refine ⟨.int .i64 (Int.ofNat n), fun h nx k => ?_⟩
      unfold bCap
      rw [ha, ht]
      simp only
      rw [h1, h2]
    · exact (hA2 : False).elim
  · exact (hA : False).elim
theorem v_sliceData (hA : All Q (bSliceData c a e h nx k)) : ∃ v, HS (bSliceData c) a e v := by
  unfold bSliceData at hA
  split at hA
  · rename_i x ha
    obtain ⟨v, h1, hA⟩ := evalK_val hA
    split at hA
    · exact (hA : False).elim
    · rename_i id off sp c1 n hsp
      refine ⟨.pointer (some ⟨id, off, none⟩), fun h nx k => ?_⟩
      unfold bSliceData
      rw [ha]
      simp only
      rw [h1]
      split
      · rename_i heq; cases heq; first | exact (hsp rfl).elim | exact (hsp _ rfl).elim | exact (hsp _ _ rfl).elim | exact (hsp _ _ _ rfl).elim | exact (hsp _ _ _ _ rfl).elim
      · rename_i heq; cases heq; rfl
      · rename_i heq; cases heq
      · rename_i hx _; exact (hx _ _ _ _ _ rfl).elim
    · refine ⟨.pointer none, fun h nx k => ?_⟩
      unfold bSliceData
      rw [ha]
      simp only
      rw [h1]
    · exact (hA : False).elim
  · exact (hA : False).elim
end calls
end Go.Ev

namespace Go.Ev
open Go Go.RowKit
variable {Q : Out → Prop} {B : Tab} {a : Act0} {e : T Value} {h : T AObj} {nx : Nat} {k : KV}

theorem onCells_val {id : Nat} {k : T Value → Nat → Nat → TypeId → Nat → Nat → Bool → R} (hA : All Q (onCells h id k)) : ∃ t d n el lo hi sl, (∀ k, onCells h id k = k t d n el lo hi sl) ∧ All Q (k t d n el lo hi sl) := by
  rw [all_onCells] at hA
  obtain ⟨t, d, n, el, lo, hi, sl, hg, hA⟩ := hA
  exact ⟨t, d, n, el, lo, hi, sl, fun k => by unfold onCells; rw [hg], hA⟩
theorem onMapObj_val {id : Nat} {k : List MapEntry → Nat → R} (hA : All Q (onMapObj h id k)) : ∃ es c, (∀ k, onMapObj h id k = k es c) ∧ All Q (k es c) := by
  rw [all_onMapObj] at hA
  obtain ⟨es, c, hg, hA⟩ := hA
  exact ⟨es, c, fun k => by unfold onMapObj; rw [hg], hA⟩
theorem loadK_val {id off n : Nat} {k : List Value → R} (hA : All Q (loadK h id off n k)) : ∃ l, (∀ k, loadK h id off n k = k l) ∧ All Q (k l) := by
  cases n with
  | zero => exact ⟨[], fun k => rfl, hA⟩
  | succ m =>
    have hA : All Q (onCells h id fun t _ sz _ _ _ _ => iteR (Nat.ble (Nat.add off (Nat.succ m)) sz) (k (t.list (Nat.succ m) off)) (failR "load: bounds")) := hA
    obtain ⟨t, d, sz, el, lo, hi, sl, h1, hA⟩ := onCells_val hA
    rw [all_iteR_fail] at hA
    refine ⟨_, fun k => ?_, hA.2⟩
    show onCells h id (fun t _ sz _ _ _ _ => iteR (Nat.ble (Nat.add off (Nat.succ m)) sz) (k (t.list (Nat.succ m) off)) (failR "load: bounds")) = _
    rw [h1, hA.1, iteR_true]
theorem load1K_val {id off : Nat} {k : Value → R} (hA : All Q (load1K h id off k)) : ∃ v, (∀ k, load1K h id off k = k v) ∧ All Q (k v) := by
  unfold load1K at hA
  obtain ⟨t, d, sz, el, lo, hi, sl, h1, hA⟩ := onCells_val hA
  rw [all_iteR_fail] at hA
  exact ⟨_, fun k => by unfold load1K; rw [h1, hA.1, iteR_true], hA.2⟩

theorem v_load {t : TypeId} {x : Operand} (hA : All Q (hLoad B t x a e h nx k)) : ∃ v, HA (hLoad B t x) a e h nx v := by
  unfold hLoad at hA
  obtain ⟨v, h1, hA1⟩ := evalK_val hA
  clear hA
  rw [all_onPtr] at hA1
  obtain ⟨id, off, rfl, hA2⟩ := hA1
  obtain ⟨d, n, z, sub, h2, hA3⟩ := onRow_val hA2
  clear hA2
  rw [all_iteR] at hA3
  rcases hA3 with ⟨hd, hA4⟩ | ⟨hd, hA4⟩
  · obtain ⟨l, h3, _⟩ := loadK_val hA4
    refine ⟨.agg ⟨l⟩, fun k => ?_⟩
    unfold hLoad
    rw [h1]
    show onRow B t _ = _
    rw [h2, hd, iteR_true, h3]
  · obtain ⟨l, h3, _⟩ := load1K_val hA4
    refine ⟨l, fun k => ?_⟩
    unfold hLoad
    rw [h1]
    show onRow B t _ = _
    rw [h2, hd, iteR_false, h3]

theorem boundK_val {v : Option Value} {most dflt : Nat} {k : Nat → R} (hA : All Q (boundK v most dflt k)) : ∃ i, (∀ k, boundK v most dflt k = k i) ∧ All Q (k i) := by
  cases v with
  | none => exact ⟨dflt, fun k => rfl, hA⟩
  | some v =>
    have hA1 : All Q (onIx v fun i => iteR (Nat.ble i most) (k i) (failR "bound")) := hA
    clear hA
    rw [all_onIx] at hA1
    obtain ⟨q, i, rfl, hA2⟩ := hA1
    rw [all_iteR_fail] at hA2
    refine ⟨i, fun k => ?_, hA2.2⟩
    show iteR (Nat.ble i most) (k i) (failR "bound") = _
    rw [hA2.1, iteR_true]

theorem sliceV_val {d : TypeDesc} {sub : List (Nat × Nat)} {v : Value} {lo hi mx : Option Value} (hA : All Q (sliceV d sub v lo hi mx h nx k)) : ∃ r, ∀ k, sliceV d sub v lo hi mx h nx k = k r h nx := by
  unfold sliceV at hA
  split at hA
  · rw [all_onStr] at hA
    obtain ⟨s, rfl, hA1⟩ := hA
    rw [all_iteR_fail'] at hA1
    obtain ⟨hm, hA2⟩ := hA1
    unfold sliceStr at hA2
    obtain ⟨u, h1, hA3⟩ := boundK_val hA2
    obtain ⟨l, h2, hA4⟩ := boundK_val hA3
    refine ⟨.string (s.extract l u), fun k => ?_⟩
    show iteR mx.isSome (failR "slice") (sliceStr s lo hi h nx k) = _
    rw [hm, iteR_false]
    unfold sliceStr
    rw [h1, h2]
  · rename_i el o size rest
    rw [all_onSlice] at hA
    obtain ⟨b, len, cap, rfl, hA1⟩ := hA
    unfold sliceSl at hA1
    obtain ⟨m, h1, hA2⟩ := boundK_val hA1
    obtain ⟨u, h2, hA3⟩ := boundK_val hA2
    obtain ⟨l, h3, hA4⟩ := boundK_val hA3
    rw [all_iteR_fail] at hA4
    obtain ⟨hc, hA5⟩ := hA4
    obtain ⟨r, h4, hA6⟩ := onO_val hA5
    refine ⟨r, fun k => ?_⟩
    show sliceSl size b len cap lo hi mx h nx k = _
    unfold sliceSl
    rw [h1, h2, h3, hc, iteR_true, h4, onO_some]
  · rename_i n el o size rest
    rw [all_onPtr] at hA
    obtain ⟨id, off, rfl, hA1⟩ := hA
    rw [all_iteR_fail'] at hA1
    obtain ⟨hm, hA2⟩ := hA1
    unfold sliceArr at hA2
    obtain ⟨u, h1, hA3⟩ := boundK_val hA2
    obtain ⟨l, h2, hA4⟩ := boundK_val hA3
    refine ⟨.slice (some ⟨id, if Nat.beq n l then off else Nat.add off (Nat.mul l size), some 0⟩) (Nat.sub u l) (Nat.sub n l), fun k => ?_⟩
    show iteR mx.isSome (failR "slice") (sliceArr n size id off lo hi h nx k) = _
    rw [hm, iteR_false]
    unfold sliceArr
    rw [h1, h2]
  · exact (hA : False).elim

theorem v_slice {t : TypeId} {x : Operand} {lo hi mx : Option Operand} (hA : All Q (hSlice B t x lo hi mx a e h nx k)) : ∃ v, HA (hSlice B t x lo hi mx) a e h nx v := by
  unfold hSlice at hA
  obtain ⟨v, h1, hA⟩ := evalK_val hA
  obtain ⟨l, h2, hA⟩ := evalOptK_val hA
  obtain ⟨u, h3, hA⟩ := evalOptK_val hA
  obtain ⟨m, h4, hA⟩ := evalOptK_val hA
  obtain ⟨d, n, z, sub, h5, hA⟩ := onRow_val hA
  obtain ⟨r, h6⟩ := sliceV_val hA
  exact ⟨r, fun k => by unfold hSlice; rw [h1, h2, h3, h4, h5, h6]⟩

theorem v_lookup {t : TypeId} {x y : Operand} {ok : Bool} (hA : All Q (hLookup B t x y ok a e h nx k)) : ∃ v, HA (hLookup B t x y ok) a e h nx v := by
  unfold hLookup at hA
  obtain ⟨v, h1, hA1⟩ := evalK_val hA
  obtain ⟨kv, h2, hA2⟩ := evalK_val hA1
  clear hA hA1
  rw [all_onMap] at hA2
  obtain ⟨m, rfl, hA3⟩ := hA2
  obtain ⟨d, n, z, sub, h3, hA4⟩ := onRow_val hA3
  clear hA3
  split at hA4
  · rename_i kt el
    unfold keyK at hA4
    obtain ⟨dk, nk, zk, sk, h4, hA5⟩ := onRow_val hA4
    rw [all_iteR_fail] at hA5
    obtain ⟨hkc, hA6⟩ := hA5
    have hent : ∃ es, (∀ k, entriesK h m k = k es) ∧ All Q (foundK B el kv es fun v b => k (if ok then .tuple #[v, .bool b] else v) h nx) := by
      cases m with
      | none => exact ⟨[], fun k => rfl, hA6⟩
      | some id =>
        have hA6 : All Q (onMapObj h id fun es _ => foundK B el kv es fun v b => k (if ok then .tuple #[v, .bool b] else v) h nx) := hA6
        obtain ⟨es, c, h5, hA7⟩ := onMapObj_val hA6
        exact ⟨es, fun k => h5 _, hA7⟩
    obtain ⟨es, h5, hA7⟩ := hent
    unfold foundK at hA7
    obtain ⟨r, h6, hA8⟩ := onO_val hA7
    have hfin : ∃ v b, ∀ k : Value → Bool → R, foundK B el kv es k = k v b := by
      split at hA8
      · rename_i i v
        exact ⟨v, true, fun k => by unfold foundK; rw [h6, onO_some]⟩
      · obtain ⟨d', n', z', s', h7, hA9⟩ := onRow_val hA8
        obtain ⟨z, rfl, hA10⟩ := onO_val hA9
        exact ⟨z, false, fun k => by unfold foundK; rw [h6, onO_some]; show onRow B el _ = _; rw [h7, onO_some]⟩
    obtain ⟨u, b, h7⟩ := hfin
    refine ⟨if ok then .tuple #[u, .bool b] else u, fun k => ?_⟩
    unfold hLookup
    rw [h1, h2]
    show onRow B t _ = _
    rw [h3]
    show keyK B kt kv _ = _
    unfold keyK
    rw [h4, hkc, iteR_true, h5, h7]
  · exact (hA4 : False).elim

theorem v_entry {x : Operand} (hA : All Q (hEntry x a e h nx k)) : ∃ v, HA (hEntry x) a e h nx v := by
  unfold hEntry at hA
  obtain ⟨v, h1, hA1⟩ := evalK_val hA
  clear hA
  rw [all_onPtr] at hA1
  obtain ⟨id, off, rfl, hA2⟩ := hA1
  rw [all_iteR_fail] at hA2
  obtain ⟨h0, hA3⟩ := hA2
  split at hA3
  · rename_i m since stamp seen last hg
    obtain ⟨es, clock, h2, hA4⟩ := onMapObj_val hA3
    rw [all_iteR_fail] at hA4
    obtain ⟨hc, hA5⟩ := hA4
    obtain ⟨en, h3, hA6⟩ := onO_val hA5
    refine ⟨.tuple #[en.key, en.val], fun k => ?_⟩
    unfold hEntry
    rw [h1]
    show iteR _ _ _ = _
    rw [h0, iteR_true, hg]
    show onMapObj h m _ = _
    rw [h2, hc, iteR_true, h3, onO_some]
  · exact (hA3 : False).elim

theorem v_len {c : Call} (hA : All Q (bLen B c a e h nx k)) : ∃ v, HA (bLen B c) a e h nx v := by
  unfold bLen at hA
  split at hA
  · rename_i x xs t ts ha ht
    obtain ⟨v, h1, hA1⟩ := evalK_val hA
    obtain ⟨d, n, z, sub, h2, hA2⟩ := onRow_val hA1
    clear hA hA1
    split at hA2
    · rename_i s
      exact ⟨.int .i64 (Int.ofNat s.size), fun k => by unfold bLen; rw [ha, ht]; simp only; rw [h1, h2]; show forceN _ _ = _; rw [forceN_eq]⟩
    · rename_i l c'
      rename_i n' _
      exact ⟨.int .i64 (Int.ofNat l), fun k => by unfold bLen; rw [ha, ht]; simp only; rw [h1, h2]; show forceN _ _ = _; rw [forceN_eq]⟩
    · exact ⟨.int .i64 (Int.ofNat 0), fun k => by unfold bLen; rw [ha, ht]; simp only; rw [h1, h2]⟩
    · rename_i id
      obtain ⟨es, clock, h3, hA4⟩ := onMapObj_val hA2
      exact ⟨.int .i64 (Int.ofNat es.length), fun k => by unfold bLen; rw [ha, ht]; simp only; rw [h1, h2]; show onMapObj h id _ = _; rw [h3, forceN_eq]⟩
    · exact (hA2 : False).elim
  · exact (hA : False).elim

/-! conversions -/
theorem convS_val {el : TypeId} {ad : Option Addr} {len : Nat} (hA : All Q (convS B el ad len h nx k)) : ∃ v, ∀ k, convS B el ad len h nx k = k v h nx := by
  unfold convS at hA
  obtain ⟨d, n, z, sub, h1, hA1⟩ := onRow_val hA
  clear hA
  split at hA1
  · exact ⟨_, fun k => by unfold convS; rw [h1]⟩
  · exact ⟨_, fun k => by unfold convS; rw [h1]⟩
  · rename_i id off sp
    obtain ⟨cs, h2, hA2⟩ := loadK_val hA1
    obtain ⟨l, h3, hA3⟩ := onO_val hA2
    exact ⟨.string ⟨⟨l⟩⟩, fun k => by unfold convS; rw [h1]; show loadK _ _ _ _ _ = _; rw [h2, h3, onO_some]⟩
  · rename_i id off sp
    obtain ⟨cs, h2, hA2⟩ := loadK_val hA1
    obtain ⟨l, h3, hA3⟩ := onO_val hA2
    exact ⟨.string ⟨⟨l⟩⟩, fun k => by unfold convS; rw [h1]; show loadK _ _ _ _ _ = _; rw [h2, h3, onO_some]⟩
  · exact (hA1 : False).elim

/-- what a text becomes as a slice of bytes -/
noncomputable def bytesObj (el : TypeId) (s : ByteArray) : AObj :=
  .cells (T.putList (intsOf s s.size) (T.const undef (depthFor s.size)) 0) (depthFor s.size) s.size el s.size (Nat.succ s.size) true

theorem convK_val {src dst : TypeId} {v : Value} (hA : All Q (convK B src dst v h nx k)) :
    (∃ r, ∀ k, convK B src dst v h nx k = k r h nx) ∨ (∃ s el, v = .string s ∧ ∀ h nx k, convK B src dst v h nx k = newK (bytesObj el s) h nx fun id h nx => k (.slice (some ⟨id, 0, none⟩) s.size s.size) h nx) := by
  unfold convK at hA
  split at hA
  · rename_i q n
    obtain ⟨h0, hA1⟩ := onTy_val hA
    obtain ⟨d, n', z, sub, h1, hA2⟩ := onRow_val hA1
    clear hA hA1
    split at hA2
    · exact .inl ⟨_, fun k => by unfold convK; simp only; rw [h0, h1]⟩
    · exact (hA2 : False).elim
  · rename_i s
    obtain ⟨h0, hA1⟩ := onTy_val hA
    obtain ⟨d, n', z, sub, h1, hA2⟩ := onRow_val hA1
    clear hA hA1
    split at hA2
    · exact .inl ⟨_, fun k => by unfold convK; simp only; rw [h0, h1]⟩
    · rename_i el
      obtain ⟨d2, n2, z2, sub2, h2, hA3⟩ := onRow_val hA2
      clear hA2
      split at hA3
      · refine .inr ⟨s, el, rfl, fun h nx k => ?_⟩
        unfold convK
        simp only
        rw [h0, h1]
        show onRow B el _ = _
        rw [h2]
        show forceN _ _ = _
        rw [forceN_eq, forceN_eq]
        rfl
      · exact (hA3 : False).elim
    · exact (hA2 : False).elim
  · rename_i ad len c
    obtain ⟨d, n', z, sub, h1, hA2⟩ := onRow_val hA
    clear hA
    split at hA2
    · obtain ⟨d2, n2, z2, sub2, h2, hA3⟩ := onRow_val hA2
      clear hA2
      split at hA3
      · obtain ⟨r, h3⟩ := convS_val hA3
        exact .inl ⟨r, fun k => by unfold convK; simp only; rw [h1]; show onRow B src _ = _; rw [h2]; exact h3 k⟩
      · exact (hA3 : False).elim
    · exact (hA2 : False).elim
  · rename_i p
    obtain ⟨d, n', z, sub, h1, hA2⟩ := onRow_val hA
    obtain ⟨d2, n2, z2, sub2, h2, hA3⟩ := onRow_val hA2
    clear hA hA2
    split at hA3
    · exact .inl ⟨_, fun k => by unfold convK; simp only; rw [h1, h2]⟩
    · exact .inl ⟨_, fun k => by unfold convK; simp only; rw [h1, h2]⟩
    · rename_i id off t
      obtain ⟨d4, n4, z4, sub4, h4, hA4⟩ := onRow_val hA3
      obtain ⟨tt, dd, sz, el, lo, hi, sl, h5, hA5⟩ := onCells_val hA4
      rw [all_iteR_fail] at hA5
      exact .inl ⟨_, fun k => by unfold convK; simp only; rw [h1, h2]; show onRow B t _ = _; rw [h4, h5, hA5.1, iteR_true]⟩
    · rename_i id off u
      obtain ⟨d4, n4, z4, sub4, h4, hA4⟩ := onRow_val hA3
      obtain ⟨tt, dd, sz, el, lo, hi, sl, h5, hA5⟩ := onCells_val hA4
      rw [all_iteR_fail] at hA5
      exact .inl ⟨_, fun k => by unfold convK; simp only; rw [h1, h2]; show onRow B u _ = _; rw [h4, h5, hA5.1, iteR_true]⟩
    · exact (hA3 : False).elim
  · exact (hA : False).elim

theorem v_conv {src dst : TypeId} {x : Operand} (hA : All Q (hConvert B src dst x a e h nx k)) : (∃ v, HA (hConvert B src dst x) a e h nx v) ∨
    (∃ s el, (∀ k : Value → R, evalK a.n e x k = k (.string s)) ∧ HN (hConvert B src dst x) a e (bytesObj el s) fun id => .slice (some ⟨id, 0, none⟩) s.size s.size) := by
  unfold hConvert at hA
  obtain ⟨v, h1, hA1⟩ := evalK_val hA
  rcases convK_val hA1 with ⟨r, h2⟩ | ⟨s, el, rfl, h2⟩
  · exact .inl ⟨r, fun k => by unfold hConvert; rw [h1, h2, forceV_eq]⟩
  · refine .inr ⟨s, el, h1, fun h nx k => ?_⟩
    unfold hConvert
    rw [h1, h2]
    rfl

theorem v_convR {src dst : TypeId} {x : Operand} (hA : All Q (hConvR B src dst x a e h nx k)) : ∃ v, HA (hConvert B src dst x) a e h nx v ∧ All Q (k v h nx) := by
  unfold hConvR at hA
  obtain ⟨v, h1, hA1⟩ := evalK_val hA
  clear hA
  split at hA1
  · rename_i s
    obtain ⟨h0, hA2⟩ := onTy_val hA1
    obtain ⟨d, n', z, sub, h2, hA3⟩ := onRow_val hA2
    clear hA1 hA2
    split at hA3
    · refine ⟨.string s, fun k => ?_, hA3⟩
      unfold hConvert
      rw [h1]
      unfold convK
      simp only
      rw [h0, h2]
      show forceV _ _ = _
      rw [forceV_eq]
    · exact (hA3 : False).elim
  · rename_i hns
    rcases convK_val hA1 with ⟨r, h2⟩ | ⟨s, el, rfl, h2⟩
    · refine ⟨r, fun k => by unfold hConvert; rw [h1, h2, forceV_eq], ?_⟩
      rw [h2] at hA1
      exact hA1
    · exact (hns s rfl).elim
end Go.Ev

namespace Go.Ev
open Go Go.RowKit
variable {Q : Out → Prop} {K : Ctx} {P : Program} {B : Tab} {a : Act0} {e : T Value} {h : T AObj} {nx : Nat} {k : KV}

/-- a new block is laid, and its value handed back -/
def NewRun (K : Ctx) (P : Program) (s : Sem Next) (ρ : Rho) (w : World) (obj : AObj) (mk : Nat → Value) : Prop :=
  ∃ c sl co u, s.run P w = .ok (.value u) (World.alloc { w with drawn := w.drawn + c } co) ∧ ORel K.es ρ ⟨w.heap.size, 0, sl⟩ obj (some co) ∧ ∀ ρ' id, ρ' id = some ⟨w.heap.size, 0, sl⟩ → VRel ρ' (mk id) u

theorem hn_unique {x : H} {obj obj' : AObj} {mk mk' : Nat → Value} (h1 : HN x a e obj mk) (h2 : HN x a e obj' mk') : obj = obj' ∧ ∀ id, id < 16384 → mk id = mk' id := by
  have key : ∀ id, id < 16384 → mk id = mk' id ∧ (T.leaf obj : T AObj) = T.leaf obj' := by
    intro id hid
    have := (h1 (T.leaf .dead) id fun v h nx => .ret ⟨v, h, nx⟩).symm.trans (h2 (T.leaf .dead) id fun v h nx => .ret ⟨v, h, nx⟩)
    unfold newK at this
    have hb : Nat.blt id 16384 = true := by rw [Nat.blt_eq]; exact hid
    rw [hb, iteR_true, iteR_true, forceN_eq, forceN_eq] at this
    have h3 := Res.ret.inj this
    have h4 : mk id = mk' id := congrArg Out.v h3
    have h5 : T.set obj (T.leaf .dead) id = T.set obj' (T.leaf .dead) id := congrArg Out.h h3
    rw [T.set_leaf, T.set_leaf] at h5
    exact ⟨h4, h5⟩
  exact ⟨T.leaf.inj (key 0 (by decide)).2, fun id hid => (key id hid).1⟩

theorem newrun_cells {ρ : Rho} {w : World} {cs us : List Value} {el : TypeId} {s : Sem Next} {mk : Nat → Value} {u : Value} (hr : VRels ρ cs us)
    (hs : s.run P w = .ok (.value u) (w.alloc (.cells ⟨us⟩ el))) (hv : ∀ ρ' id, ρ' id = some ⟨w.heap.size, 0, 0⟩ → VRel ρ' (mk id) u) : NewRun K P s ρ w (cellsOf cs el false) mk := by
  refine ⟨0, 0, .cells ⟨us⟩ el, u, hs, ?_, hv⟩
  have := ORel.newRow (σ := K.es) (b := w.heap.size) (sl := 0) (zs := []) (el := el) (fz := (0, 0)) (lo := 0) (hi := 0) hr (FzOk.none _ _) false (fun _ => ⟨rfl, rfl⟩) (fun h => by cases h)
  rw [List.append_nil] at this
  exact this

theorem run_vS' {s : Sem Value} {u : Value} {w w' : World} (h : s.run P w = .ok u w') : (vS s).run P w = .ok (.value u) w' := run_vS h

/-- the facts about an operation that lays a new block -/
def NewFacts (B : Tab) (x : H) (op : Op) (a : Act0) (e : T Value) : Prop :=
  ∃ obj mk, HN x a e obj mk ∧ ∀ (K : Ctx) (P : Program), TabOk B P → (∀ t i, P.info? t = some i → K.es t = i.size) → ∀ (ρ : Rho) (h : T AObj) (nx : Nat) (w : World) (act : Act) (ty : TypeId), Rel K ρ h nx w → ERel ρ a.n e act.tmps → NewRun K P (ex op ty act.eval) ρ w obj mk

theorem n_alloc {t : TypeId} (hA : All Q (hAlloc B t a e h nx k)) : NewFacts B (hAlloc B t) (.alloc t) a e := by
  unfold hAlloc at hA
  have hA0 := hA
  rw [all_onRow] at hA0
  obtain ⟨ht, d, n, z, sub, hrow, hA0⟩ := hA0
  obtain ⟨z, rfl, _⟩ := onO_val hA0
  refine ⟨cellsOf z.cells.toList t false, ptrTo, fun h nx k => ?_, fun K P hB hes ρ h nx w act ty hR hE => ?_⟩
  · unfold hAlloc onRow
    have hb : Nat.blt t 1024 = true := by rw [Nat.blt_eq]; exact ht
    rw [hb, iteR_true, hrow]
    show newCellsK _ _ _ _ _ _ = _
    rw [newCellsK_eq]
  · have hz := run_zeroValue hB ht hrow w
    refine newrun_cells (u := .pointer (some ⟨w.heap.size, 0, none⟩)) (VRel.info hB ht hrow).1 (run_vS (s := Instr.alloc t true (.tuple #[])) ?_) (fun ρ' id hi => VRel.ptr (off := 0) hi)
    simp [Instr.alloc, hz, newVar, newRow]

theorem n_box {t : TypeId} {x : Operand} (hA : All Q (hBox t x a e h nx k)) : NewFacts B (hBox t x) (.box t x) a e := by
  unfold hBox at hA
  obtain ⟨v, h1, _⟩ := evalK_val hA
  refine ⟨cellsOf v.cells.toList t false, ptrTo, fun h nx k => ?_, fun K P hB hes ρ h nx w act ty hR hE => ?_⟩
  · unfold hBox
    rw [h1, newCellsK_eq]
  · have hA' : All (fun o => o.v = v) (evalK a.n e x fun v => .ret ⟨v, h, nx⟩) := by rw [h1]; exact rfl
    obtain ⟨v', hv, hq⟩ := evalK_ok hR.glob hE hA'
    have hq : v' = v := hq
    subst hq
    refine newrun_cells (u := .pointer (some ⟨w.heap.size, 0, none⟩)) hv.cells (run_vS (s := Instr.box t (act.eval x)) ?_) (fun ρ' id hi => VRel.ptr (off := 0) hi)
    simp [Instr.box, newVar, newRow]

theorem n_makeMap {t : TypeId} {r : Option Operand} (hA : All Q (hMakeMap r a e h nx k)) : NewFacts B (hMakeMap r) (.makeMap t r) a e := by
  cases r with
  | some r => exact (hA : False).elim
  | none =>
    refine ⟨.map [] 0, fun id => .map (some id), fun h nx k => rfl, fun K P hB hes ρ h nx w act ty hR hE => ?_⟩
    refine ⟨0, 0, .map #[] 0, .map (some w.heap.size), run_vS (s := Instr.makeMap t none) ?_, ⟨#[], rfl, .nil, by simp⟩, fun ρ' id hi => VRel.map hi⟩
    simp [Instr.makeMap]

theorem n_buildSlice {t : TypeId} {len : Nat} {ps : Array (Nat × Operand)} (hA : All Q (hBuildSlice B t len ps a e h nx k)) : NewFacts B (hBuildSlice B t len ps) (.buildSlice t len ps) a e := by
  have hA0 := hA
  unfold hBuildSlice at hA0
  rw [all_onRow] at hA0
  obtain ⟨ht, d, n, z, sub, hrow, hA1⟩ := hA0
  split at hA1
  · rename_i el
    rw [all_onRow] at hA1
    obtain ⟨hte, de, ne, ze, sube, hrowe, hA2⟩ := hA1
    obtain ⟨z, rfl, hA3⟩ := onO_val hA2
    rw [all_iteR_fail] at hA3
    obtain ⟨hsm, hA4⟩ := hA3
    obtain ⟨l, hl, _⟩ := fillK_val hA4
    refine ⟨cellsOf l el false, fun id => .slice (some ⟨id, 0, none⟩) len len, fun h nx k => ?_, fun K P hB hes ρ h nx w act ty hR hE => ?_⟩
    · have hb : Nat.blt t 1024 = true := by rw [Nat.blt_eq]; exact ht
      have hb2 : Nat.blt el 1024 = true := by rw [Nat.blt_eq]; exact hte
      unfold hBuildSlice onRow
      rw [hb, iteR_true, hrow]
      simp only
      rw [hb2, iteR_true, hrowe]
      simp only
      rw [onO_some, hsm, iteR_true, hl, newCellsK_eq]
    · rw [Nat.ble_eq] at hsm
      have hsm : len * ne ≤ 1000000 := hsm
      obtain ⟨hzr, hzn⟩ := VRel.info hB (ρ := ρ) hte hrowe
      obtain ⟨hue, ie, hi1, hi2, hi3, _⟩ := hB.row el de ne _ sube hte hrowe
      obtain ⟨j, hj1, hj2⟩ := hB.slice t el n _ _ ht hrow
      rw [hi1] at hj1
      cases hj1
      subst hj2
      subst hi2
      rw [← hzn] at hsm
      have hA' : All (fun o => o.v = .agg ⟨l⟩) (fillK (stride [(0, ie.size)]) a.n e ps.toList (manyOf len z.cells.toList) fun r => .ret ⟨.agg ⟨r⟩, h, nx⟩) := by rw [hl]; exact rfl
      obtain ⟨r, rs, h1, h2, h3, h4⟩ := fill_ok hR.glob hE (stride [(0, ie.size)]) (fun i => some (i * ie.size, ie.size)) (by intro i q hq; exact hq) ps.toList _ _ _ hA' (hzr.many len)
      have h4 : (Value.agg ⟨r⟩ : Value) = .agg ⟨l⟩ := h4
      have hrl : r = l := by simpa using h4
      subst hrl
      have hparts : (ps.map fun (x : Nat × Operand) => (x.1, act.eval x.2)).toList = ps.toList.map fun (x : Nat × Operand) => (x.1, act.eval x.2) := Array.toList_map
      have e0 : ex (.buildSlice t len ps) ty act.eval = vS (Instr.buildSlice t len (ps.map fun (x : Nat × Operand) => (x.1, act.eval x.2))) := rfl
      rw [e0]
      refine newrun_cells (u := .slice (some ⟨w.heap.size, 0, none⟩) len len) h1 (run_vS ?_) (fun ρ' id hi => VRel.slice (off := 0) (l := len) (c := len) hi)
      have hu := (hB.row t _ n _ _ ht hrow).1
      by_cases hpos : len * ie.size = 0
      · have hm : manyOf len z.cells.toList = [] := by
          apply List.eq_nil_of_length_eq_zero
          rw [length_manyOf, Array.length_toList, hzn, hpos]
        rw [hm] at h2
        have h2' : Instr.fill (fun i => some (i * ie.size, ie.size)) #[] (ps.toList.map fun (x : Nat × Operand) => (x.1, act.eval x.2)) = some ⟨rs⟩ := h2
        simp [Instr.buildSlice, Go.run_underlying hu, sizeOf, typeInfo, hi1, hpos, h2', newRow, Array.range_zero']
      · refine run_buildSlice w t el len _ _ ie z hu hi1 hi3 (by rw [← hzn]; have := hsm; omega) hpos ?_
        rw [hparts]
        have hmm : Array.map (fun x => z.cells[x % z.cells.size]!) (Array.range (len * ie.size)) = ⟨manyOf len z.cells.toList⟩ := by
          rw [← hzn]; exact made_many z.cells len
        rw [hmm]
        exact h2
  · exact (hA1 : False).elim

theorem n_makeSlice {t : TypeId} {l c : Operand} (hA : All Q (hMakeSlice B t l c a e h nx k)) : NewFacts B (hMakeSlice B t l c) (.makeSlice t l c) a e := by
  have hA0 := hA
  unfold hMakeSlice at hA0
  rw [all_onRow] at hA0
  obtain ⟨ht, d, n, z, sub, hrow, hA1⟩ := hA0
  split at hA1
  · rename_i el
    obtain ⟨lv, hl, hA2⟩ := evalK_val hA1
    obtain ⟨cv, hc, hA3⟩ := evalK_val hA2
    clear hA1 hA2
    rw [all_onIx] at hA3
    obtain ⟨ql, lN, rfl, hA4⟩ := hA3
    rw [all_onIx] at hA4
    obtain ⟨qc, cN, rfl, hA5⟩ := hA4
    rw [all_iteR_fail] at hA5
    obtain ⟨hcc, hA6⟩ := hA5
    rw [all_onRow] at hA6
    obtain ⟨hte, de, ne, ze, sube, hrowe, hA7⟩ := hA6
    obtain ⟨z, rfl, _⟩ := onO_val hA7
    refine ⟨cellsOf (manyOf cN z.cells.toList) el false, fun id => .slice (some ⟨id, 0, none⟩) lN cN, fun h nx k => ?_, fun K P hB hes ρ h nx w act ty hR hE => ?_⟩
    · have hb : Nat.blt t 1024 = true := by rw [Nat.blt_eq]; exact ht
      have hb2 : Nat.blt el 1024 = true := by rw [Nat.blt_eq]; exact hte
      unfold hMakeSlice onRow
      rw [hb, iteR_true, hrow]
      simp only
      rw [hl, hc]
      show iteR _ _ _ = _
      rw [hcc, iteR_true, hb2, iteR_true, hrowe]
      simp only
      rw [onO_some, newCellsK_eq]
    · simp only [Bool.and_eq_true, Nat.ble_eq] at hcc
      obtain ⟨hzr, hzn⟩ := VRel.info hB (ρ := ρ) hte hrowe
      obtain ⟨hue, ie, hi1, hi2, hi3, _⟩ := hB.row el de ne _ sube hte hrowe
      have hu := (hB.row t _ n _ _ ht hrow).1
      have hby := hB.small el de ne _ sube hte hrowe ie hi1
      have ev : ∀ {x : Operand} {v : Value}, (∀ k : Value → R, evalK a.n e x k = k v) → atom v = true → act.eval x = v := by
        intro x v hx ha
        have hA' : All (fun o => o.v = v) (evalK a.n e x fun v => .ret ⟨v, h, nx⟩) := by rw [hx]; exact rfl
        obtain ⟨v', hv, hq⟩ := evalK_ok hR.glob hE hA'
        have hq : v' = v := hq
        subst hq
        exact VRel.atom ha hv
      have e1 : act.eval l = .int ql (lN : Int) := ev hl rfl
      have e2 : act.eval c = .int qc (cN : Int) := ev hc rfl
      have e0 : ex (.makeSlice t l c) ty act.eval = vS (Instr.makeSlice t (.int ql (lN : Int)) (.int qc (cN : Int))) := by rw [← e1, ← e2]; rfl
      rw [e0]
      have hbc : ie.bytes * cN ≤ 1000000 * 100000 := Nat.mul_le_mul hby hcc.2
      have hbc2 : (ie.bytes : Int) * (cN : Int) ≤ 281474976710656 := by
        rw [← Int.natCast_mul]
        omega
      have hrun := run_make (P := P) w t el ie z hu hi1 hi3 ql qc (lN : Int) (cN : Int) (by omega) (by omega) hbc2 (by omega)
      simp only [Int.toNat_natCast] at hrun
      rw [hi2, ← hzn, made_many] at hrun
      exact newrun_cells (hzr.many cN) (run_vS hrun) (fun ρ' id hi => VRel.slice (off := 0) (l := lN) (c := cN) hi)
  · exact (hA1 : False).elim

theorem n_conv {src dst : TypeId} {x : Operand} (hA : All Q (hConvert B src dst x a e h nx k)) : (∃ v, HA (hConvert B src dst x) a e h nx v) ∨ NewFacts B (hConvert B src dst x) (.convert src dst x) a e := by
  rcases v_conv hA with h1 | ⟨s, el, h1, h2⟩
  · exact .inl h1
  · refine .inr ⟨_, _, h2, fun K P hB hes ρ h' nx' w act ty hR hE => ?_⟩
    have hA' : All (fun o => o.v = .string s) (evalK a.n e x fun v => .ret ⟨v, h', nx'⟩) := by rw [h1]; exact rfl
    obtain ⟨v', hv, hq⟩ := evalK_ok hR.glob hE hA'
    have hq : v' = .string s := hq
    subst hq
    generalize hu : act.eval x = u at hv
    cases hv
    have e0 : ex (.convert src dst x) ty act.eval = vS (convert src dst (.string s)) := by rw [← hu]; rfl
    rw [e0]
    unfold hConvert at hA
    rw [h1] at hA
    have hA1 : All Q (onTy B src <| onRow B dst fun d _ _ _ => match d with
      | .string => k (.string s) h nx
      | .slice e => onRow B e fun d _ _ _ => match d with
        | .int .u8 => forceN s.size fun n => forceN (depthFor n) fun d => newK (.cells (T.putList (intsOf s n) (T.const undef d) 0) d n e n (Nat.succ n) true) h nx fun id h nx => forceV (.slice (some ⟨id, 0, none⟩) n n) fun r => k r h nx
        | _ => failR "convert"
      | _ => failR "convert") := hA
    rw [all_onTy, all_onRow] at hA1
    obtain ⟨hs, ht, d, m, z, sub, hrow, hA2⟩ := hA1
    obtain ⟨ds, hds⟩ := hB.nt src hs
    have r1 : (underlying src).run P w = .ok ds w := by simp [underlying, hds]
    have r2 := run_underlying hB ht hrow w
    split at hA2
    · -- not a new block
      exfalso
      have hb : Nat.blt src B.nt = true := by rw [Nat.blt_eq]; exact hs
      have hb2 : Nat.blt dst 1024 = true := by rw [Nat.blt_eq]; exact ht
      have h3 := h2 (T.leaf .dead) 16384 fun v h nx => .ret ⟨v, h, nx⟩
      have h4 : hConvert B src dst x a e (T.leaf .dead) 16384 (fun v h nx => .ret ⟨v, h, nx⟩) = .ret ⟨.string s, T.leaf .dead, 16384⟩ := by
        unfold hConvert
        rw [h1]
        unfold convK onTy onRow
        simp only
        rw [hb, iteR_true, hb2, iteR_true, hrow]
        rfl
      rw [h4] at h3
      unfold newK at h3
      have hb3 : Nat.blt 16384 16384 = false := by decide
      rw [hb3, iteR_false] at h3
      cases h3
    · rename_i el'
      rw [all_onRow] at hA2
      obtain ⟨ht', d', m', z', sub', hrow', hA3⟩ := hA2
      have r3 := run_underlying hB ht' hrow' w
      split at hA3
      · have hel : bytesObj el' s = bytesObj el s := by
          have h3 : HN (hConvert B src dst x) a e (bytesObj el' s) fun id => .slice (some ⟨id, 0, none⟩) s.size s.size := by
            intro h nx k
            have hb : Nat.blt src B.nt = true := by rw [Nat.blt_eq]; exact hs
            have hb2 : Nat.blt dst 1024 = true := by rw [Nat.blt_eq]; exact ht
            have hb3 : Nat.blt el' 1024 = true := by rw [Nat.blt_eq]; exact ht'
            unfold hConvert
            rw [h1]
            unfold convK onTy onRow
            simp only
            rw [hb, iteR_true, hb2, iteR_true, hrow]
            simp only
            rw [hb3, iteR_true, hrow']
            show forceN _ _ = _
            rw [forceN_eq, forceN_eq]
            rfl
          exact (hn_unique h3 h2).1
        rw [← hel]
        have hes1 : K.es el' = 1 := hB.byte el' _ _ _ ht' hrow' ▸ (by obtain ⟨_, it, h1, h2, _⟩ := hB.row _ _ _ _ _ ht' hrow'; rw [hes el' it h1, h2])
        obtain ⟨cap, hcap, hrun⟩ := run_stringToBytes (P := P) el' s w
        have ht0 : s.data.toList.take s.size = s.data.toList := List.take_of_length_le (by rw [Array.length_toList]; exact Nat.le_refl _)
        have hl : (intsOf s s.size).length = s.size := by
          have hl : s.data.toList.length = s.size := by rw [Array.length_toList]; rfl
          rw [intsOf, List.length_map, ht0, hl]
        have hc : (convert src dst (.string s)).run P w = (Conv.stringToBytes el' s).run P w := by
          simp only [convert, Sem.run_bind, r1, r2, Result.andThen_ok]
          cases ds <;> simp [r3]
        have hob := ORel.newRow (σ := K.es) (b := w.heap.size) (sl := cap - s.size) (zs := List.replicate (cap - s.size) (.int .u8 0)) (el := el') (fz := (s.size + (cap - s.size), s.size + (cap - s.size) + 1)) (lo := s.size) (hi := s.size + 1)
          (VRels.of_atoms (ρ := ρ) (l := intsOf s s.size) (all_ints s _))
          (by rw [hl]; exact .inr (.inl ⟨rfl, rfl, by simp⟩)) true (fun h => by cases h) (fun _ => ⟨by rw [hes1]; omega, by rw [hes1]; simp⟩)
        rw [hl] at hob
        refine ⟨1, cap - s.size, _, _, run_vS (hc.trans hrun), hob, fun ρ' id hi => ?_⟩
        have := VRel.slice (ρ := ρ') (id := id) (off := 0) (l := s.size) (c := s.size) hi
        simp only [Nat.add_zero] at this
        rw [show s.size + (cap - s.size) = cap by omega] at this
        exact this
      · exact (hA3 : False).elim
    · exact (hA2 : False).elim
end Go.Ev

namespace Go.Ev
open Go Go.RowKit
variable {Q : Out → Prop} {K : Ctx} {P : Program} {B : Tab}

/-! bits -/
theorem bitAt_eq (m i : Nat) : bitAt m i = m.testBit i := by
  unfold bitAt
  show ((Nat.mod (Nat.shiftRight m i) 2).beq 1) = _
  rw [Nat.testBit_eq_decide_div_mod_eq]
  have : Nat.shiftRight m i = m / 2 ^ i := Nat.shiftRight_eq_div_pow m i
  rw [this]
  show Nat.beq (m / 2 ^ i % 2) 1 = _
  by_cases h : m / 2 ^ i % 2 = 1
  · rw [h]; simp
  · cases hb : Nat.beq (m / 2 ^ i % 2) 1 with
    | true => exact absurd (Nat.eq_of_beq_eq_true hb) h
    | false => simp [h]
theorem bitAt_or (a b i : Nat) : bitAt (Nat.lor a b) i = (bitAt a i || bitAt b i) := by
  rw [bitAt_eq, bitAt_eq, bitAt_eq]
  exact Nat.testBit_or a b i
theorem bitAt_one (k i : Nat) : bitAt (Nat.shiftLeft 1 k) i = decide (i = k) := by
  rw [bitAt_eq]
  show (1 <<< k).testBit i = _
  rw [Nat.one_shiftLeft, Nat.testBit_two_pow]
  by_cases h : k = i
  · subst h; simp
  · have : ¬ i = k := fun e => h e.symm
    simp [h, this]
theorem bitAt_zero (i : Nat) : bitAt 0 i = false := by rw [bitAt_eq]; exact Nat.zero_testBit i
theorem bitAt_set (a k i : Nat) : bitAt (Nat.lor a (Nat.shiftLeft 1 k)) i = (bitAt a i || decide (i = k)) := by rw [bitAt_or, bitAt_one]
theorem bitAt_all {n i : Nat} (h : i < n) : bitAt (Nat.pred (Nat.shiftLeft 1 n)) i = true := by
  rw [bitAt_eq]
  show ((1 <<< n) - 1).testBit i = true
  rw [Nat.one_shiftLeft, Nat.testBit_two_pow_sub_one]
  simpa using h

/-! what comes before -/
theorem mask_fold (f : Nat → Nat) : ∀ (l : List Edge) (s j : Nat), bitAt (l.foldl (fun s e => if Region.binds .any e then Nat.lor (Nat.lor s (Nat.shiftLeft 1 e.on)) (f e.on) else s) s) j = true →
    bitAt s j = true ∨ ∃ e ∈ l, Region.binds .any e = true ∧ (j = e.on ∨ bitAt (f e.on) j = true)
  | [], s, j, h => .inl h
  | e :: l, s, j, h => by
    rw [List.foldl_cons] at h
    rcases mask_fold f l _ j h with h | ⟨e', he', hb, hj⟩
    · by_cases hb : Region.binds .any e = true
      · rw [if_pos hb, bitAt_or, bitAt_set] at h
        simp only [Bool.or_eq_true, decide_eq_true_eq] at h
        rcases h with (h | h) | h
        · exact .inl h
        · exact .inr ⟨e, by simp, hb, .inl h⟩
        · exact .inr ⟨e, by simp, hb, .inr h⟩
      · rw [if_neg hb] at h
        exact .inl h
    · exact .inr ⟨e', by simp [he'], hb, hj⟩

theorem masks_spec : ∀ (l : List Oper) (acc : List Nat), ∃ r, masks l acc = acc ++ r ∧ ∀ (i : Nat) (o : Oper), l[i]? = some o → ∀ j, bitAt (maskOf (masks l acc) (acc.length + i)) j = true →
    ∃ e ∈ o.after.toList, Region.binds .any e = true ∧ (j = e.on ∨ bitAt (maskOf (masks l acc) e.on) j = true)
  | [], acc => ⟨[], by simp [masks], fun i o h => by simp at h⟩
  | o :: l, acc => by
    let mo := o.after.toList.foldl (fun s e => if Region.binds .any e then Nat.lor (Nat.lor s (Nat.shiftLeft 1 e.on)) (acc[e.on]?.getD 0) else s) 0
    have hm : masks (o :: l) acc = masks l (acc ++ [mo]) := rfl
    obtain ⟨r, hr, hs⟩ := masks_spec l (acc ++ [mo])
    refine ⟨mo :: r, by rw [hm, hr]; simp, fun i o' ho j hj => ?_⟩
    rw [hm] at hj ⊢
    cases i with
    | zero =>
      simp at ho; subst ho
      have hmo : maskOf (masks l (acc ++ [mo])) (acc.length + 0) = mo := by
        rw [hr]; unfold maskOf; simp
      rw [hmo] at hj
      rcases mask_fold (fun k => acc[k]?.getD 0) o.after.toList 0 j hj with h | ⟨e, he, hb, h⟩
      · rw [bitAt_zero] at h; cases h
      · refine ⟨e, he, hb, h.imp id fun h => ?_⟩
        by_cases hlt : e.on < acc.length
        · have : maskOf (masks l (acc ++ [mo])) e.on = acc[e.on]?.getD 0 := by
            rw [hr]; unfold maskOf
            rw [List.getElem?_append_left (by simp; omega), List.getElem?_append_left hlt]
          rw [this]; exact h
        · have : acc[e.on]? = none := List.getElem?_eq_none (by omega)
          rw [this] at h
          have h : bitAt 0 j = true := h
          rw [bitAt_zero] at h; cases h
    | succ i =>
      have ho : l[i]? = some o' := by simpa using ho
      have e1 : acc.length + (i + 1) = (acc ++ [mo]).length + i := by simp; omega
      rw [e1] at hj
      exact hs i o' ho j hj

/-- what the checks of a region say -/
structure RegSpec (ops : Array Oper) (ms : List Nat) (hs : List Bool) : Prop where
  back : ∀ (i : Nat) (o : Oper), ops[i]? = some o → ∀ e ∈ o.after.toList, Region.binds .any e = true → e.on < i
  mask : ∀ (i : Nat) (o : Oper), ops[i]? = some o → ∀ j, bitAt (maskOf ms i) j = true → ∃ e ∈ o.after.toList, Region.binds .any e = true ∧ (j = e.on ∨ bitAt (maskOf ms e.on) j = true)
  light : ∀ (i : Nat) (o : Oper), ops[i]? = some o → heavyAt hs i = false → isHeavy o = false
  own : ∀ (i : Nat) (o : Oper) (d : Nat), ops[i]? = some o → heavyAt hs i = false → o.dst = some d → memN d (looks ops.toList o) = false
  dst : ∀ (i : Nat) (o : Oper) (j : Nat) (p : Oper) (d : Nat), ops[i]? = some o → ops[j]? = some p → i ≠ j → p.dst = some d → o.dst ≠ some d
  apart : ∀ (i : Nat) (o : Oper) (j : Nat) (p : Oper) (d : Nat), ops[i]? = some o → ops[j]? = some p → i ≠ j → p.dst = some d → memN d (looks ops.toList o) = true → bitAt (maskOf ms i) j = true ∨ (heavyAt hs j = true ∧ bitAt (maskOf ms j) i = true)

theorem mem_numbered : ∀ (l : List Oper) (k i : Nat) (o : Oper), l[i]? = some o → (k + i, o) ∈ numbered l k
  | [], _, _, _, h => by simp at h
  | a :: l, k, 0, o, h => by
    have h : a = o := by simpa using h
    subst h
    exact List.mem_cons_self ..
  | a :: l, k, i + 1, o, h => by
    have h : l[i]? = some o := by simpa using h
    have := mem_numbered l (Nat.succ k) i o h
    have e : Nat.succ k + i = k + (i + 1) := by omega
    rw [e] at this
    exact List.mem_cons_of_mem _ this
theorem of_numbered : ∀ (l : List Oper) (k : Nat) (p : Nat × Oper), p ∈ numbered l k → k ≤ p.1 ∧ l[p.1 - k]? = some p.2
  | [], _, _, h => by cases h
  | a :: l, k, p, h => by
    have h : p ∈ (k, a) :: numbered l (Nat.succ k) := h
    rcases List.mem_cons.1 h with rfl | h
    · simp
    · obtain ⟨h1, h2⟩ := of_numbered l (Nat.succ k) p h
      refine ⟨by omega, ?_⟩
      have e : p.1 - k = (p.1 - Nat.succ k) + 1 := by omega
      rw [e]; simpa using h2
theorem length_numbered : ∀ (l : List Oper) (k : Nat), (numbered l k).length = l.length
  | [], _ => rfl
  | a :: l, k => by
    show (numbered l (Nat.succ k)).length + 1 = _
    rw [length_numbered l (Nat.succ k)]; rfl
theorem pairwise_numbered : ∀ (l : List Oper) (k : Nat), ((numbered l k).map (·.1)).Nodup
  | [], _ => List.nodup_nil
  | a :: l, k => by
    show (k :: (numbered l (Nat.succ k)).map (·.1)).Nodup
    refine List.nodup_cons.2 ⟨fun h => ?_, pairwise_numbered l (Nat.succ k)⟩
    obtain ⟨p, hp, he⟩ := List.mem_map.1 h
    have := (of_numbered l (Nat.succ k) p hp).1
    omega

theorem regOk_spec {ops : Array Oper} {hs : List Bool} (h : regOk (numbered ops.toList 0) ops.toList (masks ops.toList []) hs = true) : RegSpec ops (masks ops.toList []) hs := by
  unfold regOk at h
  rw [List.all_eq_true] at h
  have mem : ∀ {i : Nat} {o : Oper}, ops[i]? = some o → (i, o) ∈ numbered ops.toList 0 := by
    intro i o ho
    have := mem_numbered ops.toList 0 i o (by rw [Array.getElem?_toList]; exact ho)
    simpa using this
  have get : ∀ {i : Nat} {o : Oper}, ops[i]? = some o → (o.after.toList.all fun e => !(Region.binds .any e) || Nat.blt e.on i) = true ∧ (heavyAt hs i || !(isHeavy o)) = true ∧
      ∀ {j : Nat} {p : Oper}, ops[j]? = some p → apartB (masks ops.toList []) hs (looks ops.toList o) i o j p = true := by
    intro i o ho
    have := h _ (mem ho)
    simp only [Bool.and_eq_true] at this
    refine ⟨this.1.1, this.1.2, fun {j p} hp => ?_⟩
    have h3 := this.2
    rw [List.all_eq_true] at h3
    exact h3 _ (mem hp)
  have bne : ∀ {i j : Nat}, i ≠ j → Nat.beq i j = false := by
    intro i j hij
    cases hb : Nat.beq i j with
    | true => exact absurd (Nat.eq_of_beq_eq_true hb) hij
    | false => rfl
  refine ⟨fun i o ho e he hb => ?_, fun i o ho j hj => ?_, fun i o ho hl => ?_, fun i o d ho hl hd => ?_, fun i o j p d ho hp hij hd heq => ?_, fun i o j p d ho hp hij hd hm => ?_⟩
  · have := (get ho).1
    rw [List.all_eq_true] at this
    have := this e he
    rw [hb] at this
    simpa using this
  · obtain ⟨r, _, h2⟩ := masks_spec ops.toList []
    have := h2 i o (by rw [Array.getElem?_toList]; exact ho) j (by simpa using hj)
    exact this
  · have := (get ho).2.1
    rw [hl] at this
    simpa using this
  · have := (get ho).2.2 ho
    unfold apartB at this
    rw [hd] at this
    simp only at this
    have hbb : Nat.beq i i = true := by simp
    rw [hbb, if_pos rfl, hl] at this
    simpa using this
  · have := (get ho).2.2 hp
    unfold apartB at this
    rw [hd] at this
    simp only at this
    rw [bne hij] at this
    simp only [Bool.false_eq_true, if_false, Bool.and_eq_true] at this
    have h1 := this.1
    rw [heq] at h1
    simp [isDst] at h1
  · have := (get ho).2.2 hp
    unfold apartB at this
    rw [hd] at this
    simp only at this
    rw [bne hij] at this
    simp only [Bool.false_eq_true, if_false, Bool.and_eq_true] at this
    have h1 := this.2
    rw [hm] at h1
    simp only [Bool.not_true, Bool.false_or, Bool.or_eq_true, Bool.and_eq_true] at h1
    exact h1

/-! the blanked environment -/
theorem blank_ok {ρ : Rho} {n : Nat} : ∀ (X : List Nat) (e : T Value) (tm : Array Value), tm.size = n → T.full (depthFor n) e → (∀ t, t < n → t ∉ X → VRel ρ (e.get t) (tm.getD t undef)) →
    ∃ e' tm', ERel ρ n e' tm' ∧ (∀ t, t < n → t ∉ X → e.get t = e'.get t) ∧ (∀ t, t ∉ X → tm[t]? = tm'[t]?)
  | [], e, tm, hs, hf, hv => ⟨e, tm, ⟨hs, hf, fun t ht => hv t ht (by simp)⟩, fun _ _ _ => rfl, fun _ _ => rfl⟩
  | d :: X, e, tm, hs, hf, hv => by
    have hle := depthFor_le n
    by_cases hd : d < n
    · obtain ⟨e', tm', h1, h2, h3⟩ := blank_ok X (T.set undef e d) (tm.setIfInBounds d undef) (by simpa using hs) (T.full_set _ _ _ _ hf) (fun t ht hX => by
        rw [T.get_set undef _ e d t hf (by omega) (by omega)]
        by_cases e' : t = d
        · subst e'
          rw [if_pos rfl]
          have : t < tm.size := by omega
          simpa [this] using VRel.undef ρ
        · rw [if_neg e']
          have := hv t ht (by simp [e', hX])
          simpa [Array.getElem?_setIfInBounds, Ne.symm e'] using this)
      refine ⟨e', tm', h1, fun t ht hX => ?_, fun t hX => ?_⟩
      · simp only [List.mem_cons, not_or] at hX
        rw [← h2 t ht hX.2, T.get_set undef _ e d t hf (by omega) (by omega), if_neg hX.1]
      · simp only [List.mem_cons, not_or] at hX
        rw [← h3 t hX.2]
        simp [Ne.symm hX.1]
    · obtain ⟨e', tm', h1, h2, h3⟩ := blank_ok X e tm hs hf (fun t ht hX => hv t ht (by simp [hX]; omega))
      exact ⟨e', tm', h1, fun t ht hX => h2 t ht (fun h => hX (by simp [h])), fun t hX => h3 t (fun h => hX (by simp [h]))⟩

/-! guards -/
theorem guard_val {n : Nat} {e : T Value} {ops : Array Oper} {g : Option (Nat × Bool)} {yes no : R} (hA : All Q (guardK n e ops g yes no)) :
    ((∀ y z, guardK n e ops g y z = y) ∧ All Q yes) ∨ ((∀ y z, guardK n e ops g y z = z) ∧ All Q no) := by
  cases g with
  | none => exact .inl ⟨fun y z => rfl, hA⟩
  | some q =>
    obtain ⟨j, want⟩ := q
    have hA0 : All Q (onO (ops.toList[j]?) "guard" fun o => onO o.dst "guard" fun t => onTmp n e t fun v => match v with
      | .bool b => iteR (Bool.rec (Bool.not want) want b) yes no
      | _ => no) := hA
    obtain ⟨oj, hoj, hA1⟩ := onO_val hA0
    obtain ⟨t, ht, hA2⟩ := onO_val hA1
    rw [all_onTmp] at hA2
    obtain ⟨htn, hA3⟩ := hA2
    have hb : Nat.blt t n = true := by rw [Nat.blt_eq]; exact htn
    have go : ∀ y z : R, guardK n e ops (some (j, want)) y z = match e.get t with
        | .bool b => iteR (Bool.rec (Bool.not want) want b) y z
        | _ => z := by
      intro y z
      show onO (ops.toList[j]?) "guard" (fun o => onO o.dst "guard" fun t => onTmp n e t fun v => match v with
        | .bool b => iteR (Bool.rec (Bool.not want) want b) y z
        | _ => z) = _
      rw [hoj, onO_some, ht, onO_some]
      unfold onTmp
      rw [hb, iteR_true]
    generalize e.get t = v at hA3 go
    cases v with
    | bool b =>
      have hA3 : All Q (iteR (Bool.rec (Bool.not want) want b) yes no) := hA3
      rw [all_iteR] at hA3
      rcases hA3 with ⟨h1, hA3⟩ | ⟨h1, hA3⟩
      · exact .inl ⟨fun y z => by rw [go]; show iteR (Bool.rec (Bool.not want) want b) y z = _; rw [h1, iteR_true], hA3⟩
      · exact .inr ⟨fun y z => by rw [go]; show iteR (Bool.rec (Bool.not want) want b) y z = _; rw [h1, iteR_false], hA3⟩
    | _ => exact .inr ⟨fun y z => go y z, hA3⟩

theorem memN_iff (t : Nat) (l : List Nat) : memN t l = true ↔ t ∈ l := by
  unfold memN
  rw [List.any_eq_true]
  constructor
  · rintro ⟨x, hx, hb⟩
    rw [Nat.eq_of_beq_eq_true hb]; exact hx
  · intro h
    exact ⟨t, h, by simp⟩
theorem looks_operand {ops : List Oper} {o : Oper} {t : Nat} (h : Operand.tmp t ∈ o.op.operands.toList) : t ∈ looks ops o := by
  unfold looks tmpsOf
  rw [List.mem_append]
  left
  rw [List.mem_filterMap]
  exact ⟨_, h, rfl⟩
theorem looks_guard {ops : List Oper} {o p : Oper} {j : Nat} {want : Bool} {d : Nat} (hg : o.guard = some (j, want)) (hp : ops[j]? = some p) (hd : p.dst = some d) : d ∈ looks ops o := by
  unfold looks
  rw [List.mem_append]
  right
  rw [hg]
  simp [hp, hd]

theorem guardK_same {n : Nat} {e e' : T Value} {ops : Array Oper} {o : Oper} (h : ∀ t, t < n → t ∈ looks ops.toList o → e.get t = e'.get t) (y z : R) : guardK n e ops o.guard y z = guardK n e' ops o.guard y z := by
  cases hg : o.guard with
  | none => rfl
  | some q =>
    obtain ⟨j, want⟩ := q
    show onO (ops.toList[j]?) "guard" (fun o => onO o.dst "guard" fun t => onTmp n e t fun v => match v with
      | .bool b => iteR (Bool.rec (Bool.not want) want b) y z
      | _ => z) = onO (ops.toList[j]?) "guard" (fun o => onO o.dst "guard" fun t => onTmp n e' t fun v => match v with
      | .bool b => iteR (Bool.rec (Bool.not want) want b) y z
      | _ => z)
    cases hp : ops.toList[j]? with
    | none => rfl
    | some p =>
      rw [onO_some, onO_some]
      cases hd : p.dst with
      | none => rfl
      | some d =>
        rw [onO_some, onO_some]
        unfold onTmp
        by_cases ht : d < n
        · rw [h d ht (looks_guard hg hp hd)]
        · have : Nat.blt d n = false := by
            cases hb : Nat.blt d n with
            | false => rfl
            | true => rw [Nat.blt_eq] at hb; exact absurd hb ht
          rw [this]; rfl

theorem wanted_same {ops : Array Oper} {o : Oper} {tm tm' : Array Value} (h : ∀ t, t ∈ looks ops.toList o → tm[t]? = tm'[t]?) : Region.wanted o (yielded ops tm) = Region.wanted o (yielded ops tm') := by
  unfold Region.wanted
  cases hg : o.guard with
  | none => rfl
  | some q =>
    obtain ⟨j, want⟩ := q
    simp only
    congr 1
    unfold yielded
    cases hp : ops[j]? with
    | none => rfl
    | some p =>
      simp only [Option.bind_some]
      cases hd : p.dst with
      | none => rfl
      | some d =>
        simp only [Option.bind_some]
        rw [h d (looks_guard hg (by rw [Array.getElem?_toList]; exact hp) hd)]

theorem eval_same {ops : List Oper} {o : Oper} {act act' : Act} (h : ∀ t, t ∈ looks ops o → act.tmps[t]? = act'.tmps[t]?) : ∀ x ∈ o.op.operands, act.eval x = act'.eval x := by
  intro x hx
  cases x with
  | tmp t =>
    have := h t (looks_operand (by simpa using hx))
    simp [Act.eval, this]
  | const v => rfl
  | global g => rfl
  | func f => rfl

theorem semAt_same {o : Oper} {ro : Option Nat} {ρ ρ' : Operand → Value} (hs : ∀ cs b, o.op ≠ .select cs b) (h : ∀ x ∈ o.op.operands, ρ x = ρ' x) : o.semAt ro ρ = o.semAt ro ρ' := by
  unfold Oper.semAt
  cases ro with
  | none => exact execOp_congr o hs h
  | some l =>
    cases ho : o.op with
    | defer c =>
      simp only
      rw [resolve_congr c o.type (fun x hx => h x (by rw [ho]; exact hx))]
    | _ => exact execOp_congr o hs h
end Go.Ev

namespace Go.Ev
open Go Go.RowKit
variable {Q : Out → Prop} {K : Ctx} {P : Program} {B : Tab} {rc : RC} {a : Act0}

def VN (B : Tab) (rc : RC) (op : Op) (a : Act0) (e : T Value) (obj : AObj) (mk : Nat → Value) : Prop := ∀ ds h nx (k : KD), opV B rc op a e ds h nx k = newK obj h nx fun id h nx => k (mk id) ds h nx
def NewSem (B : Tab) (op : Op) (a : Act0) (e : T Value) (obj : AObj) (mk : Nat → Value) : Prop :=
  ∀ (K : Ctx) (P : Program), TabOk B P → (∀ t i, P.info? t = some i → K.es t = i.size) → ∀ (ρ : Rho) (h : T AObj) (nx : Nat) (w : World) (act : Act) (ty : TypeId), Rel K ρ h nx w → ERel ρ a.n e act.tmps → NewRun K P (ex op ty act.eval) ρ w obj mk

theorem vn_unique {op : Op} {e : T Value} {obj obj' : AObj} {mk mk' : Nat → Value} (h1 : VN B rc op a e obj mk) (h2 : VN B rc op a e obj' mk') : obj = obj' ∧ ∀ id, id < 16384 → mk id = mk' id := by
  have key : ∀ id, id < 16384 → mk id = mk' id ∧ (T.leaf obj : T AObj) = T.leaf obj' := by
    intro id hid
    have := (h1 [] (T.leaf .dead) id fun v _ h nx => .ret ⟨v, h, nx⟩).symm.trans (h2 [] (T.leaf .dead) id fun v _ h nx => .ret ⟨v, h, nx⟩)
    unfold newK at this
    have hb : Nat.blt id 16384 = true := by rw [Nat.blt_eq]; exact hid
    rw [hb, iteR_true, iteR_true, forceN_eq, forceN_eq] at this
    have h3 := Res.ret.inj this
    have h4 : mk id = mk' id := congrArg Out.v h3
    have h5 : T.set obj (T.leaf .dead) id = T.set obj' (T.leaf .dead) id := congrArg Out.h h3
    rw [T.set_leaf, T.set_leaf] at h5
    exact ⟨h4, h5⟩
  exact ⟨T.leaf.inj (key 0 (by decide)).2, fun id hid => (key id hid).1⟩
theorem vn_not {op : Op} {e : T Value} {obj : AObj} {mk : Nat → Value} {v : Value} (h1 : VN B rc op a e obj mk) (h2 : ∀ ds (k : KD), opV B rc op a e ds (T.leaf .dead) 0 k = k v ds (T.leaf .dead) 0) : False := by
  have := (h1 [] (T.leaf .dead) 0 fun v _ h nx => .ret ⟨v, h, nx⟩).symm.trans (h2 [] fun v _ h nx => .ret ⟨v, h, nx⟩)
  unfold newK at this
  have hb : Nat.blt 0 16384 = true := by decide
  rw [hb, iteR_true, forceN_eq] at this
  have h4 := congrArg Out.nx (Res.ret.inj this)
  simp at h4

inductive Light (B : Tab) (rc : RC) (o : Oper) (a : Act0) (e : T Value) (h : T AObj) (nx : Nat) : Prop
  | pure (v : Value) : (∀ ds h nx (k : KD), opV B rc o.op a e ds h nx k = k v ds h nx) → Light B rc o a e h nx
  | read (v : Value) : isRead o = true → (∀ ds (k : KD), opV B rc o.op a e ds h nx k = k v ds h nx) → Light B rc o a e h nx
  | new (obj : AObj) (mk : Nat → Value) : isFresh o = true → VN B rc o.op a e obj mk → NewSem B o.op a e obj mk → Light B rc o a e h nx

theorem light_cases {o : Oper} (hl : isHeavy o = false) {e : T Value} {ds : List Deferred} {h : T AObj} {nx : Nat} {k : KD} (hA : All Q (opV B rc o.op a e ds h nx k)) : Light B rc o a e h nx := by
  obtain ⟨dst, op, type, pos, after, guard⟩ := o
  have pu : ∀ {x : H}, (opV B rc op = vH x) → (∀ {k : KV}, All Q (x a e h nx k) → ∃ v, HS x a e v) → Light B rc ⟨dst, op, type, pos, after, guard⟩ a e h nx := by
    intro x hx hf
    have hA : All Q (opV B rc op a e ds h nx k) := hA
    rw [hx] at hA
    obtain ⟨v, hv⟩ := hf (k := fun v h nx => k v ds h nx) hA
    exact .pure v fun ds h nx k => by show opV B rc op a e ds h nx k = _; rw [hx]; exact hv h nx _
  have rd : ∀ {x : H}, (opV B rc op = vH x) → isRead ⟨dst, op, type, pos, after, guard⟩ = true → (∀ {k : KV}, All Q (x a e h nx k) → ∃ v, HA x a e h nx v) → Light B rc ⟨dst, op, type, pos, after, guard⟩ a e h nx := by
    intro x hx hr hf
    have hA : All Q (opV B rc op a e ds h nx k) := hA
    rw [hx] at hA
    obtain ⟨v, hv⟩ := hf (k := fun v h nx => k v ds h nx) hA
    exact .read v hr fun ds k => by show opV B rc op a e ds h nx k = _; rw [hx]; exact hv _
  have nw : ∀ {x : H}, (opV B rc op = vH x) → isFresh ⟨dst, op, type, pos, after, guard⟩ = true → (∀ {k : KV}, All Q (x a e h nx k) → NewFacts B x op a e) → Light B rc ⟨dst, op, type, pos, after, guard⟩ a e h nx := by
    intro x hx hf hg
    have hA : All Q (opV B rc op a e ds h nx k) := hA
    rw [hx] at hA
    obtain ⟨obj, mk, h1, h2⟩ := hg (k := fun v h nx => k v ds h nx) hA
    exact .new obj mk hf (fun ds h nx k => by rw [hx]; exact h1 h nx _) h2
  cases op with
  | move x => exact pu rfl (fun hA => v_move hA)
  | assign x => exact pu rfl (fun hA => v_move hA)
  | pick c x y => exact pu rfl (fun hA => v_pick hA)
  | alloc t => exact nw rfl rfl (fun hA => n_alloc hA)
  | box t x => exact nw rfl rfl (fun hA => n_box hA)
  | build t ps => exact pu rfl (fun hA => v_build hA)
  | buildSlice t l ps => exact nw rfl rfl (fun hA => n_buildSlice hA)
  | nilCheck x => exact pu rfl (fun hA => v_nilCheck hA)
  | binOp op t x y fl => exact pu rfl (fun hA => v_bin hA)
  | unOp op t x => exact pu rfl (fun hA => v_un hA)
  | makeInterface t x => exact pu rfl (fun hA => v_makeInterface hA)
  | makeFunc fn xs ys => exact pu rfl (fun hA => v_makeFunc hA)
  | makeMap t r => exact nw rfl rfl (fun hA => n_makeMap hA)
  | makeSlice t l c => exact nw rfl rfl (fun hA => n_makeSlice hA)
  | fieldAddr t x i => exact pu rfl (fun hA => v_fieldAddr hA)
  | field t x i => exact pu rfl (fun hA => v_field hA)
  | indexAddr t x y => exact pu rfl (fun hA => v_indexAddr hA)
  | index t x y => exact pu rfl (fun hA => v_index hA)
  | typeAssert x t u ok => exact pu rfl (fun hA => v_typeAssert hA)
  | extract x i => exact pu rfl (fun hA => v_extract hA)
  | load t x => exact rd rfl rfl (fun hA => v_load hA)
  | convert s d x =>
    have hA : All Q (vH (hConvert B s d x) a e ds h nx k) := hA
    rcases n_conv (k := fun v h nx => k v ds h nx) hA with ⟨v, hv⟩ | ⟨obj, mk, h1, h2⟩
    · exact .read v rfl fun ds k => hv _
    · exact .new obj mk rfl (fun ds h nx k => h1 h nx _) h2
  | slice t x lo hi mx => exact rd rfl rfl (fun hA => v_slice hA)
  | lookup t x y ok => exact rd rfl rfl (fun hA => v_lookup hA)
  | entry x => exact rd rfl rfl (fun hA => v_entry hA)
  | call c =>
    cases hc : c.callee with
    | value f => simp [isHeavy, kindOf, hc] at hl
    | invoke r m => simp [isHeavy, kindOf, hc] at hl
    | builtin b =>
      have hv : opV B rc (.call c) = vH (hBuiltin B b c) := by
        show vCall B rc c = _
        funext a e ds h nx k
        unfold vCall
        rw [hc]
      cases b <;> first
        | (simp [isHeavy, kindOf, hc] at hl; done)
        | exact pu hv (fun hA => v_cap hA)
        | exact pu hv (fun hA => v_max hA)
        | exact pu hv (fun hA => v_min hA)
        | exact pu hv (fun hA => v_sliceData hA)
        | exact rd hv (by simp [isRead, kindOf, hc]) (fun hA => v_len hA)
  | _ => simp [isHeavy, kindOf] at hl

theorem hread_ok {o : Oper} (hr : isRead o = true) {e : T Value} {h : T AObj} {nx : Nat} {k : KV} (hA : All Q (hRead B o.op a e h nx k)) : ∃ v, (∀ ds (k : KD), opV B rc o.op a e ds h nx k = k v ds h nx) ∧ All Q (k v h nx) := by
  obtain ⟨dst, op, type, pos, after, guard⟩ := o
  have rd : ∀ {x : H}, (opV B rc op = vH x) → (hRead B op = x) → (All Q (x a e h nx k) → ∃ v, HA x a e h nx v) → ∃ v, (∀ ds (k : KD), opV B rc op a e ds h nx k = k v ds h nx) ∧ All Q (k v h nx) := by
    intro x hx hx2 hf
    have hA : All Q (hRead B op a e h nx k) := hA
    rw [hx2] at hA
    obtain ⟨v, hv⟩ := hf hA
    refine ⟨v, fun ds k => by rw [hx]; exact hv _, ?_⟩
    rw [hv] at hA
    exact hA
  cases op with
  | load t x => exact rd rfl rfl (fun hA => v_load hA)
  | slice t x lo hi mx => exact rd rfl rfl (fun hA => v_slice hA)
  | lookup t x y ok => exact rd rfl rfl (fun hA => v_lookup hA)
  | entry x => exact rd rfl rfl (fun hA => v_entry hA)
  | convert s d x =>
    have hA : All Q (hConvR B s d x a e h nx k) := hA
    obtain ⟨v, h1, h2⟩ := v_convR hA
    exact ⟨v, fun ds k => h1 _, h2⟩
  | call c =>
    cases hc : c.callee with
    | value f => simp [isRead, kindOf, hc] at hr
    | invoke r m => simp [isRead, kindOf, hc] at hr
    | builtin b =>
      have hv : opV B rc (.call c) = vH (hBuiltin B b c) := by
        show vCall B rc c = _
        funext a e ds h nx k
        unfold vCall
        rw [hc]
      cases b <;> first
        | (simp [isRead, kindOf, hc] at hr; done)
        | exact rd hv rfl (fun hA => v_len hA)
  | _ => simp [isRead, kindOf] at hr

/-- the reads that are looked at again -/
theorem again_ok {ops : Array Oper} {e : T Value} {h : T AObj} {nx : Nat} : ∀ {l : List Oper} {k : R}, (∀ o ∈ l, isRead o = true) → All Q (againK B ops a e h nx l k) →
    All Q k ∧ ∀ o ∈ l, (∀ y z, guardK a.n e ops o.guard y z = y) → ∃ d, o.dst = some d ∧ ∀ ds (k : KD), opV B rc o.op a e ds h nx k = k (e.get d) ds h nx
  | [], k, _, hA => ⟨hA, fun o h => by cases h⟩
  | o :: l, k, hl, hA => by
    have hA : All Q (guardK a.n e ops o.guard (hRead B o.op a e h nx fun v _ _ => onO o.dst "again" fun d => onTmp a.n e d fun u => iteR (beqV1 v u) (againK B ops a e h nx l k) (failR "a value has turned"))
      (againK B ops a e h nx l k)) := hA
    rcases guard_val hA with ⟨hg, hA1⟩ | ⟨hg, hA1⟩
    · obtain ⟨v, h1, hA2⟩ := hread_ok (rc := rc) (hl o (by simp)) hA1
      obtain ⟨d, hd, hA3⟩ := onO_val hA2
      rw [all_onTmp, all_iteR_fail] at hA3
      obtain ⟨_, hb, hA4⟩ := hA3
      obtain ⟨h2, h3⟩ := again_ok (fun o ho => hl o (by simp [ho])) hA4
      refine ⟨h2, fun o' ho' hg' => ?_⟩
      rcases List.mem_cons.1 ho' with rfl | ho'
      · exact ⟨d, hd, fun ds k => by rw [h1, beqV1_eq hb]⟩
      · exact h3 o' ho' hg'
    · obtain ⟨h2, h3⟩ := again_ok (fun o ho => hl o (by simp [ho])) hA1
      refine ⟨h2, fun o' ho' hg' => ?_⟩
      rcases List.mem_cons.1 ho' with rfl | ho'
      · -- the guard cannot be both
        exfalso
        have h4 := (hg (.ret ⟨undef, .leaf .dead, 0⟩) (failR "")).symm.trans (hg' (.ret ⟨undef, .leaf .dead, 0⟩) (failR ""))
        cases h4
      · exact h3 o' ho' hg'

noncomputable def setO (e : T Value) : Option Tmp → Value → T Value
  | none, _ => e
  | some d, v => T.set v e d
theorem put_val {n : Nat} {e : T Value} {dst : Option Tmp} {v : Value} {k : T Value → R} (hA : All Q (put n e dst v k)) : (∀ d, dst = some d → d < n) ∧ All Q (k (setO e dst v)) := by
  cases dst with
  | none => exact ⟨fun d h => (nomatch h), hA⟩
  | some d =>
    have hA : All Q (iteR (Nat.blt d n) (k (T.set v e d)) (failR "put")) := hA
    rw [all_iteR_fail, Nat.blt_eq] at hA
    exact ⟨fun d' h => by cases h; exact hA.1, hA.2⟩
theorem setO_full {n : Nat} {e : T Value} {dst : Option Tmp} {v : Value} (h : T.full n e) : T.full n (setO e dst v) := by
  cases dst with
  | none => exact h
  | some d => exact T.full_set _ _ _ _ h
theorem setO_get {n : Nat} {e : T Value} (hf : T.full (depthFor n) e) {dst : Option Tmp} {v : Value} (hd : ∀ d, dst = some d → d < n) {t : Nat} (ht : t < n) : (setO e dst v).get t = if dst = some t then v else e.get t := by
  have hle := depthFor_le n
  cases dst with
  | none => simp [setO]
  | some d =>
    have hdn : (d : Nat) < n := hd d rfl
    show (T.set v e d).get t = _
    rw [T.get_set v _ e d t hf (Nat.lt_of_lt_of_le (hd d rfl) hle) (Nat.lt_of_lt_of_le ht hle)]
    by_cases h : t = d
    · subst h; simp
    · have hne : ¬ (some d = some t) := fun h' => h (Option.some.inj h').symm
      rw [if_neg h, if_neg hne]
end Go.Ev

namespace Go.Ev
open Go Go.RowKit
variable {Q : Out → Prop} {K : Ctx} {P : Program} {B : Tab} {rc : RC} {a : Act0} {ops : Array Oper} {ms : List Nat} {hs : List Bool}

/-- done by the evaluator, not yet by the machine -/
def Pend (D : Nat) (C : Array Bool) (i : Nat) : Prop := bitAt D i = true ∧ C.getD i false = false

/-- what is known of an operation that the machine has still to carry out -/
inductive Prom (B : Tab) (rc : RC) (a : Act0) (ops : Array Oper) (nx0 : Nat) (ρ : Rho) (e : T Value) (h : T AObj) (nx : Nat) (o : Oper) : Option Nat → Prop
  | skip : (∀ y z, guardK a.n e ops o.guard y z = z) → (∀ d, o.dst = some d → e.get d = undef) → Prom B rc a ops nx0 ρ e h nx o none
  | pure (v : Value) : (∀ y z, guardK a.n e ops o.guard y z = y) → (∀ ds h nx (k : KD), opV B rc o.op a e ds h nx k = k v ds h nx) → (∀ d, o.dst = some d → e.get d = v) → Prom B rc a ops nx0 ρ e h nx o none
  | read (v : Value) : (∀ y z, guardK a.n e ops o.guard y z = y) → isRead o = true → (∀ ds (k : KD), opV B rc o.op a e ds h nx k = k v ds h nx) → (∀ d, o.dst = some d → e.get d = v) → Prom B rc a ops nx0 ρ e h nx o none
  | new (id : Nat) (obj : AObj) (mk : Nat → Value) : (∀ y z, guardK a.n e ops o.guard y z = y) → VN B rc o.op a e obj mk → (∀ d, o.dst = some d → e.get d = mk id) → ρ id = none → id < nx → nx0 ≤ id → h.get id = obj →
      Prom B rc a ops nx0 ρ e h nx o (some id)

structure Sim (K : Ctx) (B : Tab) (rc : RC) (a : Act0) (ops : Array Oper) (ms : List Nat) (hs : List Bool) (ρ0 : Rho) (h0 : T AObj) (nx0 : Nat) (w0 : World)
    (D : Nat) (C : Array Bool) (W : List (Nat × Oper)) (ids : Nat → Option Nat) (e : T Value) (ds : List Deferred) (h : T AObj) (nx : Nat) (ρ : Rho) (act : Act) (w : World) : Prop where
  st : Step K a.lo ρ0 h0 nx0 w0 ρ h nx w
  defs : DRels ρ ds act.defers
  size : act.tmps.size = a.n
  full : T.full (depthFor a.n) e
  csize : C.size = ops.size
  sub : ∀ i, C.getD i false = true → bitAt D i = true
  env : ∀ t, t < a.n → (∀ i o, ops[i]? = some o → Pend D C i → o.dst ≠ some t) → VRel ρ (e.get t) (act.tmps.getD t undef)
  prom : ∀ i o, ops[i]? = some o → Pend D C i → Prom B rc a ops nx0 ρ e h nx o (ids i) ∧ heavyAt hs i = false ∧ ∀ d, o.dst = some d → d < a.n
  reads : ∀ i o, ops[i]? = some o → Pend D C i → isRead o = true → (i, o) ∈ W
  inj : ∀ i j x, Pend D C i → Pend D C j → i < ops.size → j < ops.size → ids i = some x → ids j = some x → i = j
  dcl : ∀ i, i < ops.size → bitAt D i = true → ∀ j, bitAt (maskOf ms i) j = true → bitAt D j = true
  ccl : ∀ i, C.getD i false = true → ∀ j, bitAt (maskOf ms i) j = true → C.getD j false = true
  wread : ∀ p ∈ W, isRead p.2 = true

theorem opV_agree {o : Oper} {e e1 : T Value} (agree : ∀ t, t < a.n → t ∈ looks ops.toList o → e.get t = e1.get t) {ds : List Deferred} {h : T AObj} {nx : Nat} {k : KD} : opV B rc o.op a e ds h nx k = opV B rc o.op a e1 ds h nx k :=
  opV_same fun x hx t hxt ht => agree t ht (looks_operand (by rw [← hxt]; exact hx))

theorem prom_keep {nx0 : Nat} {ρ ρ' : Rho} {e e1 : T Value} {h h1 : T AObj} {nx nx1 : Nat} {o : Oper} {idx : Option Nat} (hp : Prom B rc a ops nx0 ρ e h nx o idx) (agree : ∀ t, t < a.n → t ∈ looks ops.toList o → e.get t = e1.get t)
    (hdst : ∀ d, o.dst = some d → e1.get d = e.get d) (hnx : nx ≤ nx1) (hρ : ∀ x, idx = some x → ρ' x = none) (hh : ∀ x, idx = some x → h1.get x = h.get x)
    (hread : idx = none → isRead o = true → (∀ y z, guardK a.n e1 ops o.guard y z = y) → ∃ v, (∀ ds (k : KD), opV B rc o.op a e1 ds h1 nx1 k = k v ds h1 nx1) ∧ ∀ d, o.dst = some d → e1.get d = v) : Prom B rc a ops nx0 ρ' e1 h1 nx1 o idx := by
  cases hp with
  | skip hg hv => exact .skip (fun y z => by rw [← guardK_same agree]; exact hg y z) (fun d hd => by rw [hdst d hd]; exact hv d hd)
  | pure v hg ho hv => exact .pure v (fun y z => by rw [← guardK_same agree]; exact hg y z) (fun ds h nx k => by rw [← opV_agree agree]; exact ho ds h nx k) (fun d hd => by rw [hdst d hd]; exact hv d hd)
  | read v hg hr ho hv =>
    have hg1 : ∀ y z, guardK a.n e1 ops o.guard y z = y := fun y z => by rw [← guardK_same agree]; exact hg y z
    obtain ⟨v', h1', h2'⟩ := hread rfl hr hg1
    exact .read v' hg1 hr h1' h2'
  | new id obj mk hg ho hv h1' h2' h3' h4' =>
    exact .new id obj mk (fun y z => by rw [← guardK_same agree]; exact hg y z) (fun ds h nx k => by rw [← opV_agree agree]; exact ho ds h nx k) (fun d hd => by rw [hdst d hd]; exact hv d hd)
      (hρ id rfl) (Nat.lt_of_lt_of_le h2' hnx) h3' (by rw [hh id rfl]; exact h4')

theorem Prom.idx_lt {nx0 : Nat} {ρ : Rho} {e : T Value} {h : T AObj} {nx : Nat} {o : Oper} {idx : Option Nat} (hp : Prom B rc a ops nx0 ρ e h nx o idx) : ∀ x, idx = some x → ρ x = none ∧ x < nx ∧ nx0 ≤ x := by
  intro x hx
  cases hp with
  | new id obj mk _ _ _ h1 h2 h3 _ => cases hx; exact ⟨h1, h2, h3⟩
  | _ => cases hx

variable {ρ0 : Rho} {h0 : T AObj} {nx0 : Nat} {w0 : World} {D : Nat} {C : Array Bool} {W : List (Nat × Oper)} {ids : Nat → Option Nat} {e : T Value} {ds : List Deferred} {h : T AObj} {nx : Nat} {ρ : Rho} {act : Act} {w : World}

theorem lt_of_get {i : Nat} {o : Oper} (ho : ops[i]? = some o) : i < ops.size := by
  rcases Nat.lt_or_ge i ops.size with h | h
  · exact h
  · rw [Array.getElem?_eq_none h] at ho; cases ho

theorem readyO_spec {o : Oper} (h : readyO D o = true) : ∀ ed ∈ o.after.toList, Region.binds .any ed = true → bitAt D ed.on = true := by
  intro ed hed hb
  unfold readyO at h
  rw [List.all_eq_true] at h
  have := h ed hed
  rw [hb] at this
  simpa using this

/-- an operation carried out early by the evaluator -/
theorem sim_add (S : RegSpec ops ms hs) (hS : Sim K B rc a ops ms hs ρ0 h0 nx0 w0 D C W ids e ds h nx ρ act w) {i : Nat} {o : Oper} (ho : ops[i]? = some o) (hD : bitAt D i = false) (hl : heavyAt hs i = false) (hrdy : readyO D o = true)
    {v : Value} {h1 : T AObj} {nx1 : Nat} (hst : Step K a.lo ρ0 h0 nx0 w0 ρ h1 nx1 w) (hnx : nx ≤ nx1) (hh : ∀ id, id < nx → h1.get id = h.get id) (hd : ∀ d, o.dst = some d → d < a.n) {idi : Option Nat}
    (hpi : Prom B rc a ops nx0 ρ (setO e o.dst v) h1 nx1 o idi) (hidi : ∀ x, idi = some x → nx ≤ x)
    (hread : ∀ j p, ops[j]? = some p → Pend D C j → ids j = none → isRead p = true → (∀ y z, guardK a.n (setO e o.dst v) ops p.guard y z = y) → ∃ u, (∀ ds (k : KD), opV B rc p.op a (setO e o.dst v) ds h1 nx1 k = k u ds h1 nx1) ∧ ∀ d, p.dst = some d → (setO e o.dst v).get d = u) :
    Sim K B rc a ops ms hs ρ0 h0 nx0 w0 (Nat.lor D (Nat.shiftLeft 1 i)) C (if isRead o then (i, o) :: W else W) (fun j => if j = i then idi else ids j) (setO e o.dst v) ds h1 nx1 ρ act w := by
  have hCi : C.getD i false = false := by
    cases hc : C.getD i false with
    | false => rfl
    | true => have := hS.sub i hc; rw [hD] at this; cases this
  have pend : ∀ j, Pend (Nat.lor D (Nat.shiftLeft 1 i)) C j → j = i ∨ (j ≠ i ∧ Pend D C j) := by
    intro j hj
    by_cases e1 : j = i
    · exact .inl e1
    · have := hj.1
      rw [bitAt_set] at this
      simp only [Bool.or_eq_true, decide_eq_true_eq] at this
      exact .inr ⟨e1, this.resolve_right e1, hj.2⟩
  have pend' : ∀ j, Pend D C j → j ≠ i ∧ Pend (Nat.lor D (Nat.shiftLeft 1 i)) C j := by
    intro j hj
    refine ⟨(fun e1 => absurd (e1 ▸ hj.1) (by rw [hD]; simp)), ?_, hj.2⟩
    rw [bitAt_set, hj.1]; rfl
  have hpi' : Pend (Nat.lor D (Nat.shiftLeft 1 i)) C i := ⟨by rw [bitAt_set]; simp, hCi⟩
  have agree : ∀ j p, ops[j]? = some p → Pend D C j → ∀ t, t < a.n → t ∈ looks ops.toList p → e.get t = (setO e o.dst v).get t := by
    intro j p hp hj t ht htl
    rw [setO_get hS.full hd ht, if_neg]
    intro hdt
    rcases S.apart j p i o t hp ho (pend' j hj).1 hdt ((memN_iff t _).2 htl) with h1 | ⟨h1, _⟩
    · have := hS.dcl j (lt_of_get hp) hj.1 i h1
      rw [hD] at this; cases this
    · rw [hl] at h1; cases h1
  have hdst : ∀ j p, ops[j]? = some p → Pend D C j → ∀ d, p.dst = some d → (setO e o.dst v).get d = e.get d := by
    intro j p hp hj d hdp
    have hdn := (hS.prom j p hp hj).2.2 d hdp
    rw [setO_get hS.full hd hdn, if_neg]
    exact S.dst i o j p d ho hp (fun e1 => (pend' j hj).1 e1.symm) hdp
  refine ⟨hst, hS.defs, hS.size, setO_full hS.full, hS.csize, fun j hj => ?_, fun t ht hno => ?_, fun j p hp hj => ?_, fun j p hp hj hr => ?_, fun j k x hj hk hjl hkl hjx hkx => ?_, fun j hjl hj k hk => ?_, hS.ccl, ?_⟩
  · rw [bitAt_set, hS.sub j hj]; rfl
  · have h1 : o.dst ≠ some t := hno i o ho hpi'
    rw [setO_get hS.full hd ht, if_neg h1]
    exact hS.env t ht fun j p hp hj => hno j p hp (pend' j hj).2
  · rcases pend j hj with rfl | ⟨hne, hj⟩
    · rw [ho] at hp; cases hp
      exact ⟨by simp only [if_pos]; exact hpi, hl, hd⟩
    · have hp0 := hS.prom j p hp hj
      have hlt := hp0.1.idx_lt
      refine ⟨?_, hp0.2.1, hp0.2.2⟩
      rw [if_neg hne]
      exact prom_keep hp0.1 (agree j p hp hj) (hdst j p hp hj) hnx (fun x hx => (hlt x hx).1) (fun x hx => hh x (hlt x hx).2.1) (fun hi hr hg => hread j p hp hj hi hr hg)
  · rcases pend j hj with rfl | ⟨hne, hj⟩
    · rw [ho] at hp; cases hp
      rw [if_pos hr]; exact List.mem_cons_self ..
    · have := hS.reads j p hp hj hr
      split
      · exact List.mem_cons_of_mem _ this
      · exact this
  · have lt : ∀ m, m ≠ i → Pend D C m → m < ops.size → ids m = some x → x < nx := by
      intro m _ hm hml hmx
      obtain ⟨p, hp⟩ : ∃ p, ops[m]? = some p := ⟨ops[m], by simp [hml]⟩
      exact ((hS.prom m p hp hm).1.idx_lt x hmx).2.1
    rcases pend j hj with rfl | ⟨hne, hj'⟩
    · rcases pend k hk with rfl | ⟨hne2, hk'⟩
      · rfl
      · simp only [if_pos] at hjx
        rw [if_neg hne2] at hkx
        have h1 := hidi x hjx
        have h2 := lt k hne2 hk' hkl hkx
        omega
    · rw [if_neg hne] at hjx
      rcases pend k hk with rfl | ⟨hne2, hk'⟩
      · simp only [if_pos] at hkx
        have h1 := hidi x hkx
        have h2 := lt j hne hj' hjl hjx
        omega
      · rw [if_neg hne2] at hkx
        exact hS.inj j k x hj' hk' hjl hkl hjx hkx
  · rw [bitAt_set] at hj ⊢
    simp only [Bool.or_eq_true, decide_eq_true_eq] at hj ⊢
    rcases hj with hj | rfl
    · exact .inl (hS.dcl j hjl hj k hk)
    · obtain ⟨ed, hed, hb, hjk⟩ := S.mask j o ho k hk
      have hon := readyO_spec hrdy ed hed hb
      rcases hjk with rfl | hjk
      · exact .inl hon
      · have hlt := S.back j o ho ed hed hb
        exact .inl (hS.dcl ed.on (by omega) hon k hjk)
  · intro p hp
    by_cases hr : isRead o = true
    · rw [if_pos hr] at hp
      rcases List.mem_cons.1 hp with rfl | hp
      · exact hr
      · exact hS.wread p hp
    · rw [if_neg hr] at hp
      exact hS.wread p hp

/-- a block that the machine has still to lay -/
theorem Rel.ghost (hR : Rel K ρ h nx w) (hn : nx < 16384) (obj : AObj) : Rel K ρ (T.set obj h nx) (nx + 1) w := by
  have htop := hR.top
  have hget : ∀ id, id < nx → (T.set obj h nx).get id = h.get id := fun id hid => by rw [T.get_set obj 14 h nx id hR.full hn (by omega), if_neg (by omega)]
  refine ⟨T.full_set _ _ _ _ hR.full, hn, fun id i hi => ⟨Nat.lt_succ_of_lt (hR.dom id i hi).1, (hR.dom id i hi).2⟩, fun id i hi => by rw [hget id (hR.dom id i hi).1]; exact hR.obj id i hi, fun id id' i i' hi hi' hb hl hl' => ?_, hR.glob, fun id i hi hlo hl => hR.own id i hi hlo (by rw [← hget id (hR.dom id i hi).1]; exact hl), hR.below, hR.lo15, Nat.le_succ_of_le hR.loNx, hR.base, fun id h1 h2 => by rw [T.get_set obj 14 h nx id hR.full hn h2, if_neg (by omega)]; exact hR.dry id (by omega) h2⟩
  rw [hget id (hR.dom id i hi).1] at hl
  rw [hget id' (hR.dom id' i' hi').1] at hl'
  exact hR.inj id id' i i' hi hi' hb hl hl'
theorem Step.ghost (hst : Step K a.lo ρ0 h0 nx0 w0 ρ h nx w) (hn : nx < 16384) (obj : AObj) : Step K a.lo ρ0 h0 nx0 w0 ρ (T.set obj h nx) (nx + 1) w := by
  have htop := hst.rel.top
  have hup := hst.up
  refine ⟨hst.rel.ghost hn obj, hst.le, Nat.le_succ_of_le hst.up, fun id hid hc => ?_, hst.pend, hst.keep⟩
  rw [T.get_set obj 14 h nx id hst.rel.full hn (by omega), if_neg (by omega)]
  exact hst.old id hid hc

theorem sim_light (S : RegSpec ops ms hs) (hS : Sim K B rc a ops ms hs ρ0 h0 nx0 w0 D C W ids e ds h nx ρ act w) {i : Nat} {o : Oper} (ho : ops[i]? = some o) (hD : bitAt D i = false) (hl : heavyAt hs i = false) (hrdy : readyO D o = true)
    {k : KF} (hA : All Q (operK B rc ops o a e ds h nx fun e ds h nx => againK B ops a e h nx (if isFresh o then opers W else []) (k e ds h nx))) :
    ∃ ids1 e1 h1 nx1, Sim K B rc a ops ms hs ρ0 h0 nx0 w0 (Nat.lor D (Nat.shiftLeft 1 i)) C (if isRead o then (i, o) :: W else W) ids1 e1 ds h1 nx1 ρ act w ∧ All Q (k e1 ds h1 nx1) := by
  have hwl : ∀ q ∈ (if isFresh o then opers W else []), isRead q = true := by
    intro q hq
    split at hq
    · unfold opers at hq
      obtain ⟨p, hp, rfl⟩ := List.mem_map.1 hq
      exact hS.wread p hp
    · cases hq
  have hdfull := hS.full
  have ownl : ∀ d, o.dst = some d → d ∉ looks ops.toList o := fun d hd hm => by
    have := S.own i o d ho hl hd
    rw [(memN_iff d _).2 hm] at this; cases this
  have agreeO : ∀ v, (∀ d, o.dst = some d → d < a.n) → ∀ t, t < a.n → t ∈ looks ops.toList o → e.get t = (setO e o.dst v).get t := by
    intro v hd t ht htl
    rw [setO_get hdfull hd ht, if_neg]
    intro hdt
    exact ownl t hdt htl
  have getO : ∀ v, (∀ d, o.dst = some d → d < a.n) → ∀ d, o.dst = some d → (setO e o.dst v).get d = v := by
    intro v hd d hdd
    rw [setO_get hdfull hd (hd d hdd), if_pos hdd]
  -- reads that are still valid, memory being as it was
  have keepReads : ∀ v, (∀ d, o.dst = some d → d < a.n) → ∀ j p, ops[j]? = some p → Pend D C j → ids j = none → isRead p = true → (∀ y z, guardK a.n (setO e o.dst v) ops p.guard y z = y) →
      ∃ u, (∀ ds (k : KD), opV B rc p.op a (setO e o.dst v) ds h nx k = k u ds h nx) ∧ ∀ d, p.dst = some d → (setO e o.dst v).get d = u := by
    intro v hd j p hp hj hidn hr hg
    have hji : j ≠ i := fun e1 => absurd (e1 ▸ hj.1) (by rw [hD]; simp)
    have agree : ∀ t, t < a.n → t ∈ looks ops.toList p → e.get t = (setO e o.dst v).get t := by
      intro t ht htl
      rw [setO_get hdfull hd ht, if_neg]
      intro hdt
      rcases S.apart j p i o t hp ho hji hdt ((memN_iff t _).2 htl) with h1 | ⟨h1, _⟩
      · have := hS.dcl j (lt_of_get hp) hj.1 i h1
        rw [hD] at this; cases this
      · rw [hl] at h1; cases h1
    have hdst : ∀ d, p.dst = some d → (setO e o.dst v).get d = e.get d := by
      intro d hdp
      rw [setO_get hdfull hd ((hS.prom j p hp hj).2.2 d hdp), if_neg]
      exact S.dst i o j p d ho hp (fun e1 => hji e1.symm) hdp
    have hp0 := (hS.prom j p hp hj).1
    have fin : ∀ u, (∀ ds (k : KD), opV B rc p.op a e ds h nx k = k u ds h nx) → (∀ d, p.dst = some d → e.get d = u) → ∃ u, (∀ ds (k : KD), opV B rc p.op a (setO e o.dst v) ds h nx k = k u ds h nx) ∧ ∀ d, p.dst = some d → (setO e o.dst v).get d = u :=
      fun u h1 h2 => ⟨u, fun ds k => by rw [← opV_agree agree]; exact h1 ds k, fun d hdp => by rw [hdst d hdp]; exact h2 d hdp⟩
    rw [hidn] at hp0
    cases hp0 with
    | skip hg0 _ =>
      exfalso
      have h4 := (hg (.ret ⟨undef, .leaf .dead, 0⟩) (failR "")).symm.trans ((guardK_same agree _ _).symm.trans (hg0 (.ret ⟨undef, .leaf .dead, 0⟩) (failR "")))
      cases h4
    | pure u _ h1 h2 => exact fin u (fun ds k => h1 ds h nx k) h2
    | read u _ _ h1 h2 => exact fin u h1 h2
  unfold operK at hA
  rcases guard_val hA with ⟨hg, hA1⟩ | ⟨hg, hA1⟩
  · have hA1 : All Q (opV B rc o.op a e ds h nx fun v ds h nx => put a.n e o.dst v fun e => againK B ops a e h nx (if isFresh o then opers W else []) (k e ds h nx)) := hA1
    have hgs : ∀ v, (∀ d, o.dst = some d → d < a.n) → ∀ y z, guardK a.n (setO e o.dst v) ops o.guard y z = y := fun v hd y z => by rw [← guardK_same (agreeO v hd)]; exact hg y z
    cases light_cases (S.light i o ho hl) hA1 with
    | pure v hv =>
      rw [hv] at hA1
      obtain ⟨hd, hA2⟩ := put_val hA1
      obtain ⟨hA3, _⟩ := again_ok (rc := rc) hwl hA2
      exact ⟨_, _, h, nx, sim_add S hS ho hD hl hrdy hS.st (Nat.le_refl _) (fun _ _ => rfl) hd (.pure v (hgs v hd) (fun ds h nx k => by rw [← opV_agree (agreeO v hd)]; exact hv ds h nx k) (getO v hd)) (fun x hx => (nomatch hx)) (keepReads v hd), hA3⟩
    | read v hr hv =>
      rw [hv] at hA1
      obtain ⟨hd, hA2⟩ := put_val hA1
      obtain ⟨hA3, _⟩ := again_ok (rc := rc) hwl hA2
      exact ⟨_, _, h, nx, sim_add S hS ho hD hl hrdy hS.st (Nat.le_refl _) (fun _ _ => rfl) hd (.read v (hgs v hd) hr (fun ds k => by rw [← opV_agree (agreeO v hd)]; exact hv ds k) (getO v hd)) (fun x hx => (nomatch hx)) (keepReads v hd), hA3⟩
    | new obj mk hf hv hsem =>
      rw [hv, all_newK] at hA1
      obtain ⟨hnx, hA2⟩ := hA1
      obtain ⟨hd, hA3⟩ := put_val hA2
      obtain ⟨hA4, hre⟩ := again_ok (rc := rc) hwl hA3
      rw [hf] at hre
      simp only [if_true] at hre
      have htop := hS.st.rel.top
      have hget : ∀ id, id < nx → (T.set obj h nx).get id = h.get id := fun id hid => by rw [T.get_set obj 14 h nx id hS.st.rel.full hnx (by omega), if_neg (by omega)]
      refine ⟨_, _, _, _, sim_add S hS ho hD hl hrdy (hS.st.ghost hnx obj) (Nat.le_succ _) hget hd (idi := some nx)
        (.new nx obj mk (hgs (mk nx) hd) (fun ds h nx' k => by rw [← opV_agree (agreeO (mk nx) hd)]; exact hv ds h nx' k) (getO (mk nx) hd) hS.st.rel.fresh (Nat.lt_succ_self _) hS.st.up
          (by rw [T.get_set obj 14 h nx nx hS.st.rel.full hnx hnx, if_pos rfl])) (fun x hx => by cases hx; exact Nat.le_refl _) (fun j p hp hj hidn hr hgp => ?_), hA4⟩
      have hmem : p ∈ opers W := by
        unfold opers
        exact List.mem_map.2 ⟨(j, p), hS.reads j p hp hj hr, rfl⟩
      obtain ⟨d, hpd, hsame⟩ := hre p hmem hgp
      exact ⟨_, hsame, fun d' hd' => by rw [hpd] at hd'; cases hd'; rfl⟩
  · obtain ⟨hd, hA2⟩ := put_val hA1
    obtain ⟨hA3, _⟩ := again_ok (rc := rc) hwl hA2
    exact ⟨_, _, h, nx, sim_add S hS ho hD hl hrdy hS.st (Nat.le_refl _) (fun _ _ => rfl) hd (.skip (fun y z => by rw [← guardK_same (agreeO undef hd)]; exact hg y z) (getO undef hd)) (fun x hx => (nomatch hx)) (keepReads undef hd), hA3⟩
end Go.Ev

namespace Go.Ev
open Go Go.RowKit
variable {Q : Out → Prop} {K : Ctx} {P : Program} {B : Tab} {rc : RC} {a : Act0} {ops : Array Oper} {ms : List Nat} {hs : List Bool}
variable {ρ0 : Rho} {h0 : T AObj} {nx0 : Nat} {w0 : World} {D : Nat} {C : Array Bool} {W : List (Nat × Oper)} {ids : Nat → Option Nat} {e : T Value} {ds : List Deferred} {h : T AObj} {nx : Nat} {ρ : Rho} {act : Act} {w : World}

/-- what comes before is done -/
theorem before_ok (S : RegSpec ops ms hs) (hS : Sim K B rc a ops ms hs ρ0 h0 nx0 w0 D C W ids e ds h nx ρ act w) {i : Nat} {o : Oper} (ho : ops[i]? = some o) (hrdy : ∀ ed ∈ o.after.toList, Region.binds .any ed = true → C.getD ed.on false = true) :
    ∀ j, bitAt (maskOf ms i) j = true → C.getD j false = true := by
  intro j hj
  obtain ⟨ed, hed, hb, hjk⟩ := S.mask i o ho j hj
  have hon := hrdy ed hed hb
  rcases hjk with rfl | hjk
  · exact hon
  · exact hS.ccl ed.on hon j hjk

/-- what an operation looks at is not among what is still to be carried out -/
theorem looks_ok (S : RegSpec ops ms hs) (hS : Sim K B rc a ops ms hs ρ0 h0 nx0 w0 D C W ids e ds h nx ρ act w) {i : Nat} {o : Oper} (ho : ops[i]? = some o) (hrdy : ∀ ed ∈ o.after.toList, Region.binds .any ed = true → C.getD ed.on false = true)
    {t : Nat} (ht : t ∈ looks ops.toList o) : ∀ j p, ops[j]? = some p → Pend D C j → p.dst ≠ some t := by
  intro j p hp hj hpt
  by_cases e1 : i = j
  · subst e1
    rw [ho] at hp; cases hp
    have hl := (hS.prom i o ho hj).2.1
    have := S.own i o t ho hl hpt
    rw [(memN_iff t _).2 ht] at this; cases this
  · rcases S.apart i o j p t ho hp e1 hpt ((memN_iff t _).2 ht) with h1 | ⟨h1, _⟩
    · have := before_ok S hS ho hrdy j h1
      rw [hj.2] at this; cases this
    · rw [(hS.prom j p hp hj).2.1] at h1; cases h1

/-- environments in which what is still to be carried out is blank -/
theorem blank_sim (S : RegSpec ops ms hs) (hS : Sim K B rc a ops ms hs ρ0 h0 nx0 w0 D C W ids e ds h nx ρ act w) {i : Nat} {o : Oper} (ho : ops[i]? = some o) (hrdy : ∀ ed ∈ o.after.toList, Region.binds .any ed = true → C.getD ed.on false = true) :
    ∃ e' tm', ERel ρ a.n e' tm' ∧ (∀ t, t < a.n → t ∈ looks ops.toList o → e.get t = e'.get t) ∧ (∀ t, t ∈ looks ops.toList o → act.tmps[t]? = tm'[t]?) := by
  let X : List Nat := (List.range ops.size).filterMap fun j => if bitAt D j && !(C.getD j false) then (ops[j]?).bind (·.dst) else none
  have hX : ∀ t, t ∉ X → ∀ j p, ops[j]? = some p → Pend D C j → p.dst ≠ some t := by
    intro t ht j p hp hj hd
    apply ht
    refine List.mem_filterMap.2 ⟨j, List.mem_range.2 (lt_of_get hp), ?_⟩
    rw [hj.1, hj.2, hp]
    simpa using hd
  have hX2 : ∀ t, t ∈ looks ops.toList o → t ∉ X := by
    intro t ht hm
    obtain ⟨j, _, hj⟩ := List.mem_filterMap.1 hm
    split at hj
    · rename_i hc
      simp only [Bool.and_eq_true, Bool.not_eq_true'] at hc
      cases hp : ops[j]? with
      | none => rw [hp] at hj; cases hj
      | some p =>
        rw [hp] at hj
        exact looks_ok S hS ho hrdy ht j p hp hc hj
    · cases hj
  obtain ⟨e', tm', h1, h2, h3⟩ := blank_ok X e act.tmps hS.size hS.full (fun t ht hx => hS.env t ht (hX t hx))
  exact ⟨e', tm', h1, fun t ht hl => h2 t ht (hX2 t hl), fun t hl => h3 t (hX2 t hl)⟩

theorem put_tmps {dst : Option Tmp} {u : Value} {act : Act} : (act.put dst u).tmps.size = act.tmps.size := by
  cases dst <;> simp [Act.put]
theorem put_getD {dst : Option Tmp} {u : Value} {act : Act} {n t : Nat} (hs : act.tmps.size = n) (ht : t < n) : (act.put dst u).tmps.getD t undef = if dst = some t then u else act.tmps.getD t undef := by
  cases dst with
  | none => simp [Act.put]
  | some d =>
    by_cases h : d = t
    · subst h
      have : d < act.tmps.size := by rw [hs]; exact ht
      simp [Act.put, this]
    · have hne : ¬ (some d = some t) := fun h' => h (Option.some.inj h')
      rw [if_neg hne]
      simp [Act.put, h]

theorem getD_set {i j : Nat} (hi : i < C.size) : (C.setIfInBounds i true).getD j false = (decide (j = i) || C.getD j false) := by
  rw [Array.getD_eq_getD_getElem?, Array.getD_eq_getD_getElem?, Array.getElem?_setIfInBounds]
  by_cases h : i = j
  · subst h; simp [hi]
  · have : ¬ j = i := fun h' => h h'.symm
    simp [h, this]

/-- the machine has caught up with an operation -/
theorem sim_done (S : RegSpec ops ms hs) (hS : Sim K B rc a ops ms hs ρ0 h0 nx0 w0 D C W ids e ds h nx ρ act w) {i : Nat} {o : Oper} (ho : ops[i]? = some o) (hp : Pend D C i) (hrdy : ∀ ed ∈ o.after.toList, Region.binds .any ed = true → C.getD ed.on false = true)
    {ρ' : Rho} {w' : World} {u : Value} {uds : List Deferred} (hst : Step K a.lo ρ0 h0 nx0 w0 ρ' h nx w') (hle : ρ.le ρ') (hds : DRels ρ' ds uds)
    (hv : ∀ d, o.dst = some d → VRel ρ' (e.get d) u) (hρ : ∀ j x, j < ops.size → Pend D C j → j ≠ i → ids j = some x → ρ' x = none) :
    Sim K B rc a ops ms hs ρ0 h0 nx0 w0 D (C.setIfInBounds i true) W ids e ds h nx ρ' ({ act with defers := uds }.put o.dst u) w' := by
  have hi : i < C.size := by rw [hS.csize]; exact lt_of_get ho
  have pend : ∀ j, Pend D (C.setIfInBounds i true) j → j ≠ i ∧ Pend D C j := by
    intro j hj
    have := hj.2
    rw [getD_set hi] at this
    simp only [Bool.or_eq_false_iff, decide_eq_false_iff_not] at this
    exact ⟨this.1, hj.1, this.2⟩
  have hmask := before_ok S hS ho hrdy
  refine ⟨hst, ?_, ?_, hS.full, by simpa using hS.csize, fun j hj => ?_, fun t ht hno => ?_, fun j p hpj hj => ?_, fun j p hpj hj hr => hS.reads j p hpj (pend j hj).2 hr, fun j k x hj hk => hS.inj j k x (pend j hj).2 (pend k hk).2, hS.dcl, fun j hj k hk => ?_, hS.wread⟩
  · cases o.dst <;> exact hds
  · rw [put_tmps]; exact hS.size
  · rw [getD_set hi] at hj
    simp only [Bool.or_eq_true, decide_eq_true_eq] at hj
    rcases hj with rfl | hj
    · exact hp.1
    · exact hS.sub j hj
  · rw [put_getD (act := { act with defers := uds }) (n := a.n) hS.size ht]
    by_cases hd : o.dst = some t
    · rw [if_pos hd]
      exact hv t hd
    · rw [if_neg hd]
      refine (hS.env t ht fun j p hpj hj => ?_).mono hle
      by_cases e1 : j = i
      · subst e1
        rw [ho] at hpj; cases hpj
        exact hd
      · exact hno j p hpj ⟨hj.1, by rw [getD_set hi, hj.2]; simp [e1]⟩
  · obtain ⟨hne, hj⟩ := pend j hj
    obtain ⟨h1, h2, h3⟩ := hS.prom j p hpj hj
    refine ⟨prom_keep h1 (fun _ _ _ => rfl) (fun _ _ => rfl) (Nat.le_refl _) (fun x hx => hρ j x (lt_of_get hpj) hj hne hx) (fun _ _ => rfl) (fun hidn hr hg => ?_), h2, h3⟩
    rw [hidn] at h1
    cases h1 with
    | skip hg0 _ =>
      exfalso
      have h4 := (hg (.ret ⟨undef, .leaf .dead, 0⟩) (failR "")).symm.trans (hg0 (.ret ⟨undef, .leaf .dead, 0⟩) (failR ""))
      cases h4
    | pure v _ h5 h6 => exact ⟨v, fun ds k => h5 ds h nx k, h6⟩
    | read v _ _ h5 h6 => exact ⟨v, h5, h6⟩
  · rw [getD_set hi] at hj ⊢
    simp only [Bool.or_eq_true, decide_eq_true_eq] at hj ⊢
    rcases hj with rfl | hj
    · exact .inr (hmask k hk)
    · exact .inr (hS.ccl j hj k hk)

/-- the block of a promise is laid -/
theorem Step.fill (hst : Step K a.lo ρ0 h0 nx0 w0 ρ h nx w) {id : Nat} (hρ : ρ id = none) (hid : id < nx) (hid0 : nx0 ≤ id) {c sl : Nat} {co : Obj} (ho : ORel K.es ρ ⟨w.heap.size, 0, sl⟩ (h.get id) (some co)) :
    Step K a.lo ρ0 h0 nx0 w0 (upd ρ id ⟨w.heap.size, 0, sl⟩) h nx (World.alloc { w with drawn := w.drawn + c } co) := by
  have hR := hst.rel
  have hle : ρ.le (upd ρ id ⟨w.heap.size, 0, sl⟩) := upd_le _ hρ
  have hold : ∀ b, b < w.heap.size → (World.alloc { w with drawn := w.drawn + c } co).heap[b]? = w.heap[b]? := fun b hb => heap_alloc_old { w with drawn := w.drawn + c } co b hb
  have hnew : (World.alloc { w with drawn := w.drawn + c } co).heap[w.heap.size]? = some co := heap_alloc_new { w with drawn := w.drawn + c } co
  have hsz : (World.alloc { w with drawn := w.drawn + c } co).heap.size = w.heap.size + 1 := by simp
  refine ⟨⟨hR.full, hR.top, ?_, ?_, ?_, fun g hg => hle _ _ (hR.glob g hg), ?_, ?_, hR.lo15, hR.loNx, fun k hk => Nat.lt_of_lt_of_le (hR.base k hk) (by omega), hR.dry⟩, hst.le.trans hle, hst.up, hst.old, ?_, ?_⟩
  · intro id' i' hi'
    unfold upd at hi'
    by_cases e1 : id' = id
    · rw [if_pos e1] at hi'; cases hi'; exact ⟨by omega, by rw [hsz]; exact Nat.lt_succ_self _⟩
    · rw [if_neg e1] at hi'
      have := hR.dom id' i' hi'
      exact ⟨this.1, by omega⟩
  · intro id' i' hi'
    unfold upd at hi'
    by_cases e1 : id' = id
    · subst e1
      rw [if_pos rfl] at hi'; cases hi'
      rw [hnew]; exact ho.mono hle
    · rw [if_neg e1] at hi'
      rw [hold _ (hR.dom id' i' hi').2]
      exact (hR.obj id' i' hi').mono hle
  · intro x y ix iy hx hy hb hl hl'
    unfold upd at hx hy
    by_cases e1 : x = id
    · by_cases e2 : y = id
      · rw [e1, e2]
      · rw [if_neg e2] at hy; rw [if_pos e1] at hx; cases hx
        have := (hR.dom y iy hy).2
        simp at hb; omega
    · rw [if_neg e1] at hx
      by_cases e2 : y = id
      · rw [if_pos e2] at hy; cases hy
        have := (hR.dom x ix hx).2
        simp at hb; omega
      · rw [if_neg e2] at hy
        exact hR.inj x y ix iy hx hy hb hl hl'
  · intro id' i' hi' hlo hlv
    unfold upd at hi'
    by_cases e1 : id' = id
    · rw [if_pos e1] at hi'; cases hi'; exact fun h => Nat.lt_irrefl _ (hR.base _ h)
    · rw [if_neg e1] at hi'; exact hR.own id' i' hi' hlo hlv
  · exact hR.below.trans ⟨rfl, rfl, rfl, by omega, fun b hb => hold b (hR.base b hb)⟩
  · intro id' hid' hp
    unfold upd
    rw [if_neg (by omega)]
    exact hst.pend id' hid' hp
  · intro id' i' hid' hlo hi' hl
    rw [hold _ (hR.dom id' i' (hst.le _ _ hi')).2]
    exact hst.keep id' i' hid' hlo hi' hl

theorem not_select {op : Op} {e : T Value} {ds : List Deferred} {h : T AObj} {nx : Nat} {k : KD} (hA : All Q (opV B rc op a e ds h nx k)) : ∀ cs b, op ≠ .select cs b := by
  intro cs b e1
  subst e1
  exact (hA : False).elim

theorem sim_catch (hB : TabOk B P) (hes : ∀ t i, P.info? t = some i → K.es t = i.size) (hop : ∀ o : Oper, OpOk K P (opV B rc o.op) o) (S : RegSpec ops ms hs) (hK : K.lo ≤ a.lo)
    (hS : Sim K B rc a ops ms hs ρ0 h0 nx0 w0 D C W ids e ds h nx ρ act w) {b : Frame} (hr : RoundOk ρ0 a.round b.roundOf) {i : Nat} {o : Oper} (ho : ops[i]? = some o) (hp : Pend D C i)
    (hrdy : ∀ ed ∈ o.after.toList, Region.binds .any ed = true → C.getD ed.on false = true) :
    ∃ ρ' act' w', Sim K B rc a ops ms hs ρ0 h0 nx0 w0 D (C.setIfInBounds i true) W ids e ds h nx ρ' act' w' ∧
      ∀ rest kk cs, KindOk a b cs → Steps P (lone (b.atR act (.inRegion ops (i :: rest) :: kk)) cs w) (lone (b.atR act' (.inRegion ops rest :: kk)) cs w') := by
  obtain ⟨e', tm', hE, agree, tagree⟩ := blank_sim S hS ho hrdy
  obtain ⟨hpr, hl, hdn⟩ := hS.prom i o ho hp
  have hnone : ∀ j x, j < ops.size → Pend D C j → ids j = some x → ρ x = none ∧ x < nx := by
    intro j x hj hjp hx
    obtain ⟨p, hpp⟩ : ∃ p, ops[j]? = some p := ⟨ops[j], by simp [hj]⟩
    have := (hS.prom j p hpp hjp).1.idx_lt x hx
    exact ⟨this.1, this.2.1⟩
  have hgsame := guardK_same (ops := ops) (o := o) agree
  have hwsame : Region.wanted o (yielded ops act.tmps) = Region.wanted o (yielded ops tm') := wanted_same tagree
  have hr' : RoundOk ρ a.round b.roundOf := hr.mono hS.st.le
  have hact : ERel ρ a.n e' ({ tmps := tm', defers := act.defers } : Act).tmps := hE
  -- a value at this memory
  have same : ∀ v, (∀ y z, guardK a.n e ops o.guard y z = y) → (∀ ds (k : KD), opV B rc o.op a e ds h nx k = k v ds h nx) → (∀ d, o.dst = some d → e.get d = v) →
      ∃ ρ' act' w', Sim K B rc a ops ms hs ρ0 h0 nx0 w0 D (C.setIfInBounds i true) W ids e ds h nx ρ' act' w' ∧
      ∀ rest kk cs, KindOk a b cs → Steps P (lone (b.atR act (.inRegion ops (i :: rest) :: kk)) cs w) (lone (b.atR act' (.inRegion ops rest :: kk)) cs w') := by
    intro v hg hv hvd
    have hw : Region.wanted o (yielded ops act.tmps) = true := by
      rw [hwsame]
      have hA : All (fun _ => True) (guardK a.n e' ops o.guard (.ret ⟨undef, h, nx⟩) (failR "")) := by rw [← hgsame, hg]; trivial
      rcases guard_ok hact hA with ⟨h1, _⟩ | ⟨_, h1⟩
      · exact h1
      · exact (h1 : False).elim
    let kk : KD := fun v' ds' h' nx' => @ite _ (ds' = ds) (Classical.propDecidable _) (.ret ⟨v', h', nx'⟩) (failR "")
    have hA : All (fun q => q = ⟨v, h, nx⟩) (opV B rc o.op a e' ds h nx kk) := by
      rw [← opV_agree agree, hv]
      show All _ (@ite _ (ds = ds) (Classical.propDecidable _) (.ret ⟨v, h, nx⟩) (failR ""))
      rw [if_pos rfl]
      exact rfl
    obtain ⟨v', ds', h', nx', ρ', u, uds, w', hs1, hv', hd', hA', hsteps⟩ := hop o _ a e' ds h nx kk ρ { tmps := tm', defers := act.defers } w b hK hA hS.st.rel hact hS.defs hr'
    have hA' : All (fun q => q = ⟨v, h, nx⟩) (@ite _ (ds' = ds) (Classical.propDecidable _) (.ret ⟨v', h', nx'⟩) (failR "")) := hA'
    by_cases hde : ds' = ds
    · rw [if_pos hde] at hA'
      have hA' : (⟨v', h', nx'⟩ : Out) = ⟨v, h, nx⟩ := hA'
      cases hA'
      subst hde
      refine ⟨ρ', _, w', sim_done S hS ho hp hrdy (hS.st.trans hs1) hs1.le hd' (fun d hd => by rw [hvd d hd]; exact hv') (fun j x hj hjp hne hx => hs1.pend x (hnone j x hj hjp hx).2 (hnone j x hj hjp hx).1), fun rest kk cs hk => ?_⟩
      have hsem : o.semAt b.roundOf act.eval = o.semAt b.roundOf ({ tmps := tm', defers := act.defers } : Act).eval := semAt_same (not_select hA) (eval_same (ops := ops.toList) tagree)
      exact hsteps act ops i rest kk cs hsem rfl hk ho hw
    · rw [if_neg hde] at hA'
      exact (hA' : False).elim
  generalize hidx : ids i = idx at hpr
  cases hpr with
  | skip hg hv =>
    have hw : Region.wanted o (yielded ops act.tmps) = false := by
      rw [hwsame]
      have hA : All (fun _ => True) (guardK a.n e' ops o.guard (failR "") (.ret ⟨undef, h, nx⟩)) := by rw [← hgsame, hg]; trivial
      rcases guard_ok hact hA with ⟨_, h1⟩ | ⟨h1, _⟩
      · exact (h1 : False).elim
      · exact h1
    refine ⟨ρ, _, w, sim_done S hS ho hp hrdy (u := undef) (uds := act.defers) hS.st (Rho.le.refl _) hS.defs (fun d hd => by rw [hv d hd]; exact VRel.undef ρ) (fun j x hj hjp _ hx => (hnone j x hj hjp hx).1), fun rest kk cs hk => .one ?_⟩
    have := stepR_op_skip (P := P) (b := b) (a := act) (k := kk) (cs := cs) (w := w) (ops := ops) (i := i) (rest := rest) (by simp [ho]; simpa using hw)
    simpa [ho] using this
  | pure v hg hv hvd => exact same v hg (fun ds k => hv ds h nx k) hvd
  | read v hg _ hv hvd => exact same v hg hv hvd
  | new id obj mk hg hv hvd hρ hid hid0 hob =>
    have hw : Region.wanted o (yielded ops act.tmps) = true := by
      rw [hwsame]
      have hA : All (fun _ => True) (guardK a.n e' ops o.guard (.ret ⟨undef, h, nx⟩) (failR "")) := by rw [← hgsame, hg]; trivial
      rcases guard_ok hact hA with ⟨h1, _⟩ | ⟨_, h1⟩
      · exact h1
      · exact (h1 : False).elim
    have hv' : VN B rc o.op a e' obj mk := fun ds h nx k => by rw [← opV_agree agree]; exact hv ds h nx k
    have hA : All (fun _ => True) (opV B rc o.op a e' ds (T.leaf .dead) 0 fun v ds h nx => .ret ⟨v, h, nx⟩) := by
      rw [hv', all_newK]
      exact ⟨by decide, trivial⟩
    have htop := hS.st.rel.top
    cases light_cases (S.light i o ho hl) hA with
    | pure v hpv => exact (vn_not hv' (fun ds k => hpv ds _ _ k)).elim
    | read v _ hrv => exact (vn_not hv' hrv).elim
    | new obj2 mk2 _ hv2 hsem2 =>
      obtain ⟨ho2, hm2⟩ := vn_unique hv' hv2
      obtain ⟨c, sl, co, u, hrun, hor, hvr⟩ := hsem2 K P hB hes ρ h nx w { tmps := tm', defers := act.defers } o.type hS.st.rel hact
      rw [← ho2, ← hob] at hor
      have hfill := Step.fill (c := c) hS.st hρ hid hid0 hor
      have hup := upd_same ρ id ⟨w.heap.size, 0, sl⟩
      refine ⟨_, _, _, sim_done S hS ho hp hrdy (u := u) (uds := act.defers) hfill (upd_le _ hρ) (DRels.mono (upd_le _ hρ) hS.defs) (fun d hd => by rw [hvd d hd, hm2 id (by omega)]; exact hvr _ _ hup) (fun j x hj hjp hne hx => ?_), fun rest kk cs hk => .one ?_⟩
      · unfold upd
        rw [if_neg]
        · exact (hnone j x hj hjp hx).1
        · intro hxid
          subst hxid
          exact hne (hS.inj j i x hjp hp hj (lt_of_get ho) hx hidx)
      · have hnd : ∀ c, o.op ≠ .defer c := by
          intro c hc
          have := S.light i o ho hl
          simp [isHeavy, kindOf, hc] at this
        have hsem : o.semAt b.roundOf act.eval = ex o.op o.type ({ tmps := tm', defers := act.defers } : Act).eval := by
          rw [semAt_same (not_select hA) (eval_same (ops := ops.toList) (act' := { tmps := tm', defers := act.defers }) tagree), Oper.semAt_eq _ _ _ hnd, execOp_eq]
        exact step_value ho hw (by rw [hsem]; exact hrun)
end Go.Ev

namespace Go.Ev
open Go Go.RowKit
variable {Q : Out → Prop} {K : Ctx} {P : Program} {B : Tab} {rc : RC} {a : Act0} {ops : Array Oper} {ms : List Nat} {hs : List Bool}
variable {ρ0 : Rho} {h0 : T AObj} {nx0 : Nat} {w0 : World} {D : Nat} {C : Array Bool} {W : List (Nat × Oper)} {ids : Nat → Option Nat} {e : T Value} {ds : List Deferred} {h : T AObj} {nx : Nat} {ρ : Rho} {act : Act} {w : World}

/-- an operation carried out by both -/
theorem sim_both (S : RegSpec ops ms hs) (hS : Sim K B rc a ops ms hs ρ0 h0 nx0 w0 D C W ids e ds h nx ρ act w) {i : Nat} {o : Oper} (ho : ops[i]? = some o) (hD : bitAt D i = false) (hrdy : ∀ ed ∈ o.after.toList, Region.binds .any ed = true → C.getD ed.on false = true)
    {v u : Value} {ds1 uds : List Deferred} {h1 : T AObj} {nx1 : Nat} {ρ1 : Rho} {w1 : World} (hs1 : Step K a.lo ρ h nx w ρ1 h1 nx1 w1) (hv : VRel ρ1 v u) (hds : DRels ρ1 ds1 uds) (hd : ∀ d, o.dst = some d → d < a.n)
    (hread : ∀ p, p ∈ opers (W.filter fun p => !(bitAt (maskOf ms i) p.1)) → (∀ y z, guardK a.n (setO e o.dst v) ops p.guard y z = y) → ∃ d, p.dst = some d ∧ ∀ ds (k : KD), opV B rc p.op a (setO e o.dst v) ds h1 nx1 k = k ((setO e o.dst v).get d) ds h1 nx1) :
    Sim K B rc a ops ms hs ρ0 h0 nx0 w0 (Nat.lor D (Nat.shiftLeft 1 i)) (C.setIfInBounds i true) (W.filter fun p => !(bitAt (maskOf ms i) p.1)) ids (setO e o.dst v) ds1 h1 nx1 ρ1 ({ act with defers := uds }.put o.dst u) w1 := by
  have hi : i < C.size := by rw [hS.csize]; exact lt_of_get ho
  have hmask := before_ok S hS ho hrdy
  have pend : ∀ j, Pend (Nat.lor D (Nat.shiftLeft 1 i)) (C.setIfInBounds i true) j → j ≠ i ∧ Pend D C j := by
    intro j hj
    have h1 := hj.2
    rw [getD_set hi] at h1
    simp only [Bool.or_eq_false_iff, decide_eq_false_iff_not] at h1
    have h2 := hj.1
    rw [bitAt_set] at h2
    simp only [Bool.or_eq_true, decide_eq_true_eq] at h2
    exact ⟨h1.1, h2.resolve_right h1.1, h1.2⟩
  have pend' : ∀ j, Pend D C j → j ≠ i ∧ Pend (Nat.lor D (Nat.shiftLeft 1 i)) (C.setIfInBounds i true) j := by
    intro j hj
    have hne : j ≠ i := fun e1 => absurd (e1 ▸ hj.1) (by rw [hD]; simp)
    exact ⟨hne, by rw [bitAt_set, hj.1]; rfl, by rw [getD_set hi, hj.2]; simp [hne]⟩
  have agree : ∀ j p, ops[j]? = some p → Pend D C j → ∀ t, t < a.n → t ∈ looks ops.toList p → e.get t = (setO e o.dst v).get t := by
    intro j p hp hj t ht htl
    rw [setO_get hS.full hd ht, if_neg]
    intro hdt
    rcases S.apart j p i o t hp ho (pend' j hj).1 hdt ((memN_iff t _).2 htl) with h1 | ⟨_, h1⟩
    · have := hS.dcl j (lt_of_get hp) hj.1 i h1
      rw [hD] at this; cases this
    · have := hmask j h1
      rw [hj.2] at this; cases this
  have hdst : ∀ j p, ops[j]? = some p → Pend D C j → ∀ d, p.dst = some d → (setO e o.dst v).get d = e.get d := by
    intro j p hp hj d hdp
    have hdn := (hS.prom j p hp hj).2.2 d hdp
    rw [setO_get hS.full hd hdn, if_neg]
    exact S.dst i o j p d ho hp (fun e1 => (pend' j hj).1 e1.symm) hdp
  have inW : ∀ j p, ops[j]? = some p → Pend D C j → isRead p = true → (j, p) ∈ W.filter fun p => !(bitAt (maskOf ms i) p.1) := by
    intro j p hp hj hr
    refine List.mem_filter.2 ⟨hS.reads j p hp hj hr, ?_⟩
    cases hb : bitAt (maskOf ms i) j with
    | false => rfl
    | true => have := hmask j hb; rw [hj.2] at this; cases this
  refine ⟨hS.st.trans hs1, ?_, ?_, setO_full hS.full, by simpa using hS.csize, fun j hj => ?_, fun t ht hno => ?_, fun j p hp hj => ?_, fun j p hp hj hr => inW j p hp (pend j hj).2 hr,
    fun j k x hj hk => hS.inj j k x (pend j hj).2 (pend k hk).2, fun j hjl hj k hk => ?_, fun j hj k hk => ?_, fun p hp => hS.wread p (List.mem_filter.1 hp).1⟩
  · cases o.dst <;> exact hds
  · rw [put_tmps]; exact hS.size
  · rw [getD_set hi] at hj
    rw [bitAt_set]
    simp only [Bool.or_eq_true, decide_eq_true_eq] at hj ⊢
    rcases hj with rfl | hj
    · exact .inr rfl
    · exact .inl (hS.sub j hj)
  · rw [put_getD (act := { act with defers := uds }) (n := a.n) hS.size ht, setO_get hS.full hd ht]
    by_cases hdt : o.dst = some t
    · rw [if_pos hdt, if_pos hdt]; exact hv
    · rw [if_neg hdt, if_neg hdt]
      exact (hS.env t ht fun j p hp hj => hno j p hp (pend' j hj).2).mono hs1.le
  · obtain ⟨hne, hj⟩ := pend j hj
    obtain ⟨h2, h3, h4⟩ := hS.prom j p hp hj
    have hlt := h2.idx_lt
    refine ⟨prom_keep h2 (agree j p hp hj) (hdst j p hp hj) hs1.up (fun x hx => hs1.pend x (hlt x hx).2.1 (hlt x hx).1) (fun x hx => hs1.old x (hlt x hx).2.1 (.inr (hlt x hx).1)) (fun _ hr hg => ?_), h3, h4⟩
    obtain ⟨d, hpd, hsame⟩ := hread p (by unfold opers; exact List.mem_map.2 ⟨(j, p), inW j p hp hj hr, rfl⟩) hg
    exact ⟨_, hsame, fun d' hd' => by rw [hpd] at hd'; cases hd'; rfl⟩
  · rw [bitAt_set] at hj ⊢
    simp only [Bool.or_eq_true, decide_eq_true_eq] at hj ⊢
    rcases hj with hj | rfl
    · exact .inl (hS.dcl j hjl hj k hk)
    · exact .inl (hS.sub k (hmask k hk))
  · rw [getD_set hi] at hj ⊢
    simp only [Bool.or_eq_true, decide_eq_true_eq] at hj ⊢
    rcases hj with rfl | hj
    · exact .inr (hmask k hk)
    · exact .inr (hS.ccl j hj k hk)

theorem sim_heavy (hop : ∀ o : Oper, OpOk K P (opV B rc o.op) o) (S : RegSpec ops ms hs) (hK : K.lo ≤ a.lo)
    (hS : Sim K B rc a ops ms hs ρ0 h0 nx0 w0 D C W ids e ds h nx ρ act w) {b : Frame} (hr : RoundOk ρ0 a.round b.roundOf) {i : Nat} {o : Oper} (ho : ops[i]? = some o) (hD : bitAt D i = false)
    (hrdy : ∀ ed ∈ o.after.toList, Region.binds .any ed = true → C.getD ed.on false = true)
    {k : KF} (hA : All Q (operK B rc ops o a e ds h nx fun e ds h nx => againK B ops a e h nx (opers (W.filter fun p => !(bitAt (maskOf ms i) p.1))) (k e ds h nx))) :
    ∃ e1 ds1 h1 nx1 ρ1 act1 w1, Sim K B rc a ops ms hs ρ0 h0 nx0 w0 (Nat.lor D (Nat.shiftLeft 1 i)) (C.setIfInBounds i true) (W.filter fun p => !(bitAt (maskOf ms i) p.1)) ids e1 ds1 h1 nx1 ρ1 act1 w1 ∧ All Q (k e1 ds1 h1 nx1) ∧
      ∀ rest kk cs, KindOk a b cs → Steps P (lone (b.atR act (.inRegion ops (i :: rest) :: kk)) cs w) (lone (b.atR act1 (.inRegion ops rest :: kk)) cs w1) := by
  obtain ⟨e', tm', hE, agree, tagree⟩ := blank_sim S hS ho hrdy
  have hgsame := guardK_same (ops := ops) (o := o) agree
  have hwsame : Region.wanted o (yielded ops act.tmps) = Region.wanted o (yielded ops tm') := wanted_same tagree
  have hr' : RoundOk ρ a.round b.roundOf := hr.mono hS.st.le
  have hact : ERel ρ a.n e' ({ tmps := tm', defers := act.defers } : Act).tmps := hE
  have hwl : ∀ q ∈ opers (W.filter fun p => !(bitAt (maskOf ms i) p.1)), isRead q = true := by
    intro q hq
    unfold opers at hq
    obtain ⟨p, hp, rfl⟩ := List.mem_map.1 hq
    exact hS.wread p (List.mem_filter.1 hp).1
  unfold operK at hA
  rcases guard_val hA with ⟨hg, hA1⟩ | ⟨hg, hA1⟩
  · have hw : Region.wanted o (yielded ops act.tmps) = true := by
      rw [hwsame]
      have hA : All (fun _ => True) (guardK a.n e' ops o.guard (.ret ⟨undef, h, nx⟩) (failR "")) := by rw [← hgsame, hg]; trivial
      rcases guard_ok hact hA with ⟨h1, _⟩ | ⟨_, h1⟩
      · exact h1
      · exact (h1 : False).elim
    have hA2 : All Q (opV B rc o.op a e ds h nx fun v ds h nx => put a.n e o.dst v fun e => againK B ops a e h nx (opers (W.filter fun p => !(bitAt (maskOf ms i) p.1))) (k e ds h nx)) := hA1
    clear hA1
    rw [opV_agree agree] at hA2
    obtain ⟨v, ds1, h1, nx1, ρ1, u, uds, w1, hs1, hv, hds, hA3, hsteps⟩ := hop o Q a e' ds h nx _ ρ { tmps := tm', defers := act.defers } w b hK hA2 hS.st.rel hact hS.defs hr'
    obtain ⟨hd, hA4⟩ := put_val hA3
    obtain ⟨hA5, hre⟩ := again_ok (rc := rc) hwl hA4
    refine ⟨_, ds1, h1, nx1, ρ1, _, w1, sim_both S hS ho hD hrdy hs1 hv hds hd hre, hA5, fun rest kk cs hk => ?_⟩
    have hsem : o.semAt b.roundOf act.eval = o.semAt b.roundOf ({ tmps := tm', defers := act.defers } : Act).eval := semAt_same (not_select hA2) (eval_same (ops := ops.toList) tagree)
    exact hsteps act ops i rest kk cs hsem rfl hk ho hw
  · have hw : Region.wanted o (yielded ops act.tmps) = false := by
      rw [hwsame]
      have hA : All (fun _ => True) (guardK a.n e' ops o.guard (failR "") (.ret ⟨undef, h, nx⟩)) := by rw [← hgsame, hg]; trivial
      rcases guard_ok hact hA with ⟨_, h1⟩ | ⟨h1, _⟩
      · exact (h1 : False).elim
      · exact h1
    obtain ⟨hd, hA4⟩ := put_val hA1
    obtain ⟨hA5, hre⟩ := again_ok (rc := rc) hwl hA4
    refine ⟨_, ds, h, nx, ρ, _, w, sim_both S hS ho hD hrdy (uds := act.defers) (.refl hS.st.rel) (VRel.undef ρ) hS.defs hd hre, hA5, fun rest kk cs hk => .one ?_⟩
    have := stepR_op_skip (P := P) (b := b) (a := act) (k := kk) (cs := cs) (w := w) (ops := ops) (i := i) (rest := rest) (by simp [ho]; simpa using hw)
    simpa [ho] using this

/-! the plan -/
theorem lights_run (S : RegSpec ops ms hs) : ∀ (l : List (Nat × Oper)) (D : Nat) (W : List (Nat × Oper)) (ids : Nat → Option Nat) (e : T Value) (h : T AObj) (nx : Nat) (r : List PStep) (k : KF) (pre : List PStep) (D1 : Nat) (W1 : List (Nat × Oper)),
    (∀ p ∈ l, ops[p.1]? = some p.2) → lightsP hs l D W = (pre, D1, W1) → Sim K B rc a ops ms hs ρ0 h0 nx0 w0 D C W ids e ds h nx ρ act w → All Q (stepsK B rc ops (pre ++ r) a e ds h nx k) →
    ∃ ids1 e1 h1 nx1, Sim K B rc a ops ms hs ρ0 h0 nx0 w0 D1 C W1 ids1 e1 ds h1 nx1 ρ act w ∧ All Q (stepsK B rc ops r a e1 ds h1 nx1 k)
  | [], D, W, ids, e, h, nx, r, k, pre, D1, W1, _, hp, hS, hA => by
    simp only [lightsP, Prod.mk.injEq] at hp
    obtain ⟨rfl, rfl, rfl⟩ := hp
    exact ⟨ids, e, h, nx, hS, hA⟩
  | (i, o) :: l, D, W, ids, e, h, nx, r, k, pre, D1, W1, hl, hp, hS, hA => by
    have hl' : ∀ p ∈ l, ops[p.1]? = some p.2 := fun p hp => hl p (List.mem_cons_of_mem _ hp)
    unfold lightsP at hp
    split at hp
    · rename_i hc
      simp only [Bool.and_eq_true, Bool.not_eq_true'] at hc
      obtain ⟨⟨hD, hh⟩, hrdy⟩ := hc
      generalize hrec : lightsP hs l (Nat.lor D (Nat.shiftLeft 1 i)) (if isRead o then (i, o) :: W else W) = q at hp
      obtain ⟨pre2, D2, W2⟩ := q
      simp only [Prod.mk.injEq] at hp
      obtain ⟨rfl, rfl, rfl⟩ := hp
      have hA : All Q (operK B rc ops o a e ds h nx fun e ds h nx => againK B ops a e h nx (if isFresh o then opers W else []) (stepsK B rc ops (pre2 ++ r) a e ds h nx k)) := hA
      obtain ⟨ids1, e1, h1, nx1, hS1, hA1⟩ := sim_light S hS (hl (i, o) (List.mem_cons_self ..)) hD hh hrdy (k := fun e ds h nx => stepsK B rc ops (pre2 ++ r) a e ds h nx k) hA
      exact lights_run S l _ _ ids1 e1 h1 nx1 r k pre2 D2 W2 hl' hrec hS1 hA1
    · exact lights_run S l D W ids e h nx r k pre D1 W1 hl' hp hS hA

/-- where the plan stands when the early operations are done -/
def Pos (ops : Array Oper) (ms : List Nat) (hs : List Bool) (D : Nat) (W : List (Nat × Oper)) (r : List PStep) : Prop :=
  (r = [] ∧ ∀ i, i < ops.size → bitAt D i = true) ∨
  (∃ i o m r', ops[i]? = some o ∧ bitAt D i = false ∧ (∀ j p, ops[j]? = some p → bitAt D j = false → readyO D p = true → j = i) ∧
    r = PStep.step o (opers (W.filter fun p => !(bitAt (maskOf ms i) p.1))) :: r' ∧ planGo hs (numbered ops.toList 0) ms m (Nat.lor D (Nat.shiftLeft 1 i)) (W.filter fun p => !(bitAt (maskOf ms i) p.1)) = some r')

theorem numbered_get {p : Nat × Oper} (h : p ∈ numbered ops.toList 0) : ops[p.1]? = some p.2 := by
  have := (of_numbered ops.toList 0 p h).2
  rw [Nat.sub_zero, Array.getElem?_toList] at this
  exact this
theorem get_numbered {i : Nat} {o : Oper} (h : ops[i]? = some o) : (i, o) ∈ numbered ops.toList 0 := by
  have := mem_numbered ops.toList 0 i o (by rw [Array.getElem?_toList]; exact h)
  simpa using this

theorem to_pos (S : RegSpec ops ms hs) : ∀ (m : Nat) (D : Nat) (W : List (Nat × Oper)) (pl : List PStep) (ids : Nat → Option Nat) (e : T Value) (h : T AObj) (nx : Nat) (k : KF), planGo hs (numbered ops.toList 0) ms m D W = some pl →
    Sim K B rc a ops ms hs ρ0 h0 nx0 w0 D C W ids e ds h nx ρ act w → All Q (stepsK B rc ops pl a e ds h nx k) →
    ∃ D1 W1 r ids1 e1 h1 nx1, Pos ops ms hs D1 W1 r ∧ Sim K B rc a ops ms hs ρ0 h0 nx0 w0 D1 C W1 ids1 e1 ds h1 nx1 ρ act w ∧ All Q (stepsK B rc ops r a e1 ds h1 nx1 k)
  | 0, D, W, pl, ids, e, h, nx, k, hp, hS, hA => by cases hp
  | m + 1, D, W, pl, ids, e, h, nx, k, hp, hS, hA => by
    unfold planGo at hp
    generalize hlt : lightsP hs (numbered ops.toList 0) D W = q at hp
    obtain ⟨pre, D1, W1⟩ := q
    simp only at hp
    split at hp
    · rename_i hf
      split at hp
      · rename_i hall
        cases hp
        obtain ⟨ids1, e1, h1, nx1, hS1, hA1⟩ := lights_run S (numbered ops.toList 0) D W ids e h nx [] k pl D1 W1 (fun p hp => numbered_get hp) hlt hS (by rw [List.append_nil]; exact hA)
        refine ⟨D1, W1, [], ids1, e1, h1, nx1, .inl ⟨rfl, fun i hi => ?_⟩, hS1, hA1⟩
        rw [Nat.eq_of_beq_eq_true hall, length_numbered]
        exact bitAt_all (by simpa using hi)
      · cases hp
    · rename_i i o hf
      split at hp
      · rename_i r' hr'
        cases hp
        obtain ⟨ids1, e1, h1, nx1, hS1, hA1⟩ := lights_run S (numbered ops.toList 0) D W ids e h nx _ k pre D1 W1 (fun p hp => numbered_get hp) hlt hS hA
        have hmem : (i, o) ∈ (numbered ops.toList 0).filter fun p => !(bitAt D1 p.1) && readyO D1 p.2 := by rw [hf]; exact List.mem_cons_self ..
        obtain ⟨hin, hc⟩ := List.mem_filter.1 hmem
        simp only [Bool.and_eq_true, Bool.not_eq_true'] at hc
        refine ⟨D1, W1, _, ids1, e1, h1, nx1, .inr ⟨i, o, m, r', numbered_get hin, hc.1, fun j p hp hj hrd => ?_, rfl, hr'⟩, hS1, hA1⟩
        have : (j, p) ∈ (numbered ops.toList 0).filter fun p => !(bitAt D1 p.1) && readyO D1 p.2 := List.mem_filter.2 ⟨get_numbered hp, by simp [hj, hrd]⟩
        rw [hf, List.mem_singleton] at this
        exact congrArg Prod.fst this
      · cases hp
    · cases hp

def unl (n : Nat) (C : Array Bool) : List Nat := (List.range n).filter fun i => !C.getD i true
theorem getD_both {i : Nat} (hi : i < C.size) : C.getD i true = C.getD i false := by
  simp [Array.getD_eq_getD_getElem?, hi]
theorem unl_less {i : Nat} (hi : i < C.size) (hc : C.getD i false = false) : (unl C.size (C.setIfInBounds i true)).length < (unl C.size C).length := by
  have : unl C.size (C.setIfInBounds i true) = (unl C.size C).filter fun j => !(decide (j = i)) := by
    unfold unl
    rw [List.filter_filter]
    apply List.filter_congr
    intro j hj
    have hj := List.mem_range.1 hj
    rw [getD_both (by simpa using hj), getD_set hi, getD_both hj]
    cases C.getD j false <;> cases decide (j = i) <;> rfl
  rw [this]
  apply List.length_filter_lt_length_iff_exists.2
  refine ⟨i, ?_, by simp⟩
  unfold unl
  exact List.mem_filter.2 ⟨List.mem_range.2 hi, by rw [getD_both hi, hc]; rfl⟩

theorem ready_iff {i : Nat} : i ∈ Region.ready .any ops C ↔ i < ops.size ∧ C.getD i true = false ∧ ∃ o, ops[i]? = some o ∧ ∀ ed ∈ o.after.toList, Region.binds .any ed = true → C.getD ed.on false = true := by
  unfold Region.ready
  rw [List.mem_filter, List.mem_range]
  constructor
  · rintro ⟨hi, hc⟩
    simp only [Bool.and_eq_true, Bool.not_eq_true'] at hc
    refine ⟨hi, hc.1, ops[i], by simp [hi], fun ed hed hb => ?_⟩
    have h2 := hc.2
    rw [Array.getElem?_eq_getElem hi] at h2
    simp only [Option.map_some, Option.getD_some] at h2
    rw [← Array.all_toList, List.all_eq_true] at h2
    have := h2 ed hed
    rw [hb] at this
    simpa using this
  · rintro ⟨hi, hc, o, ho, h2⟩
    refine ⟨hi, ?_⟩
    simp only [Bool.and_eq_true, Bool.not_eq_true']
    refine ⟨hc, ?_⟩
    rw [ho]
    simp only [Option.map_some, Option.getD_some]
    rw [← Array.all_toList, List.all_eq_true]
    intro ed hed
    cases hb : Region.binds .any ed with
    | false => rfl
    | true => rw [h2 ed hed hb]; rfl

/-- if nothing is ready, all is done -/
theorem all_done (S : RegSpec ops ms hs) (hsz : C.size = ops.size) (h : Region.ready .any ops C = []) : ∀ i, i < ops.size → C.getD i false = true := by
  intro i
  induction i using Nat.strongRecOn with
  | _ i ih =>
    intro hi
    cases hc : C.getD i false with
    | true => rfl
    | false =>
      exfalso
      have : i ∈ Region.ready .any ops C := ready_iff.2 ⟨hi, by rw [getD_both (by omega)]; exact hc, ops[i], by simp [hi], fun ed hed hb => by
        have hlt := S.back i ops[i] (by simp [hi]) ed hed hb
        exact ih ed.on hlt (by omega)⟩
      rw [h] at this
      cases this

theorem draw_run (hB : TabOk B P) (hes : ∀ t i, P.info? t = some i → K.es t = i.size) (hop : ∀ o : Oper, OpOk K P (opV B rc o.op) o) (S : RegSpec ops ms hs) (hK : K.lo ≤ a.lo) {b : Frame} (hr : RoundOk ρ0 a.round b.roundOf) {k : KF} :
    ∀ (F t : Nat) (D : Nat) (C : Array Bool) (W : List (Nat × Oper)) (r : List PStep) (ids : Nat → Option Nat) (e : T Value) (ds : List Deferred) (h : T AObj) (nx : Nat) (ρ : Rho) (act : Act) (w : World), (unl C.size C).length ≤ F → Pos ops ms hs D W r →
    Sim K B rc a ops ms hs ρ0 h0 nx0 w0 D C W ids e ds h nx ρ act w → All Q (stepsK B rc ops r a e ds h nx k) →
    ∃ e' ds' h' nx' ρ' act' w', Good K a.lo a.n ρ0 h0 nx0 w0 ρ' e' ds' h' nx' act' w' ∧ All Q (k e' ds' h' nx') ∧
      ∀ kk cs, KindOk a b cs → Steps P (lone (b.atR act (.inRegion ops (Region.linearise.go .any ops F t C []) :: kk)) cs w) (lone (b.atR act' (.inRegion ops [] :: kk)) cs w') := by
  have fin : ∀ (D : Nat) (C : Array Bool) (W : List (Nat × Oper)) (r : List PStep) (ids : Nat → Option Nat) (e : T Value) (ds : List Deferred) (h : T AObj) (nx : Nat) (ρ : Rho) (act : Act) (w : World), (∀ i, i < ops.size → C.getD i false = true) → Pos ops ms hs D W r →
      Sim K B rc a ops ms hs ρ0 h0 nx0 w0 D C W ids e ds h nx ρ act w → All Q (stepsK B rc ops r a e ds h nx k) → Good K a.lo a.n ρ0 h0 nx0 w0 ρ e ds h nx act w ∧ All Q (k e ds h nx) := by
    intro D C W r ids e ds h nx ρ act w hall hpos hS hA
    refine ⟨⟨hS.st, ⟨hS.size, hS.full, fun t ht => hS.env t ht fun i o ho hp => ?_⟩, hS.defs⟩, ?_⟩
    · have := hall i (lt_of_get ho)
      rw [hp.2] at this; cases this
    · rcases hpos with ⟨rfl, _⟩ | ⟨i, o, m, r', ho, hD, _⟩
      · exact hA
      · have := hS.sub i (hall i (lt_of_get ho))
        rw [hD] at this; cases this
  intro F
  induction F with
  | zero =>
    intro t D C W r ids e ds h nx ρ act w hun hpos hS hA
    have hall : ∀ i, i < ops.size → C.getD i false = true := by
      intro i hi
      have hsz := hS.csize
      cases hc : C.getD i false with
      | true => rfl
      | false =>
        exfalso
        have : i ∈ unl C.size C := List.mem_filter.2 ⟨List.mem_range.2 (by omega), by rw [getD_both (by omega), hc]; rfl⟩
        have h0 : unl C.size C = [] := List.eq_nil_of_length_eq_zero (by omega)
        rw [h0] at this; cases this
    obtain ⟨h1, h2⟩ := fin D C W r ids e ds h nx ρ act w hall hpos hS hA
    exact ⟨e, ds, h, nx, ρ, act, w, h1, h2, fun kk cs _ => .refl P _⟩
  | succ F ih =>
    intro t D C W r ids e ds h nx ρ act w hun hpos hS hA
    have hsz := hS.csize
    have hgo : Region.linearise.go .any ops (F + 1) t C [] = match (Region.ready .any ops C)[t % (Region.ready .any ops C).length]? with
      | some i => Region.linearise.go .any ops F (t / (Region.ready .any ops C).length) (C.setIfInBounds i true) [i]
      | none => [] := rfl
    cases hi : (Region.ready .any ops C)[t % (Region.ready .any ops C).length]? with
    | none =>
      have hnil : Region.ready .any ops C = [] := by
        cases hrs : Region.ready .any ops C with
        | nil => rfl
        | cons x xs =>
          rw [hrs] at hi
          have hlt : t % (x :: xs).length < (x :: xs).length := Nat.mod_lt _ (by simp)
          rw [List.getElem?_eq_getElem hlt] at hi
          cases hi
      obtain ⟨h1, h2⟩ := fin D C W r ids e ds h nx ρ act w (all_done S hsz hnil) hpos hS hA
      refine ⟨e, ds, h, nx, ρ, act, w, h1, h2, fun kk cs _ => ?_⟩
      rw [hgo, hi]
      exact .refl P _
    | some i =>
      have hmem : i ∈ Region.ready .any ops C := List.mem_of_getElem? hi
      obtain ⟨hin, hc, o, ho, hrdy⟩ := ready_iff.1 hmem
      have hic : i < C.size := by omega
      rw [getD_both hic] at hc
      have hless := unl_less hic hc
      have hgo2 : Region.linearise.go .any ops (F + 1) t C [] = i :: Region.linearise.go .any ops F (t / (Region.ready .any ops C).length) (C.setIfInBounds i true) [] := by
        rw [hgo, hi]
        simp only
        rw [linearise_go_acc, List.reverse_singleton, List.singleton_append]
      by_cases hD : bitAt D i = true
      · obtain ⟨ρ', act', w', hS', hsteps⟩ := sim_catch hB hes hop S hK hS hr ho ⟨hD, hc⟩ hrdy
        obtain ⟨e2, ds2, h2, nx2, ρ2, act2, w2, hG, hA2, hsteps2⟩ := ih (t / (Region.ready .any ops C).length) D (C.setIfInBounds i true) W r ids e ds h nx ρ' act' w' (by rw [Array.size_setIfInBounds]; omega) hpos hS' hA
        refine ⟨e2, ds2, h2, nx2, ρ2, act2, w2, hG, hA2, fun kk cs hk => ?_⟩
        rw [hgo2]
        exact Steps.trans (hsteps _ kk cs hk) (hsteps2 kk cs hk)
      · have hD : bitAt D i = false := by simpa using hD
        have hrD : readyO D o = true := by
          unfold readyO
          rw [List.all_eq_true]
          intro ed hed
          cases hb : Region.binds .any ed with
          | false => rfl
          | true => rw [hS.sub ed.on (hrdy ed hed hb)]; rfl
        rcases hpos with ⟨_, hall⟩ | ⟨i', o', m, r', ho', hD', huniq, rfl, hplan⟩
        · have := hall i hin
          rw [hD] at this; cases this
        · have hii := huniq i o ho hD hrD
          subst hii
          rw [ho] at ho'
          cases ho'
          have hA : All Q (operK B rc ops o a e ds h nx fun e ds h nx => againK B ops a e h nx (opers (W.filter fun p => !(bitAt (maskOf ms i) p.1))) (stepsK B rc ops r' a e ds h nx k)) := hA
          obtain ⟨e1, ds1, h1, nx1, ρ1, act1, w1, hS1, hA1, hsteps⟩ := sim_heavy hop S hK hS hr ho hD hrdy (k := fun e ds h nx => stepsK B rc ops r' a e ds h nx k) hA
          obtain ⟨D2, W2, r2, ids2, e2, h2, nx2, hpos2, hS2, hA2⟩ := to_pos S m _ _ r' ids e1 h1 nx1 k hplan hS1 hA1
          obtain ⟨e3, ds3, h3, nx3, ρ3, act3, w3, hG, hA3, hsteps3⟩ := ih (t / (Region.ready .any ops C).length) D2 (C.setIfInBounds i true) W2 r2 ids2 e2 ds1 h2 nx2 ρ1 act1 w1 (by rw [Array.size_setIfInBounds]; omega) hpos2 hS2 hA2
          refine ⟨e3, ds3, h3, nx3, ρ3, act3, w3, hG, hA3, fun kk cs hk => ?_⟩
          rw [hgo2]
          exact Steps.trans (hsteps _ kk cs hk) (hsteps3 kk cs hk)

theorem draw_ok (hB : TabOk B P) (hes : ∀ t i, P.info? t = some i → K.es t = i.size) (hm : P.follows .mixedOrders = true) : DrawOk K P B := by
  intro rc hop id ops a Q e ds h nx k ρ act w b hK hA hR hE hD hr
  have hA : All Q (onO (planOf ops) "plan" fun p => stepsK B rc ops p a e ds h nx (k .normal)) := hA
  obtain ⟨pl, hpl, hA1⟩ := onO_val hA
  unfold planOf at hpl
  simp only at hpl
  split at hpl
  · rename_i hreg
    have S := regOk_spec hreg
    have hget : ∀ i, (Array.replicate ops.size false).getD i false = false := by
      intro i
      rw [Array.getD_eq_getD_getElem?, Array.getElem?_replicate]
      split <;> rfl
    have hS : Sim K B rc a ops (masks ops.toList []) ((numbered ops.toList 0).map (lateOp (numbered ops.toList 0) ops.toList (masks ops.toList []))) ρ h nx { w with drawn := w.drawn + 1 } 0 (Array.replicate ops.size false) [] (fun _ => none) e ds h nx ρ act { w with drawn := w.drawn + 1 } := by
      refine ⟨.refl (hR.drewN 1), hD, hE.size, hE.full, by simp, fun i hi => ?_, fun t ht _ => hE.val t ht, fun i o _ hp => ?_, fun i o _ hp => ?_, fun i j x hp => ?_, fun i _ hi => ?_, fun i hi => ?_, fun p hp => by cases hp⟩
      · rw [hget] at hi; cases hi
      · have := hp.1; rw [bitAt_zero] at this; cases this
      · have := hp.1; rw [bitAt_zero] at this; cases this
      · have := hp.1; rw [bitAt_zero] at this; cases this
      · rw [bitAt_zero] at hi; cases hi
      · rw [hget] at hi; cases hi
    obtain ⟨D1, W1, r, ids1, e1, h1, nx1, hpos, hS1, hA2⟩ := to_pos S _ 0 [] pl _ e h nx (k .normal) hpl hS hA1
    obtain ⟨e3, ds3, h3, nx3, ρ3, act3, w3, hG, hA3, hsteps3⟩ := draw_run hB hes hop S hK hr (k := k .normal) ops.size (w.tape w.drawn (.order b.fn id)) D1 (Array.replicate ops.size false) W1 r ids1 e1 ds h1 nx1 ρ act { w with drawn := w.drawn + 1 } (by
      unfold unl
      refine Nat.le_trans (List.length_filter_le _ _) ?_
      simp) hpos hS1 hA2
    refine ⟨.normal, e3, ds3, h3, nx3, ρ3, act3, w3, ⟨hG.step.drew 1, hG.env, hG.defs⟩, hA3, fun kk cs hk => .head stepR_region_draw ?_⟩
    have : Region.schedule (P.follows .mixedOrders) ops (w.tape w.drawn (.order b.fn id)) = Region.linearise.go .any ops ops.size (w.tape w.drawn (.order b.fn id)) (Array.replicate ops.size false) [] := by
      unfold Region.schedule
      rw [hm]
      rfl
    rw [this]
    exact Steps.trans (hsteps3 kk cs hk) (.one stepR_region_end)
  · cases hpl
end Go.Ev
