/-
THE EVALUATOR IS SOUND, first part: the memory's relation and the operations. No condition.
-/
import Derived.Test.YtldoonplgilhkaaGreatDoorEv
import Derived.Laws.Sem
import Derived.Calls
import Derived.Below
import Derived.Laws.Rows
import Derived.Laws.Cells
import GoSem.Machine.Frame
import Derived.Lib.Strings
import Derived.Laws.Entries
import Derived.Laws.BytesString
import Derived.Laws.Cover4
import Derived.Laws.NewFold
import Derived.Laws.Tables
import Derived.Laws.MakeOwn
import Derived.Great.BuildSlice
namespace Go.Ev
open Go

/-! trees -/
theorem T.get_leaf {α : Type} (v : α) (k : Nat) : (T.leaf v).get k = v := rfl
theorem T.get_node {α : Type} (l r : T α) (k : Nat) : (T.node l r).get k = if k % 2 = 0 then l.get (k / 2) else r.get (k / 2) := by
  show Nat.rec (motive := fun _ => (Nat → α) → (Nat → α) → Nat → α) (fun x _ h => x h) (fun _ _ _ y h => y h) (k % 2) l.get r.get (k / 2) = _
  rcases h : k % 2 with _ | m
  · rfl
  · simp
theorem T.set_leaf {α : Type} (v u : α) (k : Nat) : T.set v (T.leaf u) k = .leaf v := rfl
theorem T.set_node {α : Type} (v : α) (l r : T α) (k : Nat) : T.set v (T.node l r) k = if k % 2 = 0 then .node (T.set v l (k / 2)) r else .node l (T.set v r (k / 2)) := by
  show Nat.rec (motive := fun _ => T α → T α → (Nat → T α) → (Nat → T α) → Nat → T α) (fun _ r x _ h => .node (x h) r) (fun _ _ l _ _ y h => .node l (y h)) (k % 2) l r (T.set v l) (T.set v r) (k / 2) = _
  rcases h : k % 2 with _ | m
  · rfl
  · simp

/-- a complete tree of a depth -/
def T.full {α : Type} : Nat → T α → Prop
  | 0, .leaf _ => True
  | d + 1, .node l r => T.full d l ∧ T.full d r
  | _, _ => False

theorem T.full_set {α : Type} (v : α) : ∀ (d : Nat) (t : T α) (k : Nat), T.full d t → T.full d (T.set v t k)
  | 0, .leaf _, _, _ => by simp [T.set_leaf, T.full]
  | d + 1, .node l r, k, h => by
    rw [T.set_node]
    split
    · exact ⟨T.full_set v d l _ h.1, h.2⟩
    · exact ⟨h.1, T.full_set v d r _ h.2⟩

theorem T.get_set {α : Type} (v : α) : ∀ (d : Nat) (t : T α) (k j : Nat), T.full d t → k < 2 ^ d → j < 2 ^ d → (T.set v t k).get j = if j = k then v else t.get j
  | 0, .leaf u, k, j, _, hk, hj => by
    have : j = k := by simp at hk hj; omega
    simp [T.set_leaf, T.get_leaf, this]
  | d + 1, .node l r, k, j, h, hk, hj => by
    have hk2 : k / 2 < 2 ^ d := by rw [Nat.pow_succ] at hk; omega
    have hj2 : j / 2 < 2 ^ d := by rw [Nat.pow_succ] at hj; omega
    rw [T.set_node]
    by_cases hk0 : k % 2 = 0
    · rw [if_pos hk0, T.get_node, T.get_node]
      by_cases hj0 : j % 2 = 0
      · rw [if_pos hj0, if_pos hj0, T.get_set v d l _ _ h.1 hk2 hj2]
        by_cases e : j = k
        · rw [if_pos e, if_pos (by rw [e])]
        · rw [if_neg e, if_neg (by omega)]
      · rw [if_neg hj0, if_neg hj0, if_neg (by omega)]
    · rw [if_neg hk0, T.get_node, T.get_node]
      by_cases hj0 : j % 2 = 0
      · rw [if_pos hj0, if_pos hj0, if_neg (by omega)]
      · rw [if_neg hj0, if_neg hj0, T.get_set v d r _ _ h.2 hk2 hj2]
        by_cases e : j = k
        · rw [if_pos e, if_pos (by rw [e])]
        · rw [if_neg e, if_neg (by omega)]

theorem T.full_const {α : Type} (v : α) : ∀ d, T.full d (T.const v d)
  | 0 => trivial
  | d + 1 => ⟨T.full_const v d, T.full_const v d⟩
theorem T.get_const {α : Type} (v : α) : ∀ d k, (T.const v d).get k = v
  | 0, _ => rfl
  | d + 1, k => by
    show (T.node (T.const v d) (T.const v d)).get k = v
    rw [T.get_node]
    split <;> exact T.get_const v d _

@[simp] theorem T.putList_nil {α : Type} (t : T α) (k : Nat) : T.putList [] t k = t := rfl
@[simp] theorem T.putList_cons {α : Type} (v : α) (vs : List α) (t : T α) (k : Nat) : T.putList (v :: vs) t k = T.putList vs (T.set v t k) (k + 1) := rfl
@[simp] theorem T.list_zero {α : Type} (t : T α) (k : Nat) : T.list t 0 k = [] := rfl
@[simp] theorem T.list_succ {α : Type} (t : T α) (n k : Nat) : T.list t (n + 1) k = t.get k :: T.list t n (k + 1) := rfl

theorem T.full_putList {α : Type} (d : Nat) : ∀ (vs : List α) (t : T α) (k : Nat), T.full d t → T.full d (T.putList vs t k)
  | [], _, _, h => h
  | v :: vs, t, k, h => T.full_putList d vs _ _ (T.full_set v d t k h)

theorem T.get_putList {α : Type} (d : Nat) : ∀ (vs : List α) (t : T α) (k j : Nat), T.full d t → k + vs.length ≤ 2 ^ d → j < 2 ^ d →
    (T.putList vs t k).get j = if h : k ≤ j ∧ j < k + vs.length then vs[j - k]'(by omega) else t.get j
  | [], t, k, j, _, _, _ => by simp; omega
  | v :: vs, t, k, j, h, hk, hj => by
    simp only [List.length_cons] at hk
    rw [T.putList_cons, T.get_putList d vs _ (k + 1) j (T.full_set v d t k h) (by omega) hj]
    by_cases e : j = k
    · subst e
      rw [dif_neg (by omega), T.get_set v d t j j h (by omega) hj, if_pos rfl, dif_pos (by simp)]
      simp
    · by_cases h2 : k + 1 ≤ j ∧ j < k + 1 + vs.length
      · rw [dif_pos h2, dif_pos (by simp; omega)]
        have : j - k = (j - (k + 1)) + 1 := by omega
        simp [this]
      · rw [dif_neg h2, T.get_set v d t k j h (by omega) hj, if_neg e, dif_neg (by simp; omega)]

theorem T.length_list {α : Type} (t : T α) : ∀ n k, (T.list t n k).length = n
  | 0, _ => rfl
  | n + 1, k => by simp [T.length_list t n]
theorem T.getElem?_list {α : Type} (t : T α) : ∀ n k i, (T.list t n k)[i]? = if i < n then some (t.get (k + i)) else none
  | 0, k, i => by simp
  | n + 1, k, 0 => by simp
  | n + 1, k, i + 1 => by
    simp only [T.list_succ, List.getElem?_cons_succ, T.getElem?_list t n (k + 1) i]
    have : k + 1 + i = k + (i + 1) := by omega
    rw [this]
    by_cases h : i < n <;> simp [h]

theorem depthFor_le (n : Nat) : n ≤ 2 ^ depthFor n := by
  unfold depthFor
  rcases h : Nat.ble n 1 with _ | _
  · have hn : ¬ n ≤ 1 := by intro h'; rw [Nat.ble_eq_true_of_le h'] at h; cases h
    show n ≤ 2 ^ (Nat.succ (Nat.log2 (Nat.pred n)))
    have h1 : Nat.pred n ≠ 0 := by simp only [Nat.pred_eq_sub_one]; omega
    have := (Nat.log2_lt h1 (k := Nat.log2 (Nat.pred n) + 1)).1 (by omega)
    simp only [Nat.pred_eq_sub_one] at this ⊢
    show n ≤ 2 ^ (Nat.log2 (n - 1) + 1)
    omega
  · have hn : n ≤ 1 := Nat.le_of_ble_eq_true h
    show n ≤ 2 ^ 0
    simpa using hn

/-! all outcomes -/
def All (Q : Out → Prop) : R → Prop
  | .fail _ => False
  | .ret a => Q a
  | .ask n k => ∀ j, j < n → All Q (k j)

variable {Q : Out → Prop}
@[simp] theorem all_fail (s : String) : All Q (failR s) ↔ False := Iff.rfl
@[simp] theorem all_ret (o : Out) : All Q (.ret o) ↔ Q o := Iff.rfl
@[simp] theorem all_ask (n : Nat) (k : Nat → R) : All Q (.ask n k) ↔ ∀ j, j < n → All Q (k j) := Iff.rfl
theorem all_iteR (b : Bool) (x y : R) : All Q (iteR b x y) ↔ (b = true ∧ All Q x) ∨ (b = false ∧ All Q y) := by
  cases b <;> simp [iteR]
@[simp] theorem all_iteR_fail (b : Bool) (x : R) (s : String) : All Q (iteR b x (failR s)) ↔ b = true ∧ All Q x := by
  rw [all_iteR]; simp
@[simp] theorem all_iteR_fail' (b : Bool) (x : R) (s : String) : All Q (iteR b (failR s) x) ↔ b = false ∧ All Q x := by
  rw [all_iteR]; simp
@[simp] theorem all_onO {α : Type} (o : Option α) (w : String) (k : α → R) : All Q (onO o w k) ↔ ∃ a, o = some a ∧ All Q (k a) := by
  cases o <;> simp [onO]
@[simp] theorem all_forceN (n : Nat) (k : Nat → R) : All Q (forceN n k) ↔ All Q (k n) := by
  cases n <;> exact Iff.rfl
@[simp] theorem all_forceI (i : Int) (k : Int → R) : All Q (forceI i k) ↔ All Q (k i) := by
  cases i with
  | ofNat n => show All Q (forceN n fun n => k (Int.ofNat n)) ↔ _; simp
  | negSucc n => show All Q (forceN n fun n => k (Int.negSucc n)) ↔ _; simp
@[simp] theorem all_forceB (b : Bool) (k : Bool → R) : All Q (forceB b k) ↔ All Q (k b) := by
  cases b <;> exact Iff.rfl
@[simp] theorem all_forceV (v : Value) (k : Value → R) : All Q (forceV v k) ↔ All Q (k v) := by
  cases v with
  | bool b => show All Q (forceB b fun b => k (.bool b)) ↔ _; simp
  | int q i => show All Q (forceI i fun i => k (.int q i)) ↔ _; simp
  | _ => exact Iff.rfl
@[simp] theorem all_onInt (v : Value) (k : IntKind → Int → R) : All Q (onInt v k) ↔ ∃ q i, v = .int q i ∧ All Q (k q i) := by
  cases v with
  | int q i => exact ⟨fun h => ⟨_, _, rfl, h⟩, fun ⟨_, _, e, h⟩ => by cases e; exact h⟩
  | _ => exact ⟨fun h => (h : False).elim, fun ⟨_, _, e, _⟩ => by cases e⟩
@[simp] theorem all_onIx (v : Value) (k : Nat → R) : All Q (onIx v k) ↔ ∃ (q : IntKind) (i : Nat), v = .int q (Int.ofNat i) ∧ All Q (k i) := by
  cases v with
  | int q i => cases i with
    | ofNat n => exact ⟨fun h => ⟨_, _, rfl, h⟩, fun ⟨_, _, e, h⟩ => by cases e; exact h⟩
    | negSucc n => exact ⟨fun h => (h : False).elim, fun ⟨_, _, e, _⟩ => by cases e⟩
  | _ => exact ⟨fun h => (h : False).elim, fun ⟨_, _, e, _⟩ => by cases e⟩
@[simp] theorem all_onBool (v : Value) (x y : R) : All Q (onBool v x y) ↔ ∃ b, v = .bool b ∧ All Q (if b then x else y) := by
  cases v with
  | bool b => cases b with
    | true => exact ⟨fun h => ⟨_, rfl, h⟩, fun ⟨_, e, h⟩ => by cases e; exact h⟩
    | false => exact ⟨fun h => ⟨_, rfl, h⟩, fun ⟨_, e, h⟩ => by cases e; exact h⟩
  | _ => exact ⟨fun h => (h : False).elim, fun ⟨_, e, _⟩ => by cases e⟩
@[simp] theorem all_onStr (v : Value) (k : ByteArray → R) : All Q (onStr v k) ↔ ∃ s, v = .string s ∧ All Q (k s) := by
  cases v with
  | string s => exact ⟨fun h => ⟨_, rfl, h⟩, fun ⟨_, e, h⟩ => by cases e; exact h⟩
  | _ => exact ⟨fun h => (h : False).elim, fun ⟨_, e, _⟩ => by cases e⟩
@[simp] theorem all_onPtr (v : Value) (k : Nat → Nat → R) : All Q (onPtr v k) ↔ ∃ id off, v = .pointer (some ⟨id, off, none⟩) ∧ All Q (k id off) := by
  cases v with
  | pointer a => cases a with
    | none => exact ⟨fun h => (h : False).elim, fun ⟨_, _, e, _⟩ => by cases e⟩
    | some a =>
      obtain ⟨id, off, s⟩ := a
      cases s with
      | none => exact ⟨fun h => ⟨_, _, rfl, h⟩, fun ⟨_, _, e, h⟩ => by cases e; exact h⟩
      | some s => exact ⟨fun h => (h : False).elim, fun ⟨_, _, e, _⟩ => by cases e⟩
  | _ => exact ⟨fun h => (h : False).elim, fun ⟨_, _, e, _⟩ => by cases e⟩
@[simp] theorem all_onAgg (v : Value) (k : List Value → R) : All Q (onAgg v k) ↔ ∃ cs, v = .agg ⟨cs⟩ ∧ All Q (k cs) := by
  cases v with
  | agg cs => exact ⟨fun h => ⟨cs.toList, rfl, h⟩, fun ⟨_, e, h⟩ => by cases e; exact h⟩
  | _ => exact ⟨fun h => (h : False).elim, fun ⟨_, e, _⟩ => by cases e⟩
@[simp] theorem all_onSlice (v : Value) (k : Option Addr → Nat → Nat → R) : All Q (onSlice v k) ↔ ∃ a l c, v = .slice a l c ∧ All Q (k a l c) := by
  cases v with
  | slice a l c => exact ⟨fun h => ⟨_, _, _, rfl, h⟩, fun ⟨_, _, _, e, h⟩ => by cases e; exact h⟩
  | _ => exact ⟨fun h => (h : False).elim, fun ⟨_, _, _, e, _⟩ => by cases e⟩
@[simp] theorem all_onMap (v : Value) (k : Option Nat → R) : All Q (onMap v k) ↔ ∃ r, v = .map r ∧ All Q (k r) := by
  cases v with
  | map r => exact ⟨fun h => ⟨_, rfl, h⟩, fun ⟨_, e, h⟩ => by cases e; exact h⟩
  | _ => exact ⟨fun h => (h : False).elim, fun ⟨_, e, _⟩ => by cases e⟩
@[simp] theorem all_onCells (h : T AObj) (id : Nat) (k : T Value → Nat → Nat → TypeId → Nat → Nat → Bool → R) :
    All Q (onCells h id k) ↔ ∃ t d n e lo hi sl, h.get id = .cells t d n e lo hi sl ∧ All Q (k t d n e lo hi sl) := by
  unfold onCells
  cases h.get id with
  | cells t d n e lo hi sl => exact ⟨fun h => ⟨_, _, _, _, _, _, _, rfl, h⟩, fun ⟨_, _, _, _, _, _, _, e, h⟩ => by cases e; exact h⟩
  | _ => simp
@[simp] theorem all_onMapObj (h : T AObj) (id : Nat) (k : List MapEntry → Nat → R) :
    All Q (onMapObj h id k) ↔ ∃ es clock, h.get id = .map es clock ∧ All Q (k es clock) := by
  unfold onMapObj
  cases h.get id with
  | map es clock => exact ⟨fun h => ⟨_, _, rfl, h⟩, fun ⟨_, _, e, h⟩ => by cases e; exact h⟩
  | _ => simp
@[simp] theorem all_newK (o : AObj) (h : T AObj) (nx : Nat) (k : Nat → T AObj → Nat → R) : All Q (newK o h nx k) ↔ nx < 16384 ∧ All Q (k nx (T.set o h nx) (nx + 1)) := by
  unfold newK
  simp only [all_iteR_fail, all_forceN, Nat.blt_eq]
@[simp] theorem all_newCellsK (vs : List Value) (elem : TypeId) (sl : Bool) (h : T AObj) (nx : Nat) (k : Nat → T AObj → Nat → R) :
    All Q (newCellsK vs elem sl h nx k) ↔ nx < 16384 ∧ All Q (k nx (T.set (cellsOf vs elem sl) h nx) (nx + 1)) := by
  unfold newCellsK
  simp [cellsOf]
@[simp] theorem all_onTmp (n : Nat) (e : T Value) (t : Nat) (k : Value → R) : All Q (onTmp n e t k) ↔ t < n ∧ All Q (k (e.get t)) := by
  simp [onTmp]
@[simp] theorem all_onRow (B : Tab) (t : TypeId) (k : TypeDesc → Nat → Option Value → List (Nat × Nat) → R) :
    All Q (onRow B t k) ↔ t < 1024 ∧ ∃ d n z sub, B.ty.get t = .row d n z sub ∧ All Q (k d n z sub) := by
  unfold onRow
  rw [all_iteR_fail, Nat.blt_eq]
  cases h : B.ty.get t with
  | none => simp
  | row d n z sub => exact ⟨fun h => ⟨h.1, _, _, _, _, rfl, h.2⟩, fun ⟨h, _, _, _, _, e, h'⟩ => ⟨h, by cases e; exact h'⟩⟩
@[simp] theorem all_onTy (B : Tab) (t : TypeId) (k : R) : All Q (onTy B t k) ↔ t < B.nt ∧ All Q k := by simp [onTy]
@[simp] theorem all_onFn (B : Tab) (f : FuncId) (k : Func → R) : All Q (onFn B f k) ↔ f < 1024 ∧ ∃ fn, B.fn.get f = some fn ∧ All Q (k fn) := by
  simp [onFn]
theorem all_loadK (h : T AObj) (id off n : Nat) (k : List Value → R) : All Q (loadK h id off n k) ↔
    (n = 0 ∧ All Q (k [])) ∨ (0 < n ∧ ∃ t d sz e lo hi sl, h.get id = .cells t d sz e lo hi sl ∧ off + n ≤ sz ∧ All Q (k (t.list n off))) := by
  unfold loadK
  cases n with
  | zero => show All Q (k []) ↔ _; simp
  | succ m => simp
@[simp] theorem all_load1K (h : T AObj) (id off : Nat) (k : Value → R) : All Q (load1K h id off k) ↔
    ∃ t d sz e lo hi sl, h.get id = .cells t d sz e lo hi sl ∧ off < sz ∧ All Q (k (t.get off)) := by
  simp [load1K]
end Go.Ev

namespace Go.Ev
open Go Go.RowKit

/-! two lists, place by place -/
inductive L2 {α β : Type} (r : α → β → Prop) : List α → List β → Prop
  | nil : L2 r [] []
  | cons {a b l m} : r a b → L2 r l m → L2 r (a :: l) (b :: m)

theorem L2.length {α β : Type} {r : α → β → Prop} {l : List α} {m : List β} (h : L2 r l m) : l.length = m.length := by
  induction h with
  | nil => rfl
  | cons _ _ ih => simp [ih]
theorem L2.get {α β : Type} {r : α → β → Prop} {l : List α} {m : List β} (h : L2 r l m) : ∀ (i : Nat) (a : α), l[i]? = some a → ∃ b, m[i]? = some b ∧ r a b := by
  induction h with
  | nil => intro i a h; simp at h
  | cons hr _ ih =>
    intro i a h
    cases i with
    | zero => simp at h; subst h; exact ⟨_, rfl, hr⟩
    | succ i => simp at h; simpa using ih i a h
theorem L2.of_get {α β : Type} {r : α → β → Prop} : ∀ (l : List α) (m : List β), l.length = m.length → (∀ (i : Nat) a b, l[i]? = some a → m[i]? = some b → r a b) → L2 r l m
  | [], [], _, _ => .nil
  | a :: l, b :: m, hl, h => .cons (h 0 a b rfl rfl) (L2.of_get l m (by simpa using hl) fun i a b ha hb => h (i + 1) a b (by simpa using ha) (by simpa using hb))
theorem L2.mono {α β : Type} {r s : α → β → Prop} (hrs : ∀ a b, r a b → s a b) {l : List α} {m : List β} (h : L2 r l m) : L2 s l m := by
  induction h with
  | nil => exact .nil
  | cons hr _ ih => exact .cons (hrs _ _ hr) ih
theorem L2.append {α β : Type} {r : α → β → Prop} {l l' : List α} {m m' : List β} (h : L2 r l m) (h' : L2 r l' m') : L2 r (l ++ l') (m ++ m') := by
  induction h with
  | nil => exact h'
  | cons hr _ ih => exact .cons hr ih
theorem L2.take {α β : Type} {r : α → β → Prop} {l : List α} {m : List β} (h : L2 r l m) : ∀ n, L2 r (l.take n) (m.take n) := by
  induction h with
  | nil => intro n; simp; exact .nil
  | cons hr _ ih => intro n; cases n with
    | zero => exact .nil
    | succ n => exact .cons hr (ih n)
theorem L2.drop {α β : Type} {r : α → β → Prop} {l : List α} {m : List β} (h : L2 r l m) : ∀ n, L2 r (l.drop n) (m.drop n) := by
  induction h with
  | nil => intro n; simp; exact .nil
  | cons hr h ih => intro n; cases n with
    | zero => exact .cons hr h
    | succ n => exact ih n
theorem L2.set {α β : Type} {r : α → β → Prop} {l : List α} {m : List β} (h : L2 r l m) {a : α} {b : β} (hab : r a b) : ∀ i, L2 r (l.set i a) (m.set i b) := by
  induction h with
  | nil => intro i; exact .nil
  | cons hr h ih => intro i; cases i with
    | zero => exact .cons hab h
    | succ i => exact .cons hr (ih i)
theorem L2.nil_left {α β : Type} {r : α → β → Prop} {m : List β} (h : L2 r [] m) : m = [] := by cases h; rfl

/-! what a block of the abstract memory is in the world -/
structure Info where
  blk : Nat
  dl : Nat
  sl : Nat
abbrev Rho := Nat → Option Info
def Rho.le (ρ ρ' : Rho) : Prop := ∀ id i, ρ id = some i → ρ' id = some i
theorem Rho.le.refl (ρ : Rho) : ρ.le ρ := fun _ _ h => h
theorem Rho.le.trans {ρ ρ' ρ'' : Rho} (h : ρ.le ρ') (h' : ρ'.le ρ'') : ρ.le ρ'' := fun id i e => h' id i (h id i e)

inductive VRel (ρ : Rho) : Value → Value → Prop
  | bool (b) : VRel ρ (.bool b) (.bool b)
  | int (k n) : VRel ρ (.int k n) (.int k n)
  | string (s) : VRel ρ (.string s) (.string s)
  | nilPtr : VRel ρ (.pointer none) (.pointer none)
  | ptr {id off i} : ρ id = some i → VRel ρ (.pointer (some ⟨id, off, none⟩)) (.pointer (some ⟨i.blk, i.dl + off, none⟩))
  | nilSlice (l c) : VRel ρ (.slice none l c) (.slice none l c)
  | slice {id off l c i} : ρ id = some i → VRel ρ (.slice (some ⟨id, off, none⟩) l c) (.slice (some ⟨i.blk, i.dl + off, none⟩) l (c + i.sl))
  | slice0 {id off l c i} : ρ id = some i → VRel ρ (.slice (some ⟨id, off, some 0⟩) l c) (.slice (some ⟨i.blk, i.dl + off, none⟩) l c)
  | slice1 {id off i} (off' c') : ρ id = some i → VRel ρ (.slice (some ⟨id, off, some 1⟩) 0 0) (.slice (some ⟨i.blk, off', none⟩) 0 c')
  | nilMap : VRel ρ (.map none) (.map none)
  | map {id i} : ρ id = some i → VRel ρ (.map (some id)) (.map (some i.blk))
  | func {fn xs ys us vs} : (∀ l, fn ≠ .yield l) → xs.length = us.length → ys.length = vs.length → (∀ (i : Nat) x u, xs[i]? = some x → us[i]? = some u → VRel ρ x u) →
      (∀ (i : Nat) y v, ys[i]? = some y → vs[i]? = some v → VRel ρ y v) → VRel ρ (.func fn ⟨xs⟩ ⟨ys⟩) (.func fn ⟨us⟩ ⟨vs⟩)
  | yield {id i} : ρ id = some i → VRel ρ (.func (.yield id) #[] #[]) (.func (.yield i.blk) #[] #[])
  | nilFunc : VRel ρ .nilFunc .nilFunc
  | nilIface : VRel ρ .nilIface .nilIface
  | iface (t) {v u} : VRel ρ v u → VRel ρ (.iface t v) (.iface t u)
  | agg {xs us} : xs.length = us.length → (∀ (i : Nat) x u, xs[i]? = some x → us[i]? = some u → VRel ρ x u) → VRel ρ (.agg ⟨xs⟩) (.agg ⟨us⟩)
  | tuple {xs us} : xs.length = us.length → (∀ (i : Nat) x u, xs[i]? = some x → us[i]? = some u → VRel ρ x u) → VRel ρ (.tuple ⟨xs⟩) (.tuple ⟨us⟩)

theorem VRel.mono {ρ ρ' : Rho} (h : ρ.le ρ') {v u : Value} (hv : VRel ρ v u) : VRel ρ' v u := by
  induction hv with
  | bool b => exact .bool b
  | int k n => exact .int k n
  | string s => exact .string s
  | nilPtr => exact .nilPtr
  | ptr e => exact .ptr (h _ _ e)
  | nilSlice l c => exact .nilSlice l c
  | slice e => exact .slice (h _ _ e)
  | slice0 e => exact .slice0 (h _ _ e)
  | slice1 o c e => exact .slice1 o c (h _ _ e)
  | nilMap => exact .nilMap
  | map e => exact .map (h _ _ e)
  | func hy h1 h2 _ _ ih1 ih2 => exact .func hy h1 h2 ih1 ih2
  | yield e => exact .yield (h _ _ e)
  | nilFunc => exact .nilFunc
  | nilIface => exact .nilIface
  | iface t _ ih => exact .iface t ih
  | agg hl _ ih => exact .agg hl ih
  | tuple hl _ ih => exact .tuple hl ih

abbrev VRels (ρ : Rho) := L2 (VRel ρ)
theorem VRels.mono {ρ ρ' : Rho} (h : ρ.le ρ') {l m : List Value} (hv : VRels ρ l m) : VRels ρ' l m := L2.mono (fun _ _ => VRel.mono h) hv

theorem VRel.agg' {ρ : Rho} {xs us : List Value} (h : VRels ρ xs us) : VRel ρ (.agg ⟨xs⟩) (.agg ⟨us⟩) :=
  .agg h.length fun i x u hx hu => by obtain ⟨b, hb, hr⟩ := h.get i x hx; rw [hb] at hu; cases hu; exact hr
theorem VRel.tuple' {ρ : Rho} {xs us : List Value} (h : VRels ρ xs us) : VRel ρ (.tuple ⟨xs⟩) (.tuple ⟨us⟩) :=
  .tuple h.length fun i x u hx hu => by obtain ⟨b, hb, hr⟩ := h.get i x hx; rw [hb] at hu; cases hu; exact hr
theorem VRel.func' {ρ : Rho} {fn : Fn} {xs ys us vs : List Value} (hy : ∀ l, fn ≠ .yield l) (h : VRels ρ xs us) (h' : VRels ρ ys vs) : VRel ρ (.func fn ⟨xs⟩ ⟨ys⟩) (.func fn ⟨us⟩ ⟨vs⟩) :=
  .func hy h.length h'.length (fun i x u hx hu => by obtain ⟨b, hb, hr⟩ := h.get i x hx; rw [hb] at hu; cases hu; exact hr)
    (fun i x u hx hu => by obtain ⟨b, hb, hr⟩ := h'.get i x hx; rw [hb] at hu; cases hu; exact hr)

/-! inversions -/
theorem VRel.inv_agg {ρ : Rho} {xs : List Value} {u : Value} (h : VRel ρ (.agg ⟨xs⟩) u) : ∃ us, u = .agg ⟨us⟩ ∧ VRels ρ xs us := by
  cases h with | agg hl h => exact ⟨_, rfl, L2.of_get _ _ hl h⟩
theorem VRel.inv_tuple {ρ : Rho} {xs : List Value} {u : Value} (h : VRel ρ (.tuple ⟨xs⟩) u) : ∃ us, u = .tuple ⟨us⟩ ∧ VRels ρ xs us := by
  cases h with | tuple hl h => exact ⟨_, rfl, L2.of_get _ _ hl h⟩

theorem VRel.atom {ρ : Rho} {v u : Value} (ha : atom v = true) (h : VRel ρ v u) : u = v := by
  cases h <;> first | rfl | (simp [Ev.atom] at ha)
theorem VRel.of_atom {ρ : Rho} {v : Value} (ha : Ev.atom v = true) : VRel ρ v v := by
  unfold Ev.atom at ha
  split at ha <;> first | constructor | cases ha
theorem VRels.atoms {ρ : Rho} {l m : List Value} (ha : l.all Ev.atom = true) (h : VRels ρ l m) : m = l := by
  induction h with
  | nil => rfl
  | cons hr _ ih =>
    simp only [List.all_cons, Bool.and_eq_true] at ha
    rw [VRel.atom ha.1 hr, ih ha.2]
theorem VRels.of_atoms {ρ : Rho} : ∀ {l : List Value}, l.all Ev.atom = true → VRels ρ l l
  | [], _ => .nil
  | v :: l, h => by
    simp only [List.all_cons, Bool.and_eq_true] at h
    exact .cons (VRel.of_atom h.1) (VRels.of_atoms h.2)
theorem VRel.clo {ρ : Rho} {v u : Value} (hc : clo v = true) (h : VRel ρ v u) : u = v := by
  unfold Ev.clo at hc
  split at hc
  · rename_i cs; obtain ⟨us, rfl, hs⟩ := VRel.inv_agg (xs := cs.toList) h
    rw [VRels.atoms (by simpa [allAtom] using hc) hs]
  · rename_i cs; obtain ⟨us, rfl, hs⟩ := VRel.inv_tuple (xs := cs.toList) h
    rw [VRels.atoms (by simpa [allAtom] using hc) hs]
  · cases h with | iface t h => rw [VRel.atom hc h]
  · exact VRel.atom hc h
theorem VRel.of_clo {ρ : Rho} {v : Value} (hc : Ev.clo v = true) : VRel ρ v v := by
  unfold Ev.clo at hc
  split at hc
  · rename_i cs; exact VRel.agg' (xs := cs.toList) (VRels.of_atoms (by simpa [allAtom] using hc))
  · rename_i cs; exact VRel.tuple' (xs := cs.toList) (VRels.of_atoms (by simpa [allAtom] using hc))
  · exact .iface _ (VRel.of_atom hc)
  · exact VRel.of_atom hc

theorem VRel.undef (ρ : Rho) : VRel ρ undef undef := VRel.tuple' (xs := []) .nil

theorem VRel.cells {ρ : Rho} {v u : Value} (h : VRel ρ v u) : VRels ρ v.cells.toList u.cells.toList := by
  cases h with
  | agg hl h => exact L2.of_get _ _ hl h
  | bool b => exact .cons (.bool b) .nil
  | int k n => exact .cons (.int k n) .nil
  | string s => exact .cons (.string s) .nil
  | nilPtr => exact .cons .nilPtr .nil
  | ptr e => exact .cons (.ptr e) .nil
  | nilSlice l c => exact .cons (.nilSlice l c) .nil
  | slice e => exact .cons (.slice e) .nil
  | slice0 e => exact .cons (.slice0 e) .nil
  | slice1 o c e => exact .cons (.slice1 o c e) .nil
  | nilMap => exact .cons .nilMap .nil
  | map e => exact .cons (.map e) .nil
  | func hy h1 h2 h3 h4 => exact .cons (.func hy h1 h2 h3 h4) .nil
  | yield e => exact .cons (.yield e) .nil
  | nilFunc => exact .cons .nilFunc .nil
  | nilIface => exact .cons .nilIface .nil
  | iface t h => exact .cons (.iface t h) .nil
  | tuple hl h => exact .cons (.tuple hl h) .nil

theorem VRel.oneCell {ρ : Rho} {v u : Value} (h : VRel ρ v u) (ho : oneCell v = true) : u.oneCell' = true := by
  cases h <;> first | rfl | (simp [Ev.oneCell] at ho)
end Go.Ev

namespace Go.Ev
open Go Go.RowKit

/-- the temporaries of an activation -/
structure ERel (ρ : Rho) (n : Nat) (e : T Value) (tmps : Array Value) : Prop where
  size : tmps.size = n
  full : T.full (depthFor n) e
  val : ∀ t, t < n → VRel ρ (e.get t) (tmps.getD t undef)

theorem ERel.mono {ρ ρ' : Rho} (h : ρ.le ρ') {n : Nat} {e : T Value} {tm : Array Value} (he : ERel ρ n e tm) : ERel ρ' n e tm :=
  ⟨he.size, he.full, fun t ht => (he.val t ht).mono h⟩

theorem ERel.put {ρ : Rho} {n : Nat} {e : T Value} {tm : Array Value} (he : ERel ρ n e tm) {d : Nat} (hd : d < n) {v u : Value} (hv : VRel ρ v u) :
    ERel ρ n (T.set v e d) (tm.setIfInBounds d u) := by
  refine ⟨by simp [he.size], T.full_set _ _ _ _ he.full, fun t ht => ?_⟩
  have hle := depthFor_le n
  rw [T.get_set v _ e d t he.full (by omega) (by omega)]
  by_cases e' : t = d
  · subst e'
    have : t < tm.size := by rw [he.size]; exact ht
    simpa [this] using hv
  · rw [if_neg e']
    have := he.val t ht
    simpa [Array.getElem?_setIfInBounds, Ne.symm e'] using this

/-- an entry of a map -/
structure MRel (ρ : Rho) (a b : MapEntry) : Prop where
  key : b.key = a.key
  clo : clo a.key = true
  born : b.born = a.born
  val : VRel ρ a.val b.val

def isLive : AObj → Bool
  | .dead => false
  | _ => true

/-- what is frozen of a row: nothing outside of what the abstract block says; or a mark behind its end; or whatever (a block that is only read) -/
def FzOk (dl n size lo hi : Nat) (fz : Nat × Nat) : Prop :=
  (fz.1 ≤ fz.2 ∧ hi ≤ n ∧ (fz.1 < fz.2 → dl + lo ≤ fz.1 ∧ fz.2 ≤ dl + hi)) ∨ (lo = n ∧ hi = n + 1 ∧ size ≤ fz.1) ∨ (lo = 0 ∧ hi = n + 2)
theorem FzOk.frozen {dl n size lo hi : Nat} {fz : Nat × Nat} (h : FzOk dl n size lo hi fz) {k : Nat} (hk : k < n) (hs : dl + n ≤ size) (h1 : fz.1 ≤ dl + k) (h2 : dl + k < fz.2) : lo ≤ k ∧ k < hi := by
  rcases h with ⟨_, _, h⟩ | ⟨_, _, h⟩ | ⟨h, h'⟩
  · have := h (by omega); omega
  · omega
  · omega

/-- a block of the abstract memory, and the block of the world's -/
def ORel (σ : TypeId → Nat) (ρ : Rho) (i : Info) (o : AObj) (c : Option Obj) : Prop :=
  match o with
  | .dead => True
  | .cells t d n el lo hi sl => ∃ cs fz, c = some (.cells cs el fz) ∧ T.full d t ∧ n ≤ 2 ^ d ∧
      (∀ k, k < n → ∃ u, cs[i.dl + k]? = some u ∧ VRel ρ (t.get k) u) ∧
      FzOk i.dl n cs.size lo hi fz ∧
      (sl = false → i.dl = 0 ∧ i.sl = 0 ∧ cs.size = n) ∧
      (sl = true → 0 < σ el ∧ cs.size = i.dl + n + i.sl * σ el)
  | .map es clock => ∃ ces, c = some (.map ces clock) ∧ L2 (MRel ρ) es ces.toList ∧ ∀ e ∈ es, e.born < clock
  | .str s pos => c = some (.stringIter s pos) ∧ i.dl = 0
  | .iter none since _ last => ∃ seen', c = some (.mapIter none since seen' last) ∧ i.dl = 0
  | .iter (some m) since seen last => ∃ j, ρ m = some j ∧ c = some (.mapIter (some j.blk) since ⟨seen.reverse⟩ last) ∧ i.dl = 0
  | .loop st pend n env params assign body ds => ∃ j fn tm, ρ ds = some j ∧ c = some (.loop ⟨st, pend, fn, tm, ⟨params⟩, assign, body, j.blk⟩) ∧ ERel ρ n env tm
  | .defers none => c = some (.deferred none)
  | .defers (some l) => l = [] ∧ c = some (.deferred (some []))

theorem MRel.mono {ρ ρ' : Rho} (h : ρ.le ρ') {a b : MapEntry} (hm : MRel ρ a b) : MRel ρ' a b := ⟨hm.key, hm.clo, hm.born, hm.val.mono h⟩

theorem ORel.mono {σ : TypeId → Nat} {ρ ρ' : Rho} (h : ρ.le ρ') {i : Info} {o : AObj} {c : Option Obj} (ho : ORel σ ρ i o c) : ORel σ ρ' i o c := by
  cases o with
  | dead => trivial
  | cells t d n el lo hi sl =>
    obtain ⟨cs, fz, h1, h2, h3, h4, h5⟩ := ho
    exact ⟨cs, fz, h1, h2, h3, fun k hk => let ⟨u, a, b⟩ := h4 k hk; ⟨u, a, b.mono h⟩, h5⟩
  | map es clock => obtain ⟨ces, h1, h2, h3⟩ := ho; exact ⟨ces, h1, L2.mono (fun _ _ => MRel.mono h) h2, h3⟩
  | str s pos => exact ho
  | iter m since seen last =>
    cases m with
    | none => exact ho
    | some m => obtain ⟨j, h1, h2⟩ := ho; exact ⟨j, h _ _ h1, h2⟩
  | loop st pend n env params assign body ds => obtain ⟨j, fn, tm, h1, h2, h3⟩ := ho; exact ⟨j, fn, tm, h _ _ h1, h2, h3.mono h⟩
  | defers ds => cases ds <;> exact ho

/-- the protected blocks are as they were -/
structure Under (p : Nat → Prop) (w w' : World) : Prop where
  os : w'.os = w.os
  tape : w'.tape = w.tape
  output : w'.output = w.output
  size : w.heap.size ≤ w'.heap.size
  block : ∀ k, p k → w'.heap[k]? = w.heap[k]?
theorem Under.refl (p : Nat → Prop) (w : World) : Under p w w := ⟨rfl, rfl, rfl, Nat.le_refl _, fun _ _ => rfl⟩
theorem Under.trans {p : Nat → Prop} {a b c : World} (h : Under p a b) (k : Under p b c) : Under p a c :=
  ⟨k.os.trans h.os, k.tape.trans h.tape, k.output.trans h.output, Nat.le_trans h.size k.size, fun i hi => (k.block i hi).trans (h.block i hi)⟩
theorem Under.drew {p : Nat → Prop} {a w : World} (h : Under p a w) : Under p a w.drew := ⟨h.os, h.tape, h.output, h.size, h.block⟩
theorem Under.alloc {p : Nat → Prop} {a w : World} (h : Under p a w) (hp : ∀ k, p k → k < w.heap.size) (o : Obj) : Under p a (w.alloc o) :=
  h.trans ⟨rfl, rfl, rfl, by simp, fun k hk => heap_alloc_old w o k (hp k hk)⟩
theorem Under.below {B : Nat} {w w' : World} (h : Under (fun k => k < B) w w') : Below B w w' := ⟨h.os, h.tape, h.output, h.size, h.block⟩

structure Ctx where
  w0 : World
  prot : Nat → Prop
  lo : Nat
  es : TypeId → Nat

structure Rel (K : Ctx) (ρ : Rho) (h : T AObj) (nx : Nat) (w : World) : Prop where
  full : T.full 14 h
  top : nx ≤ 16384
  dom : ∀ id i, ρ id = some i → id < nx ∧ i.blk < w.heap.size
  obj : ∀ id i, ρ id = some i → ORel K.es ρ i (h.get id) w.heap[i.blk]?
  inj : ∀ id id' i i', ρ id = some i → ρ id' = some i' → i.blk = i'.blk → isLive (h.get id) = true → isLive (h.get id') = true → id = id'
  glob : ∀ g, g < 10 → ρ g = some ⟨g, 0, 0⟩
  own : ∀ id i, ρ id = some i → K.lo ≤ id → isLive (h.get id) = true → ¬ K.prot i.blk
  below : Under K.prot K.w0 w
  lo15 : 10 ≤ K.lo
  loNx : K.lo ≤ nx
  base : ∀ k, K.prot k → k < w.heap.size
  dry : ∀ id, nx ≤ id → id < 16384 → h.get id = .dead

/-- what a piece of a run does: lo: no older block is touched -/
structure Step (K : Ctx) (lo : Nat) (ρ : Rho) (h : T AObj) (nx : Nat) (w : World) (ρ' : Rho) (h' : T AObj) (nx' : Nat) (w' : World) : Prop where
  rel : Rel K ρ' h' nx' w'
  le : ρ.le ρ'
  up : nx ≤ nx'
  old : ∀ id, id < nx → (id < lo ∨ ρ id = none) → h'.get id = h.get id
  pend : ∀ id, id < nx → ρ id = none → ρ' id = none
  keep : ∀ id i, id < nx → id < lo → ρ id = some i → isLive (h.get id) = true → w'.heap[i.blk]? = w.heap[i.blk]?

theorem Step.refl {K : Ctx} {lo : Nat} {ρ : Rho} {h : T AObj} {nx : Nat} {w : World} (hR : Rel K ρ h nx w) : Step K lo ρ h nx w ρ h nx w :=
  ⟨hR, Rho.le.refl _, Nat.le_refl _, fun _ _ _ => rfl, fun _ _ h => h, fun _ _ _ _ _ _ => rfl⟩
theorem Step.trans {K : Ctx} {lo : Nat} {ρ ρ' ρ'' : Rho} {h h' h'' : T AObj} {nx nx' nx'' : Nat} {w w' w'' : World}
    (s : Step K lo ρ h nx w ρ' h' nx' w') (s' : Step K lo ρ' h' nx' w' ρ'' h'' nx'' w'') : Step K lo ρ h nx w ρ'' h'' nx'' w'' := by
  refine ⟨s'.rel, s.le.trans s'.le, Nat.le_trans s.up s'.up, fun id hid hc => ?_, fun id hid hp => s'.pend id (Nat.lt_of_lt_of_le hid s.up) (s.pend id hid hp), fun id i hid hlo hi hl => ?_⟩
  rotate_left
  · rw [s'.keep id i (Nat.lt_of_lt_of_le hid s.up) hlo (s.le id i hi) (by rw [s.old id hid (.inl hlo)]; exact hl)]
    exact s.keep id i hid hlo hi hl
  rw [← s.old id hid hc]
  refine s'.old id (Nat.lt_of_lt_of_le hid s.up) ?_
  rcases hc with hc | hc
  · exact .inl hc
  · exact .inr (s.pend id hid hc)

def upd (ρ : Rho) (id : Nat) (i : Info) : Rho := fun j => if j = id then some i else ρ j
theorem upd_same (ρ : Rho) (id : Nat) (i : Info) : upd ρ id i id = some i := by simp [upd]
theorem upd_le {ρ : Rho} {id : Nat} (i : Info) (h : ρ id = none) : ρ.le (upd ρ id i) := by
  intro j k hj
  unfold upd
  by_cases e : j = id
  · subst e; rw [h] at hj; cases hj
  · rw [if_neg e]; exact hj

theorem Rel.fresh {K : Ctx} {ρ : Rho} {h : T AObj} {nx : Nat} {w : World} (hR : Rel K ρ h nx w) : ρ nx = none := by
  cases e : ρ nx with
  | none => rfl
  | some i => exact absurd (hR.dom nx i e).1 (Nat.lt_irrefl _)

theorem Rel.drew {K : Ctx} {ρ : Rho} {h : T AObj} {nx : Nat} {w : World} (hR : Rel K ρ h nx w) : Rel K ρ h nx w.drew :=
  ⟨hR.full, hR.top, hR.dom, hR.obj, hR.inj, hR.glob, hR.own, hR.below.drew, hR.lo15, hR.loNx, hR.base, hR.dry⟩
theorem Rel.drewN {K : Ctx} {ρ : Rho} {h : T AObj} {nx : Nat} {w : World} (hR : Rel K ρ h nx w) (k : Nat) : Rel K ρ h nx { w with drawn := w.drawn + k } :=
  ⟨hR.full, hR.top, hR.dom, hR.obj, hR.inj, hR.glob, hR.own, ⟨hR.below.os, hR.below.tape, hR.below.output, hR.below.size, hR.below.block⟩, hR.lo15, hR.loNx, hR.base, hR.dry⟩

/-- a new block -/
theorem Rel.new {K : Ctx} {lo : Nat} {ρ : Rho} {h : T AObj} {nx : Nat} {w : World} (hR : Rel K ρ h nx w) (hn : nx < 16384) (o : AObj) (co : Obj) (sl : Nat)
    (ho : ORel K.es (upd ρ nx ⟨w.heap.size, 0, sl⟩) ⟨w.heap.size, 0, sl⟩ o (some co)) :
    Step K lo ρ h nx w (upd ρ nx ⟨w.heap.size, 0, sl⟩) (T.set o h nx) (nx + 1) (w.alloc co) := by
  have hf := hR.fresh
  have hle : ρ.le (upd ρ nx ⟨w.heap.size, 0, sl⟩) := upd_le _ hf
  have hget : ∀ id, id < 16384 → (T.set o h nx).get id = if id = nx then o else h.get id := fun id hid => T.get_set o 14 h nx id hR.full hn hid
  have htop := hR.top
  refine ⟨⟨T.full_set _ _ _ _ hR.full, hn, ?_, ?_, ?_, ?_, ?_, hR.below.alloc hR.base co, hR.lo15, Nat.le_succ_of_le hR.loNx, fun k hk => Nat.lt_of_lt_of_le (hR.base k hk) (by simp), fun id h1 h2 => by rw [hget id h2, if_neg (by omega)]; exact hR.dry id (by omega) h2⟩, hle, Nat.le_succ _, ?_, ?_, fun id i _ _ hi _ => heap_alloc_old w co _ (hR.dom id i hi).2⟩
  · intro id i hi
    unfold upd at hi
    by_cases e : id = nx
    · rw [if_pos e] at hi; cases hi; exact ⟨by omega, by simp⟩
    · rw [if_neg e] at hi
      have := hR.dom id i hi
      exact ⟨by omega, by simp; omega⟩
  · intro id i hi
    unfold upd at hi
    by_cases e : id = nx
    · subst e
      rw [if_pos rfl] at hi; cases hi
      rw [hget _ hn, if_pos rfl]
      have : (w.alloc co).heap[w.heap.size]? = some co := heap_alloc_new w co
      rw [this]; exact ho
    · rw [if_neg e] at hi
      have hd := hR.dom id i hi
      rw [hget id (by omega), if_neg e, heap_alloc_old w co _ hd.2]
      exact (hR.obj id i hi).mono hle
  · intro id id' i i' hi hi' hb hl hl'
    unfold upd at hi hi'
    by_cases e : id = nx
    · by_cases e' : id' = nx
      · rw [e, e']
      · rw [if_neg e'] at hi'; rw [if_pos e] at hi; cases hi
        have := (hR.dom id' i' hi').2
        simp at hb; omega
    · rw [if_neg e] at hi
      have hd := hR.dom id i hi
      by_cases e' : id' = nx
      · rw [if_pos e'] at hi'; cases hi'
        simp at hb; omega
      · rw [if_neg e'] at hi'
        have hd' := hR.dom id' i' hi'
        rw [hget id (by omega), if_neg e] at hl
        rw [hget id' (by omega), if_neg e'] at hl'
        exact hR.inj id id' i i' hi hi' hb hl hl'
  · intro g hg
    exact hle _ _ (hR.glob g hg)
  · intro id i hi hlo hl
    unfold upd at hi
    by_cases e : id = nx
    · rw [if_pos e] at hi; cases hi; exact fun h => Nat.lt_irrefl _ (hR.base _ h)
    · rw [if_neg e] at hi
      have hd := hR.dom id i hi
      rw [hget id (by omega), if_neg e] at hl
      exact hR.own id i hi hlo hl
  · intro id hid _
    rw [hget id (by omega), if_neg (by omega)]
  · intro id hid hp
    unfold upd; rw [if_neg (by omega)]; exact hp

/-- a block that is turned -/
theorem Rel.turn {K : Ctx} {lo : Nat} {ρ : Rho} {h : T AObj} {nx : Nat} {w : World} (hR : Rel K ρ h nx w) {id : Nat} {i : Info} (hi : ρ id = some i) (hlo : lo ≤ id) (hK : K.lo ≤ lo)
    (hl : isLive (h.get id) = true) (o : AObj) (co : Obj) (ho : ORel K.es ρ i o (some co)) :
    Step K lo ρ h nx w ρ (T.set o h id) nx { w with heap := w.heap.setIfInBounds i.blk co } := by
  have hd := hR.dom id i hi
  have htop := hR.top
  have hget : ∀ j, j < 16384 → (T.set o h id).get j = if j = id then o else h.get j := fun j hj => T.get_set o 14 h id j hR.full (by omega) hj
  have hbase : ¬ K.prot i.blk := hR.own id i hi (by omega) hl
  have hown : ∀ j k, ρ j = some k → K.lo ≤ j → isLive ((T.set o h id).get j) = true → ¬ K.prot k.blk := by
    intro j k hk hj hlj
    have hdj := hR.dom j k hk
    rw [hget j (by omega)] at hlj
    by_cases e : j = id
    · subst e; rw [hi] at hk; cases hk; exact hbase
    · rw [if_neg e] at hlj; exact hR.own j k hk hj hlj
  refine ⟨⟨T.full_set _ _ _ _ hR.full, hR.top, ?_, ?_, ?_, hR.glob, hown, ?_, hR.lo15, hR.loNx, fun k hk => by simpa using hR.base k hk, fun j h1 h2 => by rw [hget j h2, if_neg (by omega)]; exact hR.dry j h1 h2⟩, Rho.le.refl _, Nat.le_refl _, ?_, fun _ _ h => h, fun j k _ hj hk hlj => Array.getElem?_setIfInBounds_ne (fun hb => ?_)⟩
  rotate_right
  · have := hR.inj j id k i hk hi hb.symm hlj hl
    omega
  · intro j k hk; have := hR.dom j k hk; exact ⟨this.1, by simpa using this.2⟩
  · intro j k hk
    have hdj := hR.dom j k hk
    rw [hget j (by omega)]
    by_cases e : j = id
    · subst e
      rw [hi] at hk; cases hk
      rw [if_pos rfl]
      have : (w.heap.setIfInBounds i.blk co)[i.blk]? = some co := by simp [hd.2]
      show ORel K.es ρ i o (w.heap.setIfInBounds i.blk co)[i.blk]?
      rw [this]; exact ho
    · rw [if_neg e]
      by_cases hb : k.blk = i.blk
      · by_cases hlj : isLive (h.get j) = true
        · exact absurd (hR.inj j id k i hk hi hb hlj hl) e
        · cases hg : h.get j with
          | dead => trivial
          | _ => rw [hg] at hlj; exact absurd rfl hlj
      · have : (w.heap.setIfInBounds i.blk co)[k.blk]? = w.heap[k.blk]? := Array.getElem?_setIfInBounds_ne (Ne.symm hb)
        show ORel K.es ρ k (h.get j) (w.heap.setIfInBounds i.blk co)[k.blk]?
        rw [this]; exact hR.obj j k hk
  · intro j j' k k' hk hk' hb hlj hlj'
    have hdj := hR.dom j k hk
    have hdj' := hR.dom j' k' hk'
    rw [hget j (by omega)] at hlj
    rw [hget j' (by omega)] at hlj'
    have h1 : isLive (h.get j) = true := by
      by_cases e : j = id
      · rw [e]; exact hl
      · rw [if_neg e] at hlj; exact hlj
    have h2 : isLive (h.get j') = true := by
      by_cases e : j' = id
      · rw [e]; exact hl
      · rw [if_neg e] at hlj'; exact hlj'
    exact hR.inj j j' k k' hk hk' hb h1 h2
  · exact hR.below.trans ⟨rfl, rfl, rfl, by simp, fun b hb => Array.getElem?_setIfInBounds_ne (fun e => hbase (by rw [e]; exact hb))⟩
  · intro j hj hc
    rw [hget j (by omega)]
    by_cases e : j = id
    · subst e
      rcases hc with hc | hc
      · omega
      · rw [hi] at hc; cases hc
    · rw [if_neg e]

/-- a block that is given up -/
theorem Rel.kill {K : Ctx} {lo : Nat} {ρ : Rho} {h : T AObj} {nx : Nat} {w : World} (hR : Rel K ρ h nx w) {id : Nat} {i : Info} (hi : ρ id = some i) (hlo : lo ≤ id) :
    Step K lo ρ h nx w ρ (T.set .dead h id) nx w := by
  have hd := hR.dom id i hi
  have htop := hR.top
  have hget : ∀ j, j < 16384 → (T.set .dead h id).get j = if j = id then .dead else h.get j := fun j hj => T.get_set _ 14 h id j hR.full (by omega) hj
  have hown : ∀ j k, ρ j = some k → K.lo ≤ j → isLive ((T.set .dead h id).get j) = true → ¬ K.prot k.blk := by
    intro j k hk hj hlj
    have hdj := hR.dom j k hk
    rw [hget j (by omega)] at hlj
    by_cases e : j = id
    · rw [if_pos e] at hlj; cases hlj
    · rw [if_neg e] at hlj; exact hR.own j k hk hj hlj
  refine ⟨⟨T.full_set _ _ _ _ hR.full, hR.top, hR.dom, ?_, ?_, hR.glob, hown, hR.below, hR.lo15, hR.loNx, hR.base, fun j h1 h2 => by rw [hget j h2, if_neg (by omega)]; exact hR.dry j h1 h2⟩, Rho.le.refl _, Nat.le_refl _, ?_, fun _ _ h => h, fun _ _ _ _ _ _ => rfl⟩
  · intro j k hk
    have hdj := hR.dom j k hk
    rw [hget j (by omega)]
    by_cases e : j = id
    · rw [if_pos e]; trivial
    · rw [if_neg e]; exact hR.obj j k hk
  · intro j j' k k' hk hk' hb hlj hlj'
    have hdj := hR.dom j k hk
    have hdj' := hR.dom j' k' hk'
    rw [hget j (by omega)] at hlj
    rw [hget j' (by omega)] at hlj'
    by_cases e : j = id
    · rw [if_pos e] at hlj; cases hlj
    · rw [if_neg e] at hlj
      by_cases e' : j' = id
      · rw [if_pos e'] at hlj'; cases hlj'
      · rw [if_neg e'] at hlj'; exact hR.inj j j' k k' hk hk' hb hlj hlj'
  · intro j hj hc
    rw [hget j (by omega)]
    by_cases e : j = id
    · subst e
      rcases hc with hc | hc
      · omega
      · rw [hi] at hc; cases hc
    · rw [if_neg e]
end Go.Ev

namespace Go.Ev
open Go Go.RowKit

/-- the tables that the evaluator goes by are the program's -/
structure TabOk (B : Tab) (P : Program) : Prop where
  row : ∀ t d n z sub, t < 1024 → B.ty.get t = .row d n z sub → P.underlying t = some d ∧ ∃ i, P.info? t = some i ∧ i.size = n ∧ i.zero = z ∧ (∀ v, z = some v → clo v = true ∧ v.cells.size = n)
  strct : ∀ t fs n z sub, t < 1024 → B.ty.get t = .row (.struct fs) n z sub → sub.length = fs.size ∧ ∀ (k : Nat) f, fs[k]? = some f → ∃ j, P.info? f.type = some j ∧ sub[k]? = some (f.offset, j.size)
  slice : ∀ t el n z sub, t < 1024 → B.ty.get t = .row (.slice el) n z sub → ∃ j, P.info? el = some j ∧ sub = [(0, j.size)]
  array : ∀ t m el n z sub, t < 1024 → B.ty.get t = .row (.array m el) n z sub → ∃ j, P.info? el = some j ∧ sub = [(0, j.size)]
  fn : ∀ f fn, f < 1024 → B.fn.get f = some fn → P.funcs[f]? = some fn ∧ (fn.name == "runtime.NumGoroutine") = false
  small : ∀ t d n z sub, t < 1024 → B.ty.get t = .row d n z sub → ∀ i, P.info? t = some i → i.bytes ≤ 1000000
  nt : ∀ t, t < B.nt → ∃ d, P.underlying t = some d
  eqs : ∀ t, 0 < B.eqs t → P.eqGuardType P.depth t = false ∧ ∀ (w : World) xs ys r, xs.length = B.eqs t → eqInts xs ys = some r → (Op.equal t (.agg ⟨xs⟩) (.agg ⟨ys⟩)).run P w = .ok r w
  keys : ∀ t, B.eqs t = 2 → ∀ (em : Bool) (w : World) xs, xs.length = B.eqs t → allInt xs = true → (Instr.checkKey em 10000 t (.agg ⟨xs⟩)).run P w = .ok () w
  self : ∀ t d n z sub, B.self t = true → t < 1024 → B.ty.get t = .row d n z sub → 0 < n ∧ liesAt P P.depth t (n / P.cellsOf t) 0 t 1 = true
  byte : ∀ t n z sub, t < 1024 → B.ty.get t = .row (.int .u8) n z sub → n = 1
  cell1 : P.cellsOf B.u8 = 1
  bytes : ∀ count off n, off + n ≤ count → liesAt P P.depth B.u8 count off B.u8 n = true

def ex (op : Op) (ty : TypeId) (ρ : Operand → Value) : Sem Next := execOp ρ { dst := none, op := op, type := ty, pos := "", after := #[], guard := none }
theorem execOp_eq (ρ : Operand → Value) (o : Oper) : execOp ρ o = ex o.op o.type ρ := by
  obtain ⟨dst, op, type, pos, after, guard⟩ := o
  cases op <;> rfl

def vS (s : Sem Value) : Sem Next := s >>= fun v => pure (Next.value v)
def uS (s : Sem Unit) : Sem Next := s >>= fun _ => pure Next.skip
theorem run_vS {P : Program} {s : Sem Value} {u : Value} {w w' : World} (h : s.run P w = .ok u w') : (vS s).run P w = .ok (.value u) w' := by simp [vS, h]
theorem run_uS {P : Program} {s : Sem Unit} {w w' : World} (h : s.run P w = .ok () w') : (uS s).run P w = .ok .skip w' := by simp [uS, h]

variable {Q : Out → Prop} {K : Ctx} {P : Program} {B : Tab}

theorem evalK_ok {ρ : Rho} (hg : ∀ g, g < 10 → ρ g = some ⟨g, 0, 0⟩) {n : Nat} {e : T Value} {act : Act} (he : ERel ρ n e act.tmps) {o : Operand} {k : Value → R} (h : All Q (evalK n e o k)) :
    ∃ v, VRel ρ v (act.eval o) ∧ All Q (k v) := by
  cases o with
  | tmp t =>
    have h : All Q (onTmp n e t k) := h
    rw [all_onTmp] at h
    exact ⟨_, he.val t h.1, h.2⟩
  | const v =>
    have h : All Q (iteR (clo v) (k v) (failR "const")) := h
    rw [all_iteR_fail] at h
    exact ⟨v, VRel.of_clo h.1, h.2⟩
  | global g =>
    have h : All Q (iteR (Nat.blt g 10) (k (ptrTo g)) (failR "global")) := h
    rw [all_iteR_fail, Nat.blt_eq] at h
    have := VRel.ptr (off := 0) (hg g h.1)
    exact ⟨_, this, h.2⟩
  | func f => exact ⟨_, VRel.func' (xs := []) (ys := []) (by intro l; simp) .nil .nil, h⟩

theorem evalsK_ok {ρ : Rho} (hg : ∀ g, g < 10 → ρ g = some ⟨g, 0, 0⟩) {n : Nat} {e : T Value} {act : Act} (he : ERel ρ n e act.tmps) : ∀ {os : List Operand} {k : List Value → R}, All Q (evalsK n e os k) →
    ∃ vs, VRels ρ vs (os.map act.eval) ∧ All Q (k vs)
  | [], _, h => ⟨[], .nil, h⟩
  | o :: os, k, h => by
    have h : All Q (evalK n e o fun v => evalsK n e os fun vs => k (v :: vs)) := h
    obtain ⟨v, hv, h⟩ := evalK_ok hg he h
    obtain ⟨vs, hvs, h⟩ := evalsK_ok hg he h
    exact ⟨v :: vs, .cons hv hvs, h⟩

theorem evalOptK_ok {ρ : Rho} (hg : ∀ g, g < 10 → ρ g = some ⟨g, 0, 0⟩) {n : Nat} {e : T Value} {act : Act} (he : ERel ρ n e act.tmps) {o : Option Operand} {k : Option Value → R} (h : All Q (evalOptK n e o k)) :
    (o = none ∧ All Q (k none)) ∨ ∃ x v, o = some x ∧ VRel ρ v (act.eval x) ∧ All Q (k (some v)) := by
  cases o with
  | none => exact .inl ⟨rfl, h⟩
  | some x =>
    have h : All Q (evalK n e x fun v => k (some v)) := h
    obtain ⟨v, hv, h⟩ := evalK_ok hg he h
    exact .inr ⟨x, v, rfl, hv, h⟩

/-- a handler does what the operation does -/
def HOk (K : Ctx) (P : Program) (x : H) (s : (Operand → Value) → Sem Next) : Prop :=
  ∀ (Q : Out → Prop) (a : Act0) (e : T Value) (h : T AObj) (nx : Nat) (k : KV) (ρ : Rho) (act : Act) (w : World), K.lo ≤ a.lo → All Q (x a e h nx k) → Rel K ρ h nx w → ERel ρ a.n e act.tmps →
    ∃ v h' nx' ρ' u w', ((s act.eval).run P w = .ok (.value u) w' ∨ ((s act.eval).run P w = .ok .skip w' ∧ u = undef)) ∧ VRel ρ' v u ∧ Step K a.lo ρ h nx w ρ' h' nx' w' ∧ All Q (k v h' nx')

/-- nothing turns -/
theorem HOk.same {x : H} {s : (Operand → Value) → Sem Next}
    (H : ∀ (Q : Out → Prop) (a : Act0) (e : T Value) (h : T AObj) (nx : Nat) (k : KV) (ρ : Rho) (act : Act) (w : World), All Q (x a e h nx k) → Rel K ρ h nx w → ERel ρ a.n e act.tmps →
      ∃ v u, (s act.eval).run P w = .ok (.value u) w ∧ VRel ρ v u ∧ All Q (k v h nx)) : HOk K P x s := by
  intro Q a e h nx k ρ act w _ hA hR hE
  obtain ⟨v, u, h1, h2, h3⟩ := H Q a e h nx k ρ act w hA hR hE
  exact ⟨v, h, nx, ρ, u, w, .inl h1, h2, .refl hR, h3⟩

theorem ok_move (x : Operand) (ty : TypeId) : HOk K P (hMove x) (ex (.move x) ty) := HOk.same fun Q a e h nx k ρ act w hA hR hE => by
  obtain ⟨v, hv, hA⟩ := evalK_ok hR.glob hE (k := fun v => k v h nx) hA
  exact ⟨v, _, rfl, hv, hA⟩
theorem ok_assign (x : Operand) (ty : TypeId) : HOk K P (hMove x) (ex (.assign x) ty) := ok_move x ty

theorem ok_pick (c x y : Operand) (ty : TypeId) : HOk K P (hPick c x y) (ex (.pick c x y) ty) := HOk.same fun Q a e h nx k ρ act w hA hR hE => by
  unfold hPick at hA
  obtain ⟨v, hv, hA⟩ := evalK_ok hR.glob hE hA
  rw [all_onBool] at hA
  obtain ⟨b, rfl, hA⟩ := hA
  have hc : act.eval c = .bool b := VRel.atom rfl hv
  cases b with
  | true =>
    obtain ⟨u, hu, hA⟩ := evalK_ok hR.glob hE (o := x) (k := fun v => k v h nx) hA
    refine ⟨u, act.eval x, ?_, hu, hA⟩
    simp [ex, execOp, hc, asBool]
  | false =>
    obtain ⟨u, hu, hA⟩ := evalK_ok hR.glob hE (o := y) (k := fun v => k v h nx) hA
    refine ⟨u, act.eval y, ?_, hu, hA⟩
    simp [ex, execOp, hc, asBool]

theorem ok_nilCheck (x : Operand) (ty : TypeId) : HOk K P (hNilCheck x) (ex (.nilCheck x) ty) := HOk.same fun Q a e h nx k ρ act w hA hR hE => by
  unfold hNilCheck at hA
  obtain ⟨v, hv, hA⟩ := evalK_ok hR.glob hE hA
  rw [all_iteR_fail] at hA
  refine ⟨v, act.eval x, ?_, hv, hA.2⟩
  generalize hu : act.eval x = u at hv
  simp only [ex, execOp, hu]
  have h0 := hA.1
  cases hv <;> first | rfl | (simp [nilOk] at h0; done)

theorem run_underlying (hB : TabOk B P) {t d n z sub} (ht : t < 1024) (h : B.ty.get t = .row d n z sub) (w : World) : (underlying t).run P w = .ok d w := by
  have := (hB.row t d n z sub ht h).1
  simp [underlying, this]
theorem run_typeInfo (hB : TabOk B P) {t d n z sub} (ht : t < 1024) (h : B.ty.get t = .row d n z sub) (w : World) : ∃ i, (typeInfo t).run P w = .ok i w ∧ i.size = n ∧ i.zero = z := by
  obtain ⟨_, i, h1, h2, h3, _⟩ := hB.row t d n z sub ht h
  exact ⟨i, by simp [typeInfo, h1], h2, h3⟩
theorem run_sizeOf (hB : TabOk B P) {t d n z sub} (ht : t < 1024) (h : B.ty.get t = .row d n z sub) (w : World) : (sizeOf t).run P w = .ok n w := by
  obtain ⟨i, h1, h2, _⟩ := run_typeInfo hB ht h w
  simp [sizeOf, h1, h2]
theorem run_zeroValue (hB : TabOk B P) {t d n v sub} (ht : t < 1024) (h : B.ty.get t = .row d n (some v) sub) (w : World) : (zeroValue t).run P w = .ok v w := by
  obtain ⟨i, h1, _, h2⟩ := run_typeInfo hB ht h w
  simp [zeroValue, h1, h2]
theorem run_isAgg (hB : TabOk B P) {t d n z sub} (ht : t < 1024) (h : B.ty.get t = .row d n z sub) (w : World) : (isAgg t).run P w = .ok (isAggD d) w := by
  unfold isAgg
  rw [Sem.run_bind, run_underlying hB ht h w, Result.andThen_ok]
  cases d <;> rfl

theorem ok_makeInterface (hB : TabOk B P) (t : TypeId) (x : Operand) (ty : TypeId) : HOk K P (hMakeInterface B t x) (ex (.makeInterface t x) ty) := HOk.same fun Q a e h nx k ρ act w hA hR hE => by
  unfold hMakeInterface at hA
  obtain ⟨v, hv, hA⟩ := evalK_ok hR.glob hE hA
  simp only [all_onRow, all_iteR_fail] at hA
  obtain ⟨ht, d, n, z, sub, hrow, hd, hA⟩ := hA
  refine ⟨_, .iface t (act.eval x), ?_, .iface t hv, hA⟩
  show Sem.run P (vS (Instr.makeInterface t (act.eval x))) w = _
  apply run_vS
  rw [Instr.makeInterface, Sem.run_bind, run_underlying hB ht hrow w, Result.andThen_ok]
  cases d <;> first | rfl | cases hd

theorem ok_makeFunc (fn : Fn) (xs ys : Array Operand) (ty : TypeId) : HOk K P (hMakeFunc fn xs ys) (ex (.makeFunc fn xs ys) ty) := HOk.same fun Q a e h nx k ρ act w hA hR hE => by
  unfold hMakeFunc at hA
  rw [all_iteR_fail] at hA
  obtain ⟨hp, hA⟩ := hA
  have hfn : ∀ l, fn ≠ .yield l := fun l h => by subst h; cases hp
  obtain ⟨vs, hvs, hA⟩ := evalsK_ok hR.glob hE hA
  obtain ⟨us, hus, hA⟩ := evalsK_ok hR.glob hE hA
  refine ⟨_, .func fn (xs.map act.eval) (ys.map act.eval), rfl, ?_, hA⟩
  have h1 : xs.map act.eval = ⟨xs.toList.map act.eval⟩ := by cases xs; simp
  have h2 : ys.map act.eval = ⟨ys.toList.map act.eval⟩ := by cases ys; simp
  rw [h1, h2]
  exact VRel.func' hfn hvs hus

theorem ok_extract (x : Operand) (i : Nat) (ty : TypeId) : HOk K P (hExtract x i) (ex (.extract x i) ty) := HOk.same fun Q a e h nx k ρ act w hA hR hE => by
  unfold hExtract at hA
  obtain ⟨v, hv, hA⟩ := evalK_ok hR.glob hE hA
  split at hA
  · rename_i vs
    rw [all_onO] at hA
    obtain ⟨y, hy, hA⟩ := hA
    obtain ⟨us, hu, hs⟩ := VRel.inv_tuple (xs := vs.toList) hv
    obtain ⟨u, hu', hr⟩ := hs.get i y hy
    refine ⟨y, u, ?_, hr, hA⟩
    have hu'' : (⟨us⟩ : Array Value)[i]? = some u := by simpa using hu'
    show Sem.run P (vS (Instr.extract (act.eval x) i)) w = _
    apply run_vS
    rw [hu]
    simp [Instr.extract, hu'']
  · simp at hA

theorem ok_typeAssert (hB : TabOk B P) (x : Operand) (t0 u : TypeId) (ok : Bool) (ty : TypeId) : HOk K P (hTypeAssert B x u ok) (ex (.typeAssert x t0 u ok) ty) := HOk.same fun Q a e h nx k ρ act w hA hR hE => by
  unfold hTypeAssert at hA
  obtain ⟨v, hv, hA⟩ := evalK_ok hR.glob hE hA
  rw [all_onRow] at hA
  obtain ⟨ht, d, n, z, sub, hrow, hA⟩ := hA
  split at hA
  · rename_i t v
    rw [all_iteR_fail] at hA
    obtain ⟨hc, hA2⟩ := hA
    simp only [Bool.and_eq_true] at hc
    have htu : t = u := Nat.eq_of_beq_eq_true hc.2
    subst htu
    generalize hu : act.eval x = uu at hv
    cases hv with
    | iface _ hv =>
      rename_i u
      refine ⟨_, if ok then .tuple #[u, .bool true] else u, ?_, ?_, hA2⟩
      · show Sem.run P (vS (Instr.typeAssert (act.eval x) t0 t ok)) w = _
        apply run_vS
        rw [hu, Instr.typeAssert, Sem.run_bind, run_underlying hB ht hrow w, Result.andThen_ok]
        cases d <;> first | (simp; done) | (simp [notIface] at hc)
      · cases ok with
        | true => exact VRel.tuple' (.cons hv (.cons (.bool true) .nil))
        | false => exact hv
  · simp at hA
end Go.Ev

namespace Go.Ev
open Go Go.RowKit

theorem down_eq (f h m : Nat) (hm : m < f) : down f h m = if m < h then (m : Int) else (m : Int) - f := by
  unfold down
  rcases e : Nat.blt m h with _ | _
  · have : ¬ m < h := by intro h'; rw [show Nat.blt m h = true from by rw [Nat.blt_eq]; exact h'] at e; cases e
    rw [if_neg this]
    show Int.negSucc (f - m - 1) = _
    rw [Int.negSucc_eq]; omega
  · have : m < h := by rw [← Nat.blt_eq]; exact e
    rw [if_pos this]; rfl

theorem wrapK_eq (k : IntKind) (n : Int) : wrapK k n = k.wrap n := by
  have key : ∀ m : Nat, m < full k → (m : Int) = n % (full k : Int) → down (full k) (half k) m = k.wrap n := by
    intro m hm e
    rw [down_eq _ _ _ hm]
    by_cases hh : m < half k
    · rw [if_pos hh]
      cases k <;> simp only [full, half] at * <;> simp [IntKind.wrap, IntKind.bits, IntKind.signed] <;> omega
    · rw [if_neg hh]
      cases k <;> simp only [full, half] at * <;> simp [IntKind.wrap, IntKind.bits, IntKind.signed] <;> omega
  cases n with
  | ofNat a =>
    refine key (a % full k) (Nat.mod_lt _ (by cases k <;> decide)) ?_
    simp
  | negSucc a =>
    have hf : 0 < full k := by cases k <;> decide
    have hlt := Nat.mod_lt a hf
    refine key (full k - 1 - a % full k) (by omega) ?_
    rw [Int.negSucc_eq]
    cases k <;> simp only [full] at * <;> omega

theorem ltK_eq (x y : Int) : ltK x y = decide (x < y) := by
  cases x <;> cases y <;> simp only [ltK]
  · rename_i a b; by_cases h : a < b
    · rw [show Nat.blt _ _ = true from by rw [Nat.blt_eq]; exact h]; simp; omega
    · have : Nat.blt a b = false := by rw [← Bool.not_eq_true, Nat.blt_eq]; exact h
      rw [this]; simp; omega
  · rename_i a b; simp; omega
  · rename_i a b; simp; omega
  · rename_i a b; by_cases h : b < a
    · rw [show Nat.blt _ _ = true from by rw [Nat.blt_eq]; exact h]; simp; omega
    · have : Nat.blt b a = false := by rw [← Bool.not_eq_true, Nat.blt_eq]; exact h
      rw [this]; simp; omega
theorem leK_eq (x y : Int) : leK x y = decide (x ≤ y) := by
  cases x <;> cases y <;> simp only [leK]
  · rename_i a b; by_cases h : a ≤ b
    · rw [Nat.ble_eq_true_of_le h]; simp; omega
    · have : Nat.ble a b = false := by rw [← Bool.not_eq_true]; intro h'; exact h (Nat.le_of_ble_eq_true h')
      rw [this]; simp; omega
  · rename_i a b; simp; omega
  · rename_i a b; simp; omega
  · rename_i a b; by_cases h : b ≤ a
    · rw [Nat.ble_eq_true_of_le h]; simp; omega
    · have : Nat.ble b a = false := by rw [← Bool.not_eq_true]; intro h'; exact h (Nat.le_of_ble_eq_true h')
      rw [this]; simp; omega
theorem eqK_eq (x y : Int) : eqK x y = (x == y) := by
  cases x <;> cases y <;> simp only [eqK]
  · rename_i a b; by_cases h : a = b
    · subst h; simp
    · have : Nat.beq a b = false := by rw [← Bool.not_eq_true, Nat.beq_eq]; exact h
      rw [this]; symm; simp; omega
  · rename_i a b; symm; simp
  · rename_i a b; symm; simp
  · rename_i a b; by_cases h : a = b
    · subst h; simp
    · have : Nat.beq a b = false := by rw [← Bool.not_eq_true, Nat.beq_eq]; exact h
      rw [this]; symm; simp; omega
end Go.Ev

namespace Go.Ev
open Go Go.RowKit

theorem bitsOf_eq (k : IntKind) : bitsOf k = k.bits := by cases k <;> rfl
theorem full_eq (k : IntKind) : full k = 2 ^ k.bits := by cases k <;> rfl
theorem half_le (k : IntKind) : half k ≤ 2 ^ k.bits := by cases k <;> decide
theorem half_pow (k : IntKind) : ∃ j, half k = 2 ^ j := by
  cases k
  · exact ⟨7, rfl⟩
  · exact ⟨15, rfl⟩
  · exact ⟨31, rfl⟩
  · exact ⟨63, rfl⟩
  · exact ⟨8, rfl⟩
  · exact ⟨16, rfl⟩
  · exact ⟨32, rfl⟩
  · exact ⟨64, rfl⟩
theorem minN_eq (a b : Nat) : minN a b = min a b := by
  unfold minN
  rcases h : Nat.ble a b with _ | _
  · have : ¬ a ≤ b := by intro h'; rw [Nat.ble_eq_true_of_le h'] at h; cases h
    show b = _; omega
  · have := Nat.le_of_ble_eq_true h
    show a = _; omega
theorem maxN_eq (a b : Nat) : maxN a b = max a b := by
  unfold maxN
  rcases h : Nat.ble a b with _ | _
  · have : ¬ a ≤ b := by intro h'; rw [Nat.ble_eq_true_of_le h'] at h; cases h
    show a = _; omega
  · have := Nat.le_of_ble_eq_true h
    show b = _; omega

theorem wrap_small (k : IntKind) (a : Nat) (h : a < half k) : k.wrap (a : Int) = a := by
  rw [← wrapK_eq]
  show down (full k) (half k) (a % full k) = _
  have h2 : a < full k := by have := half_le k; rw [full_eq]; omega
  rw [Nat.mod_eq_of_lt h2, down_eq _ _ _ h2, if_pos h]

theorem bits_ok {k : IntKind} {x y : Int} {v : Value} (f : Nat → Nat → Nat) (F : BitVec k.bits → BitVec k.bits → BitVec k.bits)
    (hf : ∀ a b, a < half k → b < half k → (F (BitVec.ofNat k.bits a) (BitVec.ofNat k.bits b)).toNat = f a b) (hl : ∀ a b, a < half k → b < half k → f a b < half k)
    (h : bitK k f x y = some v) : Value.int k (k.wrap (F (BitVec.ofInt k.bits x) (BitVec.ofInt k.bits y)).toNat) = v := by
  unfold bitK at h
  cases x with
  | negSucc a => cases h
  | ofNat a =>
    cases y with
    | negSucc b => cases h
    | ofNat b =>
      simp only at h
      rcases ha : Nat.blt a (half k) with _ | _
      · rw [ha] at h; cases h
      · rcases hb : Nat.blt b (half k) with _ | _
        · rw [ha, hb] at h; cases h
        · rw [ha, hb] at h
          have ha' : a < half k := by rw [← Nat.blt_eq]; exact ha
          have hb' : b < half k := by rw [← Nat.blt_eq]; exact hb
          cases h
          have e1 : BitVec.ofInt k.bits (Int.ofNat a) = BitVec.ofNat k.bits a := BitVec.ofInt_natCast ..
          have e2 : BitVec.ofInt k.bits (Int.ofNat b) = BitVec.ofNat k.bits b := BitVec.ofInt_natCast ..
          rw [e1, e2, hf a b ha' hb', wrap_small k _ (hl a b ha' hb')]
          rfl

theorem toNat_small {k : IntKind} {a : Nat} (h : a < half k) : (BitVec.ofNat k.bits a).toNat = a := by
  have := half_le k
  rw [BitVec.toNat_ofNat, Nat.mod_eq_of_lt (by omega)]

theorem orElse_or {a b : Option Value} {v : Value} (h : orElseO a b = some v) : a = some v ∨ b = some v := by
  cases a with
  | none => exact .inr h
  | some x => exact .inl h

theorem bitAnd_ok {k : IntKind} {x y : Int} {v : Value} (h : orElseO (bitK k Nat.land x y) (bitS k .and x y) = some v) :
    Value.int k (k.wrap (BitVec.ofInt k.bits x &&& BitVec.ofInt k.bits y).toNat) = v := by
  rcases orElse_or h with h | h
  · refine bits_ok Nat.land (· &&& ·) ?_ ?_ h
    · intro a b ha hb; rw [BitVec.toNat_and, toNat_small ha, toNat_small hb]; rfl
    · intro a b ha _; exact Nat.lt_of_le_of_lt (Nat.and_le_left) ha
  · simpa [bitS] using h
theorem bitOr_ok {k : IntKind} {x y : Int} {v : Value} (h : orElseO (bitK k Nat.lor x y) (bitS k .or x y) = some v) :
    Value.int k (k.wrap (BitVec.ofInt k.bits x ||| BitVec.ofInt k.bits y).toNat) = v := by
  rcases orElse_or h with h | h
  · refine bits_ok Nat.lor (· ||| ·) ?_ ?_ h
    · intro a b ha hb; rw [BitVec.toNat_or, toNat_small ha, toNat_small hb]; rfl
    · intro a b ha hb; obtain ⟨j, hj⟩ := half_pow k; rw [hj] at ha hb ⊢; exact Nat.or_lt_two_pow ha hb
  · simpa [bitS] using h
theorem bitXor_ok {k : IntKind} {x y : Int} {v : Value} (h : orElseO (bitK k Nat.xor x y) (bitS k .xor x y) = some v) :
    Value.int k (k.wrap (BitVec.ofInt k.bits x ^^^ BitVec.ofInt k.bits y).toNat) = v := by
  rcases orElse_or h with h | h
  · refine bits_ok Nat.xor (· ^^^ ·) ?_ ?_ h
    · intro a b ha hb; rw [BitVec.toNat_xor, toNat_small ha, toNat_small hb]; rfl
    · intro a b ha hb; obtain ⟨j, hj⟩ := half_pow k; rw [hj] at ha hb ⊢; exact Nat.xor_lt_two_pow ha hb
  · simpa [bitS] using h
theorem bitNot_ok {k : IntKind} {x y : Int} {v : Value} (h : orElseO (bitK k bare x y) (bitS k .andNot x y) = some v) :
    Value.int k (k.wrap (BitVec.ofInt k.bits x &&& ~~~(BitVec.ofInt k.bits y)).toNat) = v := by
  rcases orElse_or h with h | h
  · refine bits_ok bare (fun a b => a &&& ~~~b) ?_ ?_ h
    · intro a b ha hb
      have hle := half_le k
      apply Nat.eq_of_testBit_eq
      intro i
      have e1 : ((BitVec.ofNat k.bits a) &&& ~~~(BitVec.ofNat k.bits b)).toNat.testBit i = ((BitVec.ofNat k.bits a) &&& ~~~(BitVec.ofNat k.bits b)).getLsbD i := rfl
      rw [e1, BitVec.getLsbD_and, BitVec.getLsbD_not]
      have ea : (BitVec.ofNat k.bits a).getLsbD i = a.testBit i := by
        show (BitVec.ofNat k.bits a).toNat.testBit i = _; rw [toNat_small ha]
      have eb : (BitVec.ofNat k.bits b).getLsbD i = b.testBit i := by
        show (BitVec.ofNat k.bits b).toNat.testBit i = _; rw [toNat_small hb]
      rw [ea, eb]
      show _ = (a ^^^ (a &&& b)).testBit i
      rw [Nat.testBit_xor, Nat.testBit_and]
      by_cases hi : i < k.bits
      · simp [hi]; cases a.testBit i <;> cases b.testBit i <;> rfl
      · have : a.testBit i = false := Nat.testBit_lt_two_pow (Nat.lt_of_lt_of_le (by omega : a < 2 ^ k.bits) (Nat.pow_le_pow_right (by decide) (by omega)))
        simp [hi, this]
    · intro a b ha hb
      obtain ⟨j, hj⟩ := half_pow k; rw [hj] at ha hb ⊢
      exact Nat.xor_lt_two_pow ha (Nat.lt_of_le_of_lt Nat.and_le_left ha)
  · simpa [bitS] using h

theorem addK_eq (x y : Int) : addK x y = x + y := by
  cases x <;> cases y <;> rfl
theorem subK_eq (x y : Int) : subK x y = x - y := by
  cases x with
  | ofNat a => cases y with
    | ofNat b =>
      show Bool.rec (motive := fun _ => Int) (Int.sub (Int.ofNat a) (Int.ofNat b)) (Int.ofNat (Nat.sub a b)) (Nat.ble b a) = _
      cases h : Nat.ble b a with
      | true =>
        have := Nat.le_of_ble_eq_true h
        show ((a - b : Nat) : Int) = (a : Int) - (b : Int)
        omega
      | false => rfl
    | negSucc b => rfl
  | negSucc a => rfl

theorem run_bin_int {P : Program} {op : BinOp} {k l : IntKind} {x y : Int} {v : Value} (t : TypeId) (w : World) (hkl : isShift op = true ∨ k = l) (h : binI op k x y = some v) :
    (binOp op t (.int k x) (.int l y)).run P w = .ok v w := by
  cases op <;> simp only [binI, selBinOp, addK_eq, subK_eq] at h
  case add => rcases hkl with hkl | rfl; · cases hkl
              cases h; simp [binOp, Op.intArith, wrapK_eq]
  case sub => rcases hkl with hkl | rfl; · cases hkl
              cases h; simp [binOp, Op.intArith, wrapK_eq]
  case mul => rcases hkl with hkl | rfl; · cases hkl
              cases h; simp [binOp, Op.intArith, wrapK_eq]
  case quo =>
    rcases hkl with hkl | rfl; · cases hkl
    unfold divN at h
    cases x with
    | negSucc a => cases h
    | ofNat a => cases y with
      | negSucc b => cases h
      | ofNat b =>
        simp only at h
        rcases e : Nat.beq b 0 with _ | _
        · rw [e] at h; cases h
          have hb : b ≠ 0 := by intro h0; subst h0; cases e
          rw [wrapK_eq]
          show (binOp .quo t (.int k (Int.ofNat a)) (.int k (Int.ofNat b))).run P w = _
          have hb' : ¬ (Int.ofNat b = 0) := by intro h; exact hb (by injection h)
          simp only [binOp, Op.intDiv, if_neg hb', if_neg (show ¬ k ≠ k from fun h => h rfl)]
          rfl
        · rw [e] at h; cases h
  case rem =>
    rcases hkl with hkl | rfl; · cases hkl
    unfold modN at h
    cases x with
    | negSucc a => cases h
    | ofNat a => cases y with
      | negSucc b => cases h
      | ofNat b =>
        simp only at h
        rcases e : Nat.beq b 0 with _ | _
        · rw [e] at h; cases h
          have hb : b ≠ 0 := by intro h0; subst h0; cases e
          have hb' : ¬ (Int.ofNat b = 0) := by intro h; exact hb (by injection h)
          simp only [binOp, Op.intDiv, if_neg hb', if_neg (show ¬ k ≠ k from fun h => h rfl)]
          rfl
        · rw [e] at h; cases h
  case and => rcases hkl with hkl | rfl; · cases hkl
              simp only [binOp, Op.intBits, if_neg (show ¬ k ≠ k from fun h => h rfl)]; rw [bitAnd_ok h]; rfl
  case or => rcases hkl with hkl | rfl; · cases hkl
             simp only [binOp, Op.intBits, if_neg (show ¬ k ≠ k from fun h => h rfl)]; rw [bitOr_ok h]; rfl
  case xor => rcases hkl with hkl | rfl; · cases hkl
              simp only [binOp, Op.intBits, if_neg (show ¬ k ≠ k from fun h => h rfl)]; rw [bitXor_ok h]; rfl
  case andNot => rcases hkl with hkl | rfl; · cases hkl
                 simp only [binOp, Op.intBits, if_neg (show ¬ k ≠ k from fun h => h rfl)]; rw [bitNot_ok h]; rfl
  case shl =>
    unfold shlN at h
    cases x with
    | negSucc a => cases h
    | ofNat a => cases y with
      | negSucc b => cases h
      | ofNat b =>
        cases h
        have : ¬ (Int.ofNat b < 0) := by simp
        simp only [binOp, Op.shift, this, if_false, wrapK_eq, minN_eq, bitsOf_eq]
        simp [Nat.shiftLeft_eq]
  case shr =>
    unfold shrN at h
    cases x with
    | negSucc a => cases h
    | ofNat a => cases y with
      | negSucc b => cases h
      | ofNat b =>
        cases h
        have : ¬ (Int.ofNat b < 0) := by simp
        simp only [binOp, Op.shift, this, if_false, minN_eq, bitsOf_eq]
        simp only [Sem.run_pure]
        congr 2
        have e : Int.ofNat (a.shiftRight (min b k.bits)) = ((a / 2 ^ (min b k.bits) : Nat) : Int) := by
          show ((a >>> (min b k.bits) : Nat) : Int) = _
          rw [Nat.shiftRight_eq_div_pow]
        rw [e]
        show (a : Int).fdiv (2 ^ (min b k.bits)) = _
        have e2 : (2 ^ (min b k.bits) : Int) = ((2 ^ (min b k.bits) : Nat) : Int) := by simp
        rw [e2, Int.fdiv_eq_ediv_of_nonneg _ (Int.natCast_nonneg _), Int.natCast_ediv]
  case eql => rcases hkl with hkl | rfl; · cases hkl
              cases h; simp [binOp, Op.intCmp, eqK_eq]
  case neq => rcases hkl with hkl | rfl; · cases hkl
              cases h; simp [binOp, Op.intCmp, eqK_eq, bne]
  case lss => rcases hkl with hkl | rfl; · cases hkl
              cases h; simp [binOp, Op.intCmp, ltK_eq]
  case leq => rcases hkl with hkl | rfl; · cases hkl
              cases h; simp [binOp, Op.intCmp, leK_eq]
  case gtr => rcases hkl with hkl | rfl; · cases hkl
              cases h; simp [binOp, Op.intCmp, ltK_eq]
  case geq => rcases hkl with hkl | rfl; · cases hkl
              cases h; simp [binOp, Op.intCmp, leK_eq]
end Go.Ev

namespace Go.Ev
open Go Go.RowKit
variable {Q : Out → Prop} {K : Ctx} {P : Program} {B : Tab}

theorem addr_add (b o n : Nat) : (⟨b, o, none⟩ : Addr).add n = ⟨b, o + n, none⟩ := by unfold Addr.add; split <;> simp_all

theorem VRels.undefs {ρ : Rho} : ∀ {l m : List Value}, VRels ρ l m → ∀ i, VRel ρ (l.getD i undef) (m.getD i undef)
  | [], [], _, _ => by simpa using VRel.undef ρ
  | _ :: _, _ :: _, .cons h _, 0 => by simpa using h
  | _ :: _, _ :: _, .cons _ h, i + 1 => by simpa using VRels.undefs h i

theorem cell_ok {ρ : Rho} {h : T AObj} {nx : Nat} {w : World} (hR : Rel K ρ h nx w) {id : Nat} {i : Info} (hi : ρ id = some i) {t : T Value} {d n el lo hi' : Nat} {sl : Bool} (hg : h.get id = .cells t d n el lo hi' sl)
    {k : Nat} (hk : k < n) : ∃ u, w.cell? ⟨i.blk, i.dl + k, none⟩ = some u ∧ VRel ρ (t.get k) u := by
  have ho := hR.obj id i hi
  rw [hg] at ho
  obtain ⟨cs, fz, hc, _, _, h4, _⟩ := ho
  obtain ⟨u, hu, hv⟩ := h4 k hk
  exact ⟨u, by simp [World.cell?, hc, hu], hv⟩

theorem choose_list {α : Type} (p : Nat → α → Prop) : ∀ (n : Nat), (∀ k, k < n → ∃ u, p k u) → ∃ l : List α, l.length = n ∧ ∀ k u, l[k]? = some u → p k u := by
  intro n
  induction n generalizing p with
  | zero => intro _; exact ⟨[], rfl, by simp⟩
  | succ n ih =>
    intro h
    obtain ⟨u, hu⟩ := h 0 (by omega)
    obtain ⟨l, hl, hp⟩ := ih (fun k => p (k + 1)) (fun k hk => h (k + 1) (by omega))
    refine ⟨u :: l, by simp [hl], fun k v hk => ?_⟩
    cases k with
    | zero => simp at hk; subst hk; exact hu
    | succ k => simp at hk; exact hp k v hk

theorem loadCells_ok {ρ : Rho} {h : T AObj} {nx : Nat} {w : World} (hR : Rel K ρ h nx w) {id : Nat} {i : Info} (hi : ρ id = some i) {off n : Nat} {k : List Value → R} (hA : All Q (loadK h id off n k)) :
    ∃ cs us, VRels ρ cs us ∧ cs.length = n ∧ (loadCells ⟨i.blk, i.dl + off, none⟩ n).run P w = .ok ⟨us⟩ w ∧ (∀ j u, us[j]? = some u → w.cell? ⟨i.blk, i.dl + off + j, none⟩ = some u) ∧ All Q (k cs) := by
  rw [all_loadK] at hA
  rcases hA with ⟨rfl, hA⟩ | ⟨hn, t, d, sz, e, lo, hi', sl, hg, hb, hA⟩
  · exact ⟨[], [], .nil, rfl, rfl, by simp, hA⟩
  · obtain ⟨us, hl, hu⟩ := choose_list (fun k u => w.cell? ⟨i.blk, i.dl + off + k, none⟩ = some u ∧ VRel ρ (t.get (off + k)) u) n (fun k hk => by
      obtain ⟨u, h1, h2⟩ := cell_ok hR hi hg (k := off + k) (by omega)
      exact ⟨u, by rw [Nat.add_assoc]; exact h1, h2⟩)
    refine ⟨t.list n off, us, ?_, T.length_list _ _ _, ?_, fun j u hj => (hu j u hj).1, hA⟩
    · refine L2.of_get _ _ (by rw [T.length_list, hl]) fun j a b ha hb' => ?_
      rw [T.getElem?_list] at ha
      split at ha
      · cases ha; exact (hu j b hb').2
      · cases ha
    · have := run_loadCells_list (P := P) w ⟨i.blk, i.dl + off, none⟩ us (fun j v hj => by rw [addr_add]; exact (hu j v hj).1)
      rw [hl] at this
      exact this

theorem ok_load (hB : TabOk B P) (t : TypeId) (x : Operand) (ty : TypeId) : HOk K P (hLoad B t x) (ex (.load t x) ty) := HOk.same fun Q a e h nx k ρ act w hA hR hE => by
  unfold hLoad at hA
  obtain ⟨v, hv, hA'⟩ := evalK_ok hR.glob hE hA
  clear hA; have hA := hA'; clear hA'
  rw [all_onPtr] at hA
  obtain ⟨id, off, rfl, hA'⟩ := hA
  have hA := hA'; clear hA'
  rw [all_onRow] at hA
  obtain ⟨ht, d, n, z, sub, hrow, hA⟩ := hA
  generalize hu : act.eval x = u at hv
  cases hv with
  | ptr hi =>
    rename_i i
    rw [all_iteR] at hA
    rcases hA with ⟨hd, hA⟩ | ⟨hd, hA⟩
    · obtain ⟨cs, us, hr, _, hrun, _, hA⟩ := loadCells_ok (P := P) hR hi hA
      refine ⟨_, .agg ⟨us⟩, ?_, VRel.agg' hr, hA⟩
      show Sem.run P (vS (Instr.loadAt t (act.eval x))) w = _
      apply run_vS
      rw [hu]
      simp only [Instr.loadAt, Instr.sureAddr, loadVar, Sem.run_bind, run_isAgg hB ht hrow w, run_sizeOf hB ht hrow w, Result.andThen_ok, hd, if_true, hrun, Sem.run_pure]
    · rw [all_load1K] at hA
      obtain ⟨t', d', sz, el, lo, hi', sl, hg, hb, hA⟩ := hA
      obtain ⟨u, hc, hr⟩ := cell_ok hR hi hg hb
      refine ⟨_, u, ?_, hr, hA⟩
      show Sem.run P (vS (Instr.loadAt t (act.eval x))) w = _
      apply run_vS
      rw [hu]
      simp [Instr.loadAt, Instr.sureAddr, loadVar, Sem.run_bind, run_isAgg hB ht hrow w, hd, run_load, hc]

theorem ok_fieldAddr (hB : TabOk B P) (t : TypeId) (x : Operand) (f : Nat) (ty : TypeId) : HOk K P (hFieldAddr B t x f) (ex (.fieldAddr t x f) ty) := HOk.same fun Q a e h nx k ρ act w hA hR hE => by
  unfold hFieldAddr at hA
  obtain ⟨v, hv, hA'⟩ := evalK_ok hR.glob hE hA
  clear hA; have hA := hA'; clear hA'
  rw [all_onPtr] at hA
  obtain ⟨id, off, rfl, hA'⟩ := hA
  have hA := hA'; clear hA'
  rw [all_onRow] at hA
  obtain ⟨ht, d, n, z, sub, hrow, hA⟩ := hA
  generalize hu : act.eval x = u at hv
  split at hA
  · rename_i fs
    rw [all_onO] at hA
    obtain ⟨⟨o, s⟩, hs, hA⟩ := hA
    cases hv with
    | ptr hi =>
      rename_i i
      obtain ⟨hl, hf⟩ := hB.strct t fs n z sub ht hrow
      have hf' : f < fs.size := by
        rw [← hl]
        exact (List.getElem?_eq_some_iff.1 hs).1
      have hfe : fs[f]? = some fs[f] := by simp [hf']
      obtain ⟨j, hj1, hj2⟩ := hf f fs[f] hfe
      rw [hs] at hj2
      cases hj2
      have hA : All Q (iteR (Nat.beq j.size 0) (failR "field: no cells") (forceN (Nat.add off fs[f].offset) fun off => k (.pointer (some ⟨id, off, none⟩)) h nx)) := hA
      rw [all_iteR_fail', all_forceN] at hA
      obtain ⟨hs0, hA⟩ := hA
      refine ⟨_, .pointer (some ⟨i.blk, i.dl + (off + fs[f].offset), none⟩), ?_, .ptr hi, hA⟩
      show Sem.run P (vS (Instr.fieldAt t (act.eval x) f)) w = _
      apply run_vS
      rw [hu]
      have hne : ¬ j.size = 0 := by intro h0; rw [h0] at hs0; cases hs0
      have hsz : (sizeOf fs[f].type).run P w = .ok j.size w := by simp [sizeOf, typeInfo, hj1]
      simp only [Instr.fieldAt, Sem.run_bind, run_underlying hB ht hrow w, Result.andThen_ok, hfe, Instr.sureAddr, Sem.run_pure, fieldPlace, hsz, if_neg hne, addr_add, Nat.add_assoc]
  · simp at hA

theorem asIntOf_ix {ρ : Rho} {q : IntKind} {n : Nat} {u : Value} (h : VRel ρ (.int q (Int.ofNat n)) u) : u = .int q (n : Int) := VRel.atom rfl h

theorem ok_indexAddr (hB : TabOk B P) (t : TypeId) (x y : Operand) (ty : TypeId) : HOk K P (hIndexAddr B t x y) (ex (.indexAddr t x y) ty) := HOk.same fun Q a e h nx k ρ act w hA hR hE => by
  unfold hIndexAddr at hA
  obtain ⟨v, hv, hA'⟩ := evalK_ok hR.glob hE hA
  clear hA; have hA := hA'; clear hA'
  obtain ⟨iv, hiv, hA'⟩ := evalK_ok hR.glob hE hA
  clear hA; have hA := hA'; clear hA'
  rw [all_onIx] at hA
  obtain ⟨q, n, rfl, hA'⟩ := hA
  have hA := hA'; clear hA'
  have hix := asIntOf_ix hiv
  rw [all_onRow] at hA
  obtain ⟨ht, d, m, z, sub, hrow, hA⟩ := hA
  generalize hu : act.eval x = u at hv
  have hn0 : (0 : Int) ≤ (n : Int) := Int.natCast_nonneg n
  split at hA
  · rename_i len el o size rest
    rw [all_onPtr] at hA
    obtain ⟨id, off, rfl, hA'⟩ := hA
    have hA := hA'; clear hA'
    rw [all_iteR_fail, all_forceN, Nat.blt_eq] at hA
    obtain ⟨j, hj1, hj2⟩ := hB.array t len el m z _ ht hrow
    cases hj2
    cases hv with
    | ptr hi =>
      rename_i i
      refine ⟨_, .pointer (some ⟨i.blk, i.dl + (off + n * j.size), none⟩), ?_, .ptr hi, hA.2⟩
      show Sem.run P (vS (Instr.indexAt t (act.eval x) (act.eval y))) w = _
      apply run_vS
      rw [hu, hix]
      have hsz : (sizeOf el).run P w = .ok j.size w := by simp [sizeOf, typeInfo, hj1]
      have hc : (0 : Int) ≤ (n : Int) ∧ (n : Int) < (len : Int) := ⟨hn0, by have := hA.1; omega⟩
      simp only [Instr.indexAt, Sem.run_bind, run_underlying hB ht hrow w, Result.andThen_ok, asIntOf, Instr.sureAddr, Sem.run_pure, if_pos hc, hsz, addr_add, Int.toNat_natCast, Nat.add_assoc]
  · rename_i el o size rest
    rw [all_onSlice] at hA
    obtain ⟨b, len, c, rfl, hA'⟩ := hA
    have hA := hA'; clear hA'
    obtain ⟨j, hj1, hj2⟩ := hB.slice t el m z _ ht hrow
    cases hj2
    have hsz : (sizeOf el).run P w = .ok j.size w := by simp [sizeOf, typeInfo, hj1]
    split at hA
    · simp at hA
    · rename_i id off sp hsp
      rw [all_iteR_fail, all_forceN, Nat.blt_eq] at hA
      have hc : (0 : Int) ≤ (n : Int) ∧ (n : Int) < (len : Int) := ⟨hn0, by have := hA.1; omega⟩
      cases hv with
      | slice hi =>
        rename_i i
        refine ⟨_, .pointer (some ⟨i.blk, i.dl + (off + n * j.size), none⟩), ?_, .ptr hi, hA.2⟩
        show Sem.run P (vS (Instr.indexAt t (act.eval x) (act.eval y))) w = _
        apply run_vS
        rw [hu, hix]
        simp only [Instr.indexAt, Sem.run_bind, run_underlying hB ht hrow w, Result.andThen_ok, asIntOf, Instr.sureAddr, Sem.run_pure, if_pos hc, hsz, addr_add, Int.toNat_natCast, Nat.add_assoc]
      | slice0 hi =>
        rename_i i
        refine ⟨_, .pointer (some ⟨i.blk, i.dl + (off + n * j.size), none⟩), ?_, .ptr hi, hA.2⟩
        show Sem.run P (vS (Instr.indexAt t (act.eval x) (act.eval y))) w = _
        apply run_vS
        rw [hu, hix]
        simp only [Instr.indexAt, Sem.run_bind, run_underlying hB ht hrow w, Result.andThen_ok, asIntOf, Instr.sureAddr, Sem.run_pure, if_pos hc, hsz, addr_add, Int.toNat_natCast, Nat.add_assoc]
      | slice1 o c hi => exact (hsp rfl).elim
    · simp at hA
  · simp at hA

theorem run_part (hB : TabOk B P) {ρ : Rho} {t : TypeId} {cs us : List Value} (hr : VRels ρ cs us) {off : Nat} {k : Value → R} (w : World) (hA : All Q (partK B t cs off k)) :
    ∃ v u, (part t ⟨us⟩ off).run P w = .ok u w ∧ VRel ρ v u ∧ All Q (k v) := by
  unfold partK at hA
  rw [all_onRow] at hA
  obtain ⟨ht, d, n, z, sub, hrow, hA⟩ := hA
  rw [all_iteR] at hA
  rcases hA with ⟨hd, hA⟩ | ⟨hd, hA⟩
  · rw [all_iteR_fail] at hA
    refine ⟨_, .agg ⟨(us.drop off).take n⟩, ?_, VRel.agg' ((hr.drop off).take n), hA.2⟩
    simp only [part, Sem.run_bind, run_isAgg hB ht hrow w, run_sizeOf hB ht hrow w, Result.andThen_ok, hd, if_true, Sem.run_pure]
    congr 2
    apply Array.ext'
    simp
  · rw [all_onO] at hA
    obtain ⟨v, hv, hA⟩ := hA
    obtain ⟨u, hu, hvu⟩ := hr.get off v hv
    have hu' : (⟨us⟩ : Array Value)[off]? = some u := by simpa using hu
    refine ⟨v, u, ?_, hvu, hA⟩
    simp [part, run_isAgg hB ht hrow w, hd, hu']

theorem ok_field (hB : TabOk B P) (t : TypeId) (x : Operand) (f : Nat) (ty : TypeId) : HOk K P (hField B t x f) (ex (.field t x f) ty) := HOk.same fun Q a e h nx k ρ act w hA hR hE => by
  unfold hField at hA
  obtain ⟨v, hv, hA'⟩ := evalK_ok hR.glob hE hA
  clear hA; have hA := hA'; clear hA'
  rw [all_onAgg] at hA
  obtain ⟨cs, rfl, hA'⟩ := hA
  have hA := hA'; clear hA'
  rw [all_onRow] at hA
  obtain ⟨ht, d, n, z, sub, hrow, hA⟩ := hA
  obtain ⟨us, hu, hr⟩ := VRel.inv_agg hv
  split at hA
  · rename_i fs
    rw [all_onO] at hA
    obtain ⟨fd, hfd, hA⟩ := hA
    obtain ⟨v, u, h1, h2, h3⟩ := run_part hB hr w hA
    refine ⟨v, u, ?_, h2, h3⟩
    show Sem.run P (vS (Instr.field t (act.eval x) f)) w = _
    apply run_vS
    rw [hu]
    simp only [Instr.field, Sem.run_bind, run_underlying hB ht hrow w, Result.andThen_ok, hfd, asAgg, Sem.run_pure, h1]
  · simp at hA

theorem ok_index (hB : TabOk B P) (t : TypeId) (x y : Operand) (ty : TypeId) : HOk K P (hIndex B t x y) (ex (.index t x y) ty) := HOk.same fun Q a e h nx k ρ act w hA hR hE => by
  unfold hIndex at hA
  obtain ⟨v, hv, hA'⟩ := evalK_ok hR.glob hE hA
  clear hA; have hA := hA'; clear hA'
  obtain ⟨iv, hiv, hA'⟩ := evalK_ok hR.glob hE hA
  clear hA; have hA := hA'; clear hA'
  rw [all_onIx] at hA
  obtain ⟨q, n, rfl, hA'⟩ := hA
  have hA := hA'; clear hA'
  have hix := asIntOf_ix hiv
  rw [all_onRow] at hA
  obtain ⟨ht, d, m, z, sub, hrow, hA⟩ := hA
  have hn0 : (0 : Int) ≤ (n : Int) := Int.natCast_nonneg n
  split at hA
  · rename_i len el o size rest
    rw [all_onAgg] at hA
    obtain ⟨cs, rfl, hA'⟩ := hA
    have hA := hA'; clear hA'
    rw [all_iteR_fail, Nat.blt_eq] at hA
    obtain ⟨us, hu, hr⟩ := VRel.inv_agg hv
    obtain ⟨j, hj1, hj2⟩ := hB.array t len el m z _ ht hrow
    cases hj2
    have hsz : (sizeOf el).run P w = .ok j.size w := by simp [sizeOf, typeInfo, hj1]
    obtain ⟨v, u, h1, h2, h3⟩ := run_part hB hr w hA.2
    refine ⟨v, u, ?_, h2, h3⟩
    show Sem.run P (vS (Instr.index t (act.eval x) (act.eval y))) w = _
    apply run_vS
    rw [hu, hix]
    have hc : (0 : Int) ≤ (n : Int) ∧ (n : Int) < (len : Int) := ⟨hn0, by have := hA.1; omega⟩
    have h1' : Sem.run P (part el { toList := us } (n * j.size)) w = Result.ok u w := h1
    simp only [Instr.index, Sem.run_bind, run_underlying hB ht hrow w, Result.andThen_ok, asIntOf, Sem.run_pure, if_pos hc, hsz, Int.toNat_natCast, h1']
  · rw [all_onStr] at hA
    obtain ⟨s, rfl, hA'⟩ := hA
    have hA := hA'; clear hA'
    rw [all_onO] at hA
    obtain ⟨c, hc, hA⟩ := hA
    have hu : act.eval x = .string s := VRel.atom rfl hv
    refine ⟨_, _, ?_, .int .u8 _, hA⟩
    show Sem.run P (vS (Instr.index t (act.eval x) (act.eval y))) w = _
    apply run_vS
    rw [hu, hix]
    have hs : s[n]? = some c := by
      have hlt : n < s.data.toList.length := (List.getElem?_eq_some_iff.1 hc).1
      have hlt' : n < s.size := hlt
      rw [getElem?_pos s n hlt']
      rw [List.getElem?_eq_getElem hlt] at hc
      cases hc
      rfl
    simp only [Instr.index, Sem.run_bind, run_underlying hB ht hrow w, Result.andThen_ok, asIntOf, Sem.run_pure, hn0, if_true, Int.toNat_natCast, hs]
    rfl
  · simp at hA
end Go.Ev

namespace Go.Ev
open Go Go.RowKit
variable {Q : Out → Prop} {K : Ctx} {P : Program} {B : Tab}

theorem ltK_iff (x y : Int) : (ltK x y = true) ↔ x < y := by rw [ltK_eq]; simp

theorem run_getObj_at {w : World} {r : Nat} {o : Obj} (h : w.heap[r]? = some o) (hn : ∀ cs el fz, o ≠ .cells cs el fz) : (getObj r).run P w = .ok o w := by
  cases o <;> first | (exact absurd rfl (hn _ _ _)) | simp [getObj, Sem.run, h]

theorem call_builtin {c : Call} {b : Builtin} (hc : c.callee = .builtin b) (ty : TypeId) (ρ : Operand → Value) :
    ex (.call c) ty ρ = builtin b c.argTypes ty (c.args.map fun | .const _ => true | _ => false) (c.args.map ρ) := by
  show (do let d ← resolve ρ c ty; invoke d.target d.args) = _
  unfold resolve
  rw [hc]
  rfl

theorem ok_len (hB : TabOk B P) (c : Call) (hc : c.callee = .builtin .len) (ty : TypeId) : HOk K P (bLen B c) (ex (.call c) ty) := HOk.same fun Q a e h nx k ρ act w hA hR hE => by
  rw [call_builtin hc]
  unfold bLen at hA
  split at hA
  · rename_i x xs t ts hargs htys
    obtain ⟨v, hv, hA'⟩ := evalK_ok hR.glob hE hA
    clear hA; have hA := hA'; clear hA'
    rw [all_onRow] at hA
    obtain ⟨ht, d, n, z, sub, hrow, hA⟩ := hA
    have h0 : c.argTypes[0]? = some t := by rw [← Array.getElem?_toList, htys]; rfl
    have h1 : (c.args.map act.eval)[0]? = some (act.eval x) := by rw [← Array.getElem?_toList, Array.toList_map, hargs]; rfl
    have goal : ∀ (v' : Value) (m : Nat), (Builtin.len_ c.argTypes ty (c.args.map act.eval)).run P w = .ok (.int .i64 (m : Int)) w → VRel ρ v' (.int .i64 (m : Int)) → All Q (k v' h nx) →
        ∃ v u, (vS (Builtin.len_ c.argTypes ty (c.args.map act.eval))).run P w = .ok (.value u) w ∧ VRel ρ v u ∧ All Q (k v h nx) := fun v' m h1 h2 h3 => ⟨v', _, run_vS h1, h2, h3⟩
    have hrun := run_underlying hB ht hrow w
    generalize hu : act.eval x = u at hv
    rw [hu] at h1
    split at hA
    · rw [all_forceN] at hA
      cases hv
      refine goal _ _ ?_ (.int _ _) hA
      simp [Builtin.len_, h0, h1, hrun, goInt]
    · rw [all_forceN] at hA
      cases hv <;> refine goal _ _ ?_ (.int _ _) hA <;> simp [Builtin.len_, h0, h1, hrun, goInt]
    · cases hv
      refine goal _ 0 ?_ (.int _ _) hA
      simp [Builtin.len_, h0, h1, hrun, goInt]
    · rename_i id
      rw [all_onMapObj] at hA
      obtain ⟨es, clock, hg, hA⟩ := hA
      rw [all_forceN] at hA
      cases hv with
      | map hi =>
        rename_i i
        have ho := hR.obj _ _ hi
        rw [hg] at ho
        obtain ⟨ces, hc1, hc2, _⟩ := ho
        refine goal _ ces.size ?_ (by rw [hc2.length, Array.length_toList]; exact .int _ _) hA
        simp [Builtin.len_, h0, h1, hrun, goInt, run_getObj_at hc1 (by intros; simp)]
    · simp at hA
  · simp at hA

theorem ok_cap (hB : TabOk B P) (c : Call) (hc : c.callee = .builtin .cap) (ty : TypeId) : HOk K P (bCap B c) (ex (.call c) ty) := HOk.same fun Q a e h nx k ρ act w hA hR hE => by
  rw [call_builtin hc]
  unfold bCap at hA
  split at hA
  · rename_i x xs t ts hargs htys
    obtain ⟨v, hv, hA'⟩ := evalK_ok hR.glob hE hA
    clear hA; have hA := hA'; clear hA'
    rw [all_onRow] at hA
    obtain ⟨ht, d, n, z, sub, hrow, hA⟩ := hA
    have h0 : c.argTypes[0]? = some t := by rw [← Array.getElem?_toList, htys]; rfl
    have h1 : (c.args.map act.eval)[0]? = some (act.eval x) := by rw [← Array.getElem?_toList, Array.toList_map, hargs]; rfl
    have hrun := run_underlying hB ht hrow w
    generalize hu : act.eval x = u at hv
    rw [hu] at h1
    split at hA
    · cases hv
      refine ⟨_, _, run_vS (s := Builtin.cap_ c.argTypes ty (c.args.map act.eval)) (u := .int .i64 _) ?_, .int _ _, hA⟩
      simp [Builtin.cap_, h0, h1, hrun, goInt]
    · simp at hA
  · simp at hA

theorem ok_min (c : Call) (hc : c.callee = .builtin .min) (ty : TypeId) : HOk K P (bMin c) (ex (.call c) ty) := HOk.same fun Q a e h nx k ρ act w hA hR hE => by
  rw [call_builtin hc]
  unfold bMin at hA
  split at hA
  · rename_i x y hargs
    obtain ⟨v, hv, hA'⟩ := evalK_ok hR.glob hE hA
    obtain ⟨u, hu, hA''⟩ := evalK_ok hR.glob hE hA'
    rw [all_onInt] at hA''
    obtain ⟨q, i, rfl, h2⟩ := hA''
    rw [all_onInt] at h2
    obtain ⟨q', j, rfl, h3⟩ := h2
    have e1 : act.eval x = .int q i := VRel.atom rfl hv
    have e2 : act.eval y = .int q' j := VRel.atom rfl hu
    refine ⟨_, _, run_vS (s := Builtin.min_ c.argTypes ty (c.args.map act.eval)) (u := .int q (if ltK j i then j else i)) ?_, .int _ _, h3⟩
    simp [Builtin.min_, Array.toList_map, hargs, e1, e2, Builtin.min2, List.foldlM, ltK_iff]
  · simp at hA

theorem ok_max (c : Call) (hc : c.callee = .builtin .max) (ty : TypeId) : HOk K P (bMax c) (ex (.call c) ty) := HOk.same fun Q a e h nx k ρ act w hA hR hE => by
  rw [call_builtin hc]
  unfold bMax at hA
  split at hA
  · rename_i x y hargs
    obtain ⟨v, hv, hA'⟩ := evalK_ok hR.glob hE hA
    obtain ⟨u, hu, hA''⟩ := evalK_ok hR.glob hE hA'
    rw [all_onInt] at hA''
    obtain ⟨q, i, rfl, h2⟩ := hA''
    rw [all_onInt] at h2
    obtain ⟨q', j, rfl, h3⟩ := h2
    have e1 : act.eval x = .int q i := VRel.atom rfl hv
    have e2 : act.eval y = .int q' j := VRel.atom rfl hu
    refine ⟨_, _, run_vS (s := Builtin.max_ c.argTypes ty (c.args.map act.eval)) (u := .int q (if ltK i j then j else i)) ?_, .int _ _, h3⟩
    simp [Builtin.max_, Array.toList_map, hargs, e1, e2, Builtin.max2, List.foldlM, ltK_iff]
  · simp at hA

theorem ok_sliceData (c : Call) (hc : c.callee = .builtin .unsafeSliceData) (ty : TypeId) : HOk K P (bSliceData c) (ex (.call c) ty) := HOk.same fun Q a e h nx k ρ act w hA hR hE => by
  rw [call_builtin hc]
  unfold bSliceData at hA
  split at hA
  · rename_i x hargs
    obtain ⟨v, hv, hA'⟩ := evalK_ok hR.glob hE hA
    clear hA; have hA := hA'; clear hA'
    have h1 : c.args.map act.eval = #[act.eval x] := by apply Array.ext'; simp [hargs]
    generalize hu : act.eval x = u at hv h1
    have go : ∀ (v' p' : Value), (Builtin.unsafeSliceData_ c.argTypes ty (c.args.map act.eval)).run P w = .ok p' w → VRel ρ v' p' → All Q (k v' h nx) →
        ∃ v u, (vS (Builtin.unsafeSliceData_ c.argTypes ty (c.args.map act.eval))).run P w = .ok (.value u) w ∧ VRel ρ v u ∧ All Q (k v h nx) := fun v' p' h1 h2 h3 => ⟨v', _, run_vS h1, h2, h3⟩
    split at hA
    · simp at hA
    · rename_i id off sp len c' hsp
      have key : ∀ (ad : Addr) (l m : Nat), m ≠ 0 → (Builtin.unsafeSliceData_ c.argTypes ty #[.slice (some ad) l m]).run P w = .ok (.pointer (some ad)) w := fun ad l m hm => by
        show (if m ≠ 0 then pure (.pointer (some ad)) else _ : Sem Value).run P w = _
        rw [if_pos hm]; rfl
      cases hv with
      | slice hi =>
        refine go _ _ ?_ (.ptr hi) hA
        rw [h1]; exact key _ _ _ (by omega)
      | slice0 hi =>
        refine go _ _ ?_ (.ptr hi) hA
        rw [h1]; exact key _ _ _ (by omega)
    · cases hv
      refine go _ _ ?_ .nilPtr hA
      rw [h1]; rfl
    · simp at hA
  · simp at hA
end Go.Ev

namespace Go.Ev
open Go Go.RowKit
variable {Q : Out → Prop} {K : Ctx} {P : Program} {B : Tab}

inductive OV (ρ : Rho) : Option Value → Option Value → Prop
  | none : OV ρ none none
  | some {v u} : VRel ρ v u → OV ρ (some v) (some u)

theorem evalOpt_ok {ρ : Rho} (hg : ∀ g, g < 10 → ρ g = some ⟨g, 0, 0⟩) {n : Nat} {e : T Value} {act : Act} (he : ERel ρ n e act.tmps) {o : Option Operand} {k : Option Value → R} (h : All Q (evalOptK n e o k)) :
    ∃ v, OV ρ v (o.map act.eval) ∧ All Q (k v) := by
  rcases evalOptK_ok hg he h with ⟨rfl, h⟩ | ⟨x, v, rfl, hv, h⟩
  · exact ⟨_, .none, h⟩
  · exact ⟨_, .some hv, h⟩

/-- a bound, as it is -/
def IsBound (v : Option Value) (most dflt n : Nat) : Prop := (v = none ∧ n = dflt) ∨ (∃ q : IntKind, v = some (.int q (n : Int)) ∧ n ≤ most)
theorem bound_ok {ρ : Rho} {v u : Option Value} (h : OV ρ v u) {most dflt : Nat} {k : Nat → R} (hA : All Q (boundK v most dflt k)) : ∃ n, IsBound u most dflt n ∧ v.isSome = u.isSome ∧ All Q (k n) := by
  cases h with
  | none => exact ⟨dflt, .inl ⟨rfl, rfl⟩, rfl, hA⟩
  | some h =>
    rename_i v u
    have hA' : All Q (onIx v fun i => iteR (Nat.ble i most) (k i) (failR "bound")) := hA
    clear hA
    rw [all_onIx] at hA'
    obtain ⟨q, n, rfl, hA⟩ := hA'
    rw [all_iteR_fail, Nat.ble_eq] at hA
    refine ⟨n, .inr ⟨q, by rw [VRel.atom rfl h]; rfl, hA.1⟩, rfl, hA.2⟩

theorem run_sliceBound {q : IntKind} {n y : Nat} (h : n ≤ y) (code : BoundsCode) (w : World) : (Instr.sliceBound (.int q (n : Int)) y code).run P w = .ok n w := by
  have : (0 : Int) ≤ (n : Int) ∧ (n : Int) ≤ (y : Int) := by omega
  simp [Instr.sliceBound, asIntOf, this]

theorem run_sliceBounds (isSl : Bool) {len cap : Nat} {lo hi mx : Option Value} {l u m : Nat} (hm : IsBound mx cap cap m) (hu : IsBound hi (if mx.isSome then m else cap) len u) (hl : IsBound lo u 0 l)
    (h : hi.isSome = true ∨ mx.isNone = true) (w : World) : (Instr.sliceBounds isSl len cap lo hi mx).run P w = .ok (l, u, m) w := by
  rcases hm with ⟨rfl, rfl⟩ | ⟨q, rfl, hm⟩
  · rcases hu with ⟨rfl, rfl⟩ | ⟨q', rfl, hu⟩
    · rcases hl with ⟨rfl, rfl⟩ | ⟨q', rfl, hl⟩
      · simp [Instr.sliceBounds]
      · simp [Instr.sliceBounds, run_sliceBound hl]
    · have hu : u ≤ m := hu
      rcases hl with ⟨rfl, rfl⟩ | ⟨q', rfl, hl⟩
      · simp [Instr.sliceBounds, run_sliceBound hu]
      · simp [Instr.sliceBounds, run_sliceBound hu, run_sliceBound hl]
  · rcases hu with ⟨rfl, rfl⟩ | ⟨q', rfl, hu⟩
    · simp at h
    · have hu : u ≤ m := hu
      rcases hl with ⟨rfl, rfl⟩ | ⟨q', rfl, hl⟩
      · simp [Instr.sliceBounds, run_sliceBound hm, run_sliceBound hu]
      · simp [Instr.sliceBounds, run_sliceBound hm, run_sliceBound hu, run_sliceBound hl]

theorem IsBound.wider {v : Option Value} {most most' dflt n : Nat} (h : IsBound v most dflt n) (hm : most ≤ most') : IsBound v most' dflt n := by
  rcases h with h | ⟨q, h1, h2⟩
  · exact .inl h
  · exact .inr ⟨q, h1, by omega⟩

theorem sliceAt_slice (hB : TabOk B P) {t el : TypeId} {d n z sub} (ht : t < 1024) (hrow : B.ty.get t = .row d n z sub) (hd : d = .slice el) {j : TypeInfo} (hj : P.info? el = some j) {a : Option Addr} {len cap : Nat}
    {lo hi mx : Option Value} {l u m : Nat} (hm : IsBound mx cap cap m) (hu : IsBound hi (if mx.isSome then m else cap) len u) (hl : IsBound lo u 0 l) (h : hi.isSome = true ∨ mx.isNone = true) (w : World) :
    (Instr.sliceAt t (.slice a len cap) lo hi mx).run P w = .ok (.slice (if m = l then a else a.map (·.add (l * j.size))) (u - l) (m - l)) w := by
  subst hd
  have hsz : (sizeOf el).run P w = .ok j.size w := by simp [sizeOf, typeInfo, hj]
  have hr := run_underlying hB ht hrow w
  simp only [Instr.sliceAt, Instr.slice, Sem.run_bind, hr, Result.andThen_ok, run_sliceBounds true hm hu hl h w, hsz, Sem.run_pure]

theorem cut_ok {ρ : Rho} {h : T AObj} {nx : Nat} {w : World} (hR : Rel K ρ h nx w) {a : Option Addr} {len cap : Nat} {uv : Value} (hv : VRel ρ (.slice a len cap) uv) {lo hi mx : Option Value} {l u m size : Nat}
    (hm : IsBound mx cap cap m) (hu : IsBound hi (if mx.isSome then m else cap) len u) (hl : IsBound lo u 0 l) (hum : u ≤ m) {v : Value} (hcut : cutAt h a size l u m mx.isSome = some v) :
    ∃ a' cap' m', uv = .slice a' len cap' ∧ IsBound mx cap' cap' m' ∧ IsBound hi (if mx.isSome then m' else cap') len u ∧
      VRel ρ v (.slice (if m' = l then a' else a'.map (·.add (l * size))) (u - l) (m' - l)) := by
  have hlu : l ≤ u := by rcases hl with ⟨_, rfl⟩ | ⟨_, _, h⟩ <;> omega
  have hsame : ∀ (a' : Option Addr), uv = .slice a' len cap → VRel ρ v (.slice (if m = l then a' else a'.map (·.add (l * size))) (u - l) (m - l)) →
      ∃ a' cap' m', uv = .slice a' len cap' ∧ IsBound mx cap' cap' m' ∧ IsBound hi (if mx.isSome then m' else cap') len u ∧
      VRel ρ v (.slice (if m' = l then a' else a'.map (·.add (l * size))) (u - l) (m' - l)) := fun a' h1 h2 => ⟨a', cap, m, h1, hm, hu, h2⟩
  cases hv with
  | nilSlice =>
    refine hsame none rfl ?_
    simp only [cutAt, Option.some.injEq] at hcut
    subst hcut
    simp only [Option.map_none, ite_self]
    exact .nilSlice _ _
  | slice hi' =>
    rename_i id off i
    simp only [cutAt] at hcut
    rcases hm with ⟨rfl, rfl⟩ | ⟨q, rfl, hm⟩
    · -- the capacity is the block's end
      refine ⟨_, m + i.sl, m + i.sl, rfl, .inl ⟨rfl, rfl⟩, hu.wider (by simp), ?_⟩
      simp only [Option.isSome_none, Bool.false_eq_true, if_false] at hcut
      by_cases hml : m = l
      · subst hml
        have e : u - m = 0 := by omega
        rw [if_pos (Nat.beq_refl m)] at hcut
        by_cases h0 : m = 0
        · subst h0
          simp only [Nat.beq_refl, Bool.true_or, if_true, Option.some.injEq] at hcut
          subst hcut
          have e2 : (if 0 + i.sl = 0 then some (⟨i.blk, i.dl + off, none⟩ : Addr) else (some (⟨i.blk, i.dl + off, none⟩ : Addr)).map (·.add (0 * size))) = some ⟨i.blk, i.dl + off, none⟩ := by
            split
            · rfl
            · simp [addr_add]
          rw [e2]
          have hu0 : u = 0 := by omega
          subst hu0
          simp only [Nat.sub_zero]
          exact .slice hi'
        · have hb : Nat.beq m 0 = false := by
            cases hq : Nat.beq m 0 with
            | false => rfl
            | true => exact absurd (Nat.eq_of_beq_eq_true hq) h0
          rw [hb] at hcut
          cases hs : blockSl h id with
          | false =>
            rw [hs] at hcut
            simp only [Bool.not_false, Bool.or_true, if_true, Option.some.injEq] at hcut
            subst hcut
            have : i.sl = 0 := by
              have ho := hR.obj id i hi'
              unfold blockSl at hs
              split at hs
              · rename_i hg
                rw [hg] at ho
                obtain ⟨_, _, _, _, _, _, _, h6, _⟩ := ho
                exact (h6 hs).2.1
              · cases hs
            rw [if_pos (by omega)]
            have hq := VRel.slice (l := u - m) (c := m - m) (off := off) hi'
            rw [show m - m + i.sl = m + i.sl - m by omega] at hq
            exact hq
          | true =>
            rw [hs] at hcut
            simp only [Bool.not_true, Bool.or_false, Bool.false_eq_true, if_false, Option.some.injEq] at hcut
            subst hcut
            rw [e]
            split
            · exact .slice1 _ _ hi'
            · simp only [Option.map_some, addr_add]
              exact .slice1 _ _ hi'
      · have hb : Nat.beq m l = false := by
          cases hq : Nat.beq m l with
          | false => rfl
          | true => exact absurd (Nat.eq_of_beq_eq_true hq) hml
        rw [hb] at hcut
        simp only [Bool.false_eq_true, if_false, Option.some.injEq] at hcut
        subst hcut
        rw [if_neg (by omega)]
        simp only [Option.map_some, addr_add]
        have hq := VRel.slice (l := u - l) (c := m - l) (off := off + l * size) hi'
        rw [show m - l + i.sl = m + i.sl - l by omega, ← Nat.add_assoc] at hq
        exact hq
    · refine ⟨_, cap + i.sl, m, rfl, .inr ⟨q, rfl, by omega⟩, hu, ?_⟩
      simp only [Option.isSome_some, if_true, Bool.or_true, Bool.true_or] at hcut
      by_cases hml : m = l
      · subst hml
        rw [if_pos (Nat.beq_refl m)] at hcut
        simp only [Option.some.injEq] at hcut
        subst hcut
        rw [if_pos rfl]
        exact .slice0 hi'
      · have hb : Nat.beq m l = false := by
          cases hq : Nat.beq m l with
          | false => rfl
          | true => exact absurd (Nat.eq_of_beq_eq_true hq) hml
        rw [hb] at hcut
        simp only [Bool.false_eq_true, if_false, Option.some.injEq] at hcut
        subst hcut
        rw [if_neg (by omega)]
        simp only [Option.map_some, addr_add]
        have hq := VRel.slice0 (l := u - l) (c := m - l) (off := off + l * size) hi'
        rw [← Nat.add_assoc] at hq
        exact hq
  | slice0 hi' =>
    rename_i id off i
    refine hsame _ rfl ?_
    simp only [cutAt, ite_self, Option.isSome_some, Bool.or_true, Bool.true_or, if_true] at hcut
    by_cases hml : m = l
    · subst hml
      rw [if_pos (Nat.beq_refl m)] at hcut
      simp only [Option.some.injEq] at hcut
      subst hcut
      rw [if_pos rfl]
      exact .slice0 hi'
    · have hb : Nat.beq m l = false := by
        cases hq : Nat.beq m l with
        | false => rfl
        | true => exact absurd (Nat.eq_of_beq_eq_true hq) hml
      rw [hb] at hcut
      simp only [Bool.false_eq_true, if_false, Option.some.injEq] at hcut
      subst hcut
      rw [if_neg (by omega)]
      simp only [Option.map_some, addr_add]
      have hq := VRel.slice0 (l := u - l) (c := m - l) (off := off + l * size) hi'
      rw [← Nat.add_assoc] at hq
      exact hq
  | slice1 off' c' hi' =>
    rename_i id off i
    simp only [cutAt] at hcut
    split at hcut
    · rename_i hc
      simp only [Bool.and_eq_true, Bool.not_eq_true'] at hc
      obtain ⟨⟨hu0, hl0⟩, h3⟩ := hc
      have hu0 := Nat.eq_of_beq_eq_true hu0
      have hl0 := Nat.eq_of_beq_eq_true hl0
      subst hu0 hl0
      have hmx : mx = none := by cases mx <;> simp_all
      subst hmx
      simp only [Option.some.injEq] at hcut
      subst hcut
      refine ⟨_, c', c', rfl, .inl ⟨rfl, rfl⟩, hu.wider (by simp), ?_⟩
      split
      · exact .slice1 _ _ hi'
      · simp only [Option.map_some, addr_add]
        exact .slice1 _ _ hi'
    · cases hcut

theorem ok_slice (hB : TabOk B P) (t : TypeId) (x : Operand) (lo hi mx : Option Operand) (ty : TypeId) : HOk K P (hSlice B t x lo hi mx) (ex (.slice t x lo hi mx) ty) := HOk.same fun Q a e h nx k ρ act w hA hR hE => by
  unfold hSlice at hA
  obtain ⟨v, hv, hA1⟩ := evalK_ok hR.glob hE hA
  obtain ⟨lov, hlo, hA2⟩ := evalOpt_ok hR.glob hE hA1
  obtain ⟨hiv, hhi, hA3⟩ := evalOpt_ok hR.glob hE hA2
  obtain ⟨mxv, hmx, hA4⟩ := evalOpt_ok hR.glob hE hA3
  clear hA hA1 hA2 hA3
  rw [all_onRow] at hA4
  obtain ⟨ht, d, n, z, sub, hrow, hA⟩ := hA4
  generalize hu : act.eval x = u at hv
  generalize hloc : lo.map act.eval = loc at hlo
  generalize hhic : hi.map act.eval = hic at hhi
  generalize hmxc : mx.map act.eval = mxc at hmx
  have eqs : ex (.slice t x lo hi mx) ty act.eval = vS (Instr.sliceAt t u loc hic mxc) := by subst hu hloc hhic hmxc; rfl
  rw [eqs]
  have hrun := run_underlying hB ht hrow w
  unfold sliceV at hA
  split at hA
  · -- a string
    rw [all_onStr] at hA
    obtain ⟨s, rfl, hA'⟩ := hA
    rw [all_iteR_fail'] at hA'
    obtain ⟨hm0, hA⟩ := hA'
    have hmx0 : mxv = none := by cases mxv <;> simp_all
    subst hmx0
    cases hmx
    obtain rfl : u = .string s := VRel.atom rfl hv
    unfold sliceStr at hA
    obtain ⟨uu, hu1, _, hA'⟩ := bound_ok hhi hA
    obtain ⟨l, hl1, _, hA''⟩ := bound_ok hlo hA'
    refine ⟨_, _, run_vS (u := .string (s.extract l uu)) ?_, .string _, hA''⟩
    have hb := run_sliceBounds (P := P) false (cap := s.size) (mx := none) (m := s.size) (.inl ⟨rfl, rfl⟩) (hi := hic) (len := s.size) (u := uu) hu1 hl1 (by simp) w
    simp only [Instr.sliceAt, Instr.slice, Sem.run_bind, hrun, Result.andThen_ok, Option.isSome_none, Bool.false_eq_true, if_false, Sem.run_pure]
    simp [hb]
  · -- a slice
    rename_i el o size rest
    rw [all_onSlice] at hA
    obtain ⟨a', len, cap, rfl, hA'⟩ := hA
    obtain ⟨j, hj1, hj2⟩ := hB.slice t el n z _ ht hrow
    cases hj2
    unfold sliceSl at hA'
    obtain ⟨m, hm1, hms, hA1⟩ := bound_ok hmx hA'
    obtain ⟨uu, hu1, hus, hA2⟩ := bound_ok hhi hA1
    obtain ⟨l, hl1, _, hA3⟩ := bound_ok hlo hA2
    rw [all_iteR_fail, all_onO] at hA3
    obtain ⟨hc, v, hcut, hA4⟩ := hA3
    simp only [Bool.and_eq_true, Nat.ble_eq, Bool.or_eq_true] at hc
    rw [hms] at hu1 hcut
    obtain ⟨ac, capc, m', rfl, hm2, hu2, hrel⟩ := cut_ok hR hv (lo := loc) (hi := hic) (mx := mxc) (size := j.size) hm1 hu1 hl1 hc.1 hcut
    refine ⟨_, _, run_vS (sliceAt_slice hB ht hrow rfl hj1 hm2 hu2 hl1 ?_ w), hrel, hA4⟩
    have hmn : mxv.isNone = mxc.isNone := by cases hmx <;> rfl
    rw [← hus, ← hmn]
    exact hc.2
  · -- an array
    rename_i len el o size rest
    rw [all_onPtr] at hA
    obtain ⟨id, off, rfl, hA'⟩ := hA
    rw [all_iteR_fail'] at hA'
    obtain ⟨hm0, hA⟩ := hA'
    have hmx0 : mxv = none := by cases mxv <;> simp_all
    subst hmx0
    cases hmx
    obtain ⟨j, hj1, hj2⟩ := hB.array t len el n z _ ht hrow
    cases hj2
    have hsz : (sizeOf el).run P w = .ok j.size w := by simp [sizeOf, typeInfo, hj1]
    cases hv with
    | ptr hi' =>
      rename_i i
      unfold sliceArr at hA
      obtain ⟨uu, hu1, _, hA'⟩ := bound_ok hhi hA
      obtain ⟨l, hl1, _, hA''⟩ := bound_ok hlo hA'
      have hb := run_sliceBounds (P := P) false (cap := len) (mx := none) (m := len) (.inl ⟨rfl, rfl⟩) (hi := hic) (len := len) (u := uu) hu1 hl1 (by simp) w
      refine ⟨_, _, run_vS (u := .slice (some (if len = l then ⟨i.blk, i.dl + off, none⟩ else (⟨i.blk, i.dl + off, none⟩ : Addr).add (l * j.size))) (uu - l) (len - l)) ?_, ?_, hA''⟩
      · simp only [Instr.sliceAt, Sem.run_bind, hrun, Result.andThen_ok, Instr.sureAddr, Sem.run_pure, hb, hsz]
      · cases hq : Nat.beq len l with
        | true =>
          have := Nat.eq_of_beq_eq_true hq
          subst this
          have e : (if len = len then (⟨i.blk, i.dl + off, none⟩ : Addr) else (⟨i.blk, i.dl + off, none⟩ : Addr).add (len * j.size)) = ⟨i.blk, i.dl + off, none⟩ := if_pos rfl
          rw [e]
          exact .slice0 hi'
        | false =>
          have hne : ¬ len = l := by intro h; subst h; rw [Nat.beq_refl] at hq; cases hq
          rw [if_neg hne, addr_add, Nat.add_assoc]
          exact .slice0 hi'
  · simp at hA
end Go.Ev

namespace Go.Ev
open Go Go.RowKit
variable {Q : Out → Prop} {K : Ctx} {P : Program} {B : Tab}

theorem row_of_hasRow (hB : TabOk B P) {t : TypeId} (h : hasRow B t = true) (w : World) : ∃ n, (sizeOf t).run P w = .ok n w := by
  unfold hasRow at h
  cases ht : Nat.blt t 1024 with
  | false => rw [ht] at h; cases h
  | true =>
    rw [ht] at h
    rw [Nat.blt_eq] at ht
    cases hr : B.ty.get t with
    | none => rw [hr] at h; cases h
    | row d n z sub => exact ⟨n, run_sizeOf hB ht hr w⟩

theorem beqAddr_eq {a b : Addr} (h : beqAddr a b = true) : a = b ∧ a.spot = none := by
  obtain ⟨b1, o1, s1⟩ := a
  obtain ⟨b2, o2, s2⟩ := b
  cases s1 <;> cases s2 <;> simp [beqAddr] at h
  exact ⟨by rw [h.1, h.2], rfl⟩

theorem eqv_ok_in (hB : TabOk B P) {ρ : Rho} {t : TypeId} {d : TypeDesc} (n : Nat) (w : World) (hu : P.underlying t = some d) {x y a b : Value} {r : Bool} (h : eqVal B (B.eqs t) d x y = some r) (hx : VRel ρ x a) (hy : VRel ρ y b)
    (ha : ∀ l, x ≠ .agg l) : (Op.equalIn (n + 1) t a b).run P w = .ok r w := by
  have hrun : (underlying t).run P w = .ok d w := by simp [underlying, hu]
  rw [Op.equalIn, Sem.run_bind, hrun, Result.andThen_ok]
  unfold eqVal at h
  split at h
  · cases hx; cases hy; cases h; rfl
  · cases hx
    cases hy <;> cases h <;> rfl
  · cases hx; cases hy; cases h; rfl
  · rename_i el a b
    split at h
    · rename_i hc
      simp only [Bool.and_eq_true] at hc
      cases h
      obtain ⟨rfl, hs⟩ := beqAddr_eq hc.1
      obtain ⟨m, hm⟩ := row_of_hasRow hB hc.2 w
      cases hx with
      | ptr hi =>
        cases hy with
        | ptr hi' =>
          rw [hi] at hi'; cases hi'
          simp only [Sem.run_bind, hm, Result.andThen_ok]
          split
          · simp [sameAddr]
          · simp
    · cases h
  · cases hx; cases hy <;> cases h <;> rfl
  · cases hy; cases hx <;> cases h <;> rfl
  · cases hx; cases hy <;> cases h <;> rfl
  · cases hy; cases hx <;> cases h <;> rfl
  · cases hx; cases hy; cases h; rfl
  · cases hx; cases hy <;> cases h <;> rfl
  · cases hy; cases hx <;> cases h <;> rfl
  · cases hx; cases hy; cases h; rfl
  · cases hx; cases hy; cases h; rfl
  · exact absurd rfl (ha _)
  · cases h

theorem VRels.ints {ρ : Rho} : ∀ {x y l m : List Value} {r : Bool}, eqInts x y = some r → VRels ρ x l → VRels ρ y m → l = x ∧ m = y
  | [], [], _, _, _, _, .nil, .nil => ⟨rfl, rfl⟩
  | .int k a :: x, .int k' b :: y, _, _, r, h, .cons h1 h2, .cons h3 h4 => by
    cases h1; cases h3
    cases he : eqInts x y with
    | none => simp [eqInts, he] at h
    | some q =>
      obtain ⟨rfl, rfl⟩ := VRels.ints he h2 h4
      exact ⟨rfl, rfl⟩

theorem eqv_ok (hB : TabOk B P) {ρ : Rho} {t : TypeId} {d : TypeDesc} (w : World) (hu : P.underlying t = some d) {x y a b : Value} {r : Bool} (h : eqVal B (B.eqs t) d x y = some r) (hx : VRel ρ x a) (hy : VRel ρ y b) :
    (Op.equal t a b).run P w = .ok r w := by
  by_cases ha : ∃ l, x = .agg l
  · obtain ⟨l, rfl⟩ := ha
    unfold eqVal at h
    split at h <;> first | contradiction | skip
    rename_i a' b' hl
    cases hl
    split at h
    · rename_i hc
      simp only [Bool.and_eq_true, Nat.blt_eq] at hc
      have hlen := Nat.eq_of_beq_eq_true hc.1
      obtain ⟨us, rfl, hus⟩ := VRel.inv_agg (xs := l.toList) hx
      obtain ⟨vs, rfl, hvs⟩ := VRel.inv_agg (xs := b'.toList) hy
      obtain ⟨rfl, rfl⟩ := VRels.ints h hus hvs
      exact (hB.eqs t hc.2).2 w _ _ r hlen h
    · cases h
  · exact eqv_ok_in hB 9999 w hu h hx hy (fun l hl => ha ⟨l, hl⟩)
end Go.Ev

namespace Go.Ev
open Go Go.RowKit
variable {Q : Out → Prop} {K : Ctx} {P : Program} {B : Tab}

theorem str_op_ok {op : BinOp} {m n : ByteArray} {r : Value} (h : strOp op m n = some r) (w : World) : (Op.stringOp op m n).run P w = .ok r w := by
  unfold strOp at h
  split at h
  · split at h
    · rename_i hc
      cases h
      rw [Nat.blt_eq] at hc
      have hc : m.size + n.size < 1000000 := hc
      have : ¬ ((m.size + n.size : Nat) : Int) > IntKind.i64.max := by
        have : IntKind.i64.max = 9223372036854775807 := by decide
        omega
      simp only [Op.stringOp, if_neg this, Sem.run_pure]
      congr 2
    · cases h
  · cases h; simp [Op.stringOp, ByteArray.toList_eq]
  · cases h; simp [Op.stringOp, ByteArray.toList_eq]
  · cases h

theorem guard_other {op : BinOp} {t : TypeId} {x y : Operand} {a b : Value} (w : World) (h : (op = .eql ∨ op = .neq) → (∀ l m, ¬ (a = .agg l ∧ b = .agg m)) ∧ ¬ (a = .nilIface ∧ b = .nilIface)) : (eqGuard op t x y a b).run P w = .ok () w := by
  unfold eqGuard
  by_cases ho : op = .eql ∨ op = .neq
  · obtain ⟨h1, h2⟩ := h ho
    rcases ho with rfl | rfl
    · cases a <;> cases b <;> first | (exact absurd ⟨rfl, rfl⟩ h2) | (exact absurd ⟨rfl, rfl⟩ (h1 _ _)) | rfl
    · cases a <;> cases b <;> first | (exact absurd ⟨rfl, rfl⟩ h2) | (exact absurd ⟨rfl, rfl⟩ (h1 _ _)) | rfl
  · cases op <;> first | (exact absurd (.inl rfl) ho) | (exact absurd (.inr rfl) ho) | rfl

theorem orElse_atom {a b : Option Value} {r : Value} (h : orElseO a b = some r) (ha : ∀ v, a = some v → atom v = true) (hb : ∀ v, b = some v → atom v = true) : atom r = true := by
  rcases orElse_or h with h | h
  · exact ha _ h
  · exact hb _ h
theorem bitK_atom {k : IntKind} {f : Nat → Nat → Nat} {x y : Int} {r : Value} (h : bitK k f x y = some r) : atom r = true := by
  unfold bitK at h
  cases x with
  | negSucc a => cases h
  | ofNat a =>
    cases y with
    | negSucc b => cases h
    | ofNat b =>
      simp only at h
      rcases ha : Nat.blt a (half k) with _ | _
      · rw [ha] at h; cases h
      · rcases hb : Nat.blt b (half k) with _ | _
        · rw [ha, hb] at h; cases h
        · rw [ha, hb] at h; cases h; rfl
theorem bitS_atom {k : IntKind} {op : BinOp} {x y : Int} {r : Value} (h : bitS k op x y = some r) : atom r = true := by
  unfold bitS at h
  split at h <;> cases h <;> rfl
theorem binI_atom {op : BinOp} {k : IntKind} {x y : Int} {r : Value} (h : binI op k x y = some r) : atom r = true := by
  cases op <;> simp only [binI, selBinOp] at h
  case and => exact orElse_atom h (fun _ => bitK_atom) (fun _ => bitS_atom)
  case or => exact orElse_atom h (fun _ => bitK_atom) (fun _ => bitS_atom)
  case xor => exact orElse_atom h (fun _ => bitK_atom) (fun _ => bitS_atom)
  case andNot => exact orElse_atom h (fun _ => bitK_atom) (fun _ => bitS_atom)
  case quo =>
    unfold divN at h
    cases x <;> cases y <;> first | (cases h; done) | skip
    rename_i a b
    simp only at h
    cases hb : Nat.beq b 0 <;> rw [hb] at h <;> cases h
    rfl
  case rem =>
    unfold modN at h
    cases x <;> cases y <;> first | (cases h; done) | skip
    rename_i a b
    simp only at h
    cases hb : Nat.beq b 0 <;> rw [hb] at h <;> cases h
    rfl
  case shl =>
    unfold shlN at h
    cases x <;> cases y <;> cases h
    rfl
  case shr =>
    unfold shrN at h
    cases x <;> cases y <;> cases h
    rfl
  all_goals (cases h; rfl)

theorem eqOp_atom {op : BinOp} {o : Option Bool} {r : Value} (h : eqOp op o = some r) : atom r = true ∧ ∃ b, o = some b ∧ ((op = .eql ∧ r = .bool b) ∨ (op = .neq ∧ r = .bool (!b))) := by
  unfold eqOp at h
  split at h
  · cases h; exact ⟨rfl, _, rfl, .inl ⟨rfl, rfl⟩⟩
  · cases h; exact ⟨rfl, _, rfl, .inr ⟨rfl, rfl⟩⟩
  · cases h

/-- which values '==' is done on by 'Op.equal' -/
def eqish : Value → Bool
  | .int _ _ => false
  | .string _ => false
  | .float _ _ => false
  | .complex _ _ _ => false
  | _ => true
theorem VRel.eqish {ρ : Rho} {v u : Value} (h : VRel ρ v u) : Ev.eqish u = Ev.eqish v := by cases h <;> rfl
theorem run_bin_eq {op : BinOp} {t : TypeId} {a b : Value} {q : Bool} {r : Value} (w : World) (ha : eqish a = true) (he : (Op.equal t a b).run P w = .ok q w) (h : (op = .eql ∧ r = .bool q) ∨ (op = .neq ∧ r = .bool (!q))) :
    (binOp op t a b).run P w = .ok r w := by
  rcases h with ⟨rfl, rfl⟩ | ⟨rfl, rfl⟩
  · have : binOp .eql t a b = (do pure (.bool (← Op.equal t a b)) : Sem Value) := by
      cases a <;> first | rfl | (simp [Ev.eqish] at ha)
    rw [this]; simp [he]
  · have : binOp .neq t a b = (do pure (.bool (!(← Op.equal t a b))) : Sem Value) := by
      cases a <;> first | rfl | (simp [Ev.eqish] at ha)
    rw [this]; simp [he]

theorem run_guard_int {op : BinOp} {t : TypeId} {x y : Operand} {k l : IntKind} {m n : Int} (w : World) : (eqGuard op t x y (.int k m) (.int l n)).run P w = .ok () w :=
  guard_other w fun _ => ⟨fun _ _ h => (by cases h.1), fun h => (by cases h.1)⟩

theorem kindNo_eq (k l : IntKind) : Nat.beq (kindNo k) (kindNo l) = decide (k = l) := by cases k <;> cases l <;> rfl
/-- in the words of a choice -/
noncomputable def binV0 (B : Tab) (op : BinOp) (t : TypeId) (x y : Operand) (a b : Value) : Option Value :=
  match a, b with
  | .int k m, .int l n => if isShift op || decide (k = l) then binI op k m n else none
  | a, b => otherOp B op t x y a b
theorem binV_spec (B : Tab) (op : BinOp) (t : TypeId) (x y : Operand) (a b : Value) : binV B op t x y a b = binV0 B op t x y a b := by
  cases a with
  | int k m => cases b with
    | int l n =>
      show (Bool.rec none (binI op k m n) (Bool.or (isShift op) (Nat.beq (kindNo k) (kindNo l))) : Option Value) = if isShift op || decide (k = l) then binI op k m n else none
      rw [kindNo_eq]
      cases isShift op <;> cases decide (k = l) <;> rfl
    | _ => rfl
  | _ => cases b <;> rfl
theorem bin_ok (hB : TabOk B P) {ρ : Rho} {op : BinOp} {t : TypeId} {x y : Operand} {a b u v r : Value} (w : World) (h : binV B op t x y a b = some r) (ha : VRel ρ a u) (hb : VRel ρ b v) :
    (do eqGuard op t x y u v; binOp op t u v : Sem Value).run P w = .ok r w ∧ atom r = true := by
  rw [binV_spec] at h
  unfold binV0 at h
  split at h
  · rename_i k m l n
    cases ha; cases hb
    split at h
    · rename_i hc
      refine ⟨?_, binI_atom h⟩
      rw [Sem.run_bind, run_guard_int, Result.andThen_ok]
      refine run_bin_int t w ?_ h
      simpa using hc
    · cases h
  · rename_i hni
    unfold otherOp at h
    split at h
    · rename_i m n
      cases ha; cases hb
      refine ⟨?_, ?_⟩
      · rw [Sem.run_bind, guard_other w (fun _ => ⟨fun _ _ h => (by cases h.1), fun h => (by cases h.1)⟩), Result.andThen_ok]
        have : binOp op t (.string m) (.string n) = Op.stringOp op m n := by cases op <;> rfl
        rw [this, str_op_ok h w]
      · unfold strOp at h
        split at h
        · split at h <;> cases h
          rfl
        · cases h; rfl
        · cases h; rfl
        · cases h
    · rename_i hns
      cases hr : B.ty.get t with
      | none => rw [hr] at h; cases h
      | row d n z sub =>
        rw [hr] at h
        cases ht : Nat.blt t 1024 with
        | false => rw [ht] at h; cases h
        | true =>
          rw [ht] at h
          rw [Nat.blt_eq] at ht
          have hu := (hB.row t d n z sub ht hr).1
          have hh : eqAny B op t (isConstO x || isConstO y) d a b = some r := h
          clear h
          unfold eqAny at hh
          split at hh
          · split at hh
            · rename_i hc
              simp only [Bool.and_eq_true, Bool.or_eq_true] at hc
              obtain ⟨hat, q, hq, hr'⟩ := eqOp_atom hh
              cases hq; cases ha; cases hb
              refine ⟨?_, hat⟩
              have hg : (eqGuard op t x y .nilIface .nilIface).run P w = .ok () w := by
                have hx : ∀ (op' : BinOp), op' = .eql ∨ op' = .neq → (eqGuard op' t x y .nilIface .nilIface).run P w = .ok () w := by
                  intro op' ho
                  rcases hc.1 with h1 | h1
                  · cases x <;> first | (cases h1; done) | skip
                    rcases ho with rfl | rfl <;> rfl
                  · cases y <;> first | (cases h1; done) | skip
                    rcases ho with rfl | rfl <;> cases x <;> rfl
                rcases hr' with ⟨rfl, _⟩ | ⟨rfl, _⟩
                · exact hx _ (.inl rfl)
                · exact hx _ (.inr rfl)
              rw [Sem.run_bind, hg, Result.andThen_ok]
              refine run_bin_eq w rfl (q := true) ?_ hr'
              have hrun : (underlying t).run P w = .ok d w := by simp [underlying, hu]
              show (Op.equalIn (9999 + 1) t .nilIface .nilIface).run P w = _
              rw [Op.equalIn, Sem.run_bind, hrun, Result.andThen_ok]
              cases d <;> first | (simp [isIfaceD] at hc; done) | rfl
            · cases hh
          · rename_i hnn
            obtain ⟨hat, q, hq, hr'⟩ := eqOp_atom hh
            refine ⟨?_, hat⟩
            have he := eqv_ok hB w hu hq ha hb
            have hish : eqish u = true := by
              rw [VRel.eqish ha]
              unfold eqVal at hq
              split at hq <;> first | rfl | (cases hq; done)
            rw [Sem.run_bind]
            by_cases hag : ∃ l m, u = .agg l ∧ v = .agg m
            · obtain ⟨l, m, rfl, rfl⟩ := hag
              have hpos : 0 < B.eqs t := by
                cases ha; cases hb
                unfold eqVal at hq
                split at hq <;> first | contradiction | skip
                split at hq
                · rename_i hc
                  simp only [Bool.and_eq_true, Nat.blt_eq] at hc
                  exact hc.2
                · cases hq
              have hg : ∀ op', (op' = .eql ∨ op' = .neq) → (eqGuard op' t x y (.agg l) (.agg m)).run P w = .ok () w := by
                intro op' ho
                have := (hB.eqs t hpos).1
                rcases ho with rfl | rfl <;> simp [eqGuard, this]
              have hg' : (eqGuard op t x y (.agg l) (.agg m)).run P w = .ok () w := by
                rcases hr' with ⟨rfl, _⟩ | ⟨rfl, _⟩
                · exact hg _ (.inl rfl)
                · exact hg _ (.inr rfl)
              rw [hg', Result.andThen_ok]
              exact run_bin_eq w rfl he hr'
            · rw [guard_other w (fun _ => ⟨fun l m h => hag ⟨l, m, h⟩, fun h => ?_⟩), Result.andThen_ok]
              · exact run_bin_eq w hish he hr'
              · obtain ⟨rfl, rfl⟩ := h
                cases ha; cases hb
                exact hnn rfl rfl

theorem ok_bin (hB : TabOk B P) (op : BinOp) (t : TypeId) (x y : Operand) (fl : TypeId) (ty : TypeId) : HOk K P (hBin B op t x y) (ex (.binOp op t x y fl) ty) := HOk.same fun Q a e h nx k ρ act w hA hR hE => by
  unfold hBin at hA
  obtain ⟨v, hv, hA1⟩ := evalK_ok hR.glob hE hA
  obtain ⟨u, hu, hA2⟩ := evalK_ok hR.glob hE hA1
  clear hA hA1
  rw [all_onO] at hA2
  obtain ⟨r, hr, hA⟩ := hA2
  rw [all_forceV] at hA
  obtain ⟨h1, h2⟩ := bin_ok hB w hr hv hu
  refine ⟨r, r, ?_, VRel.of_atom h2, hA⟩
  exact run_vS h1
end Go.Ev

namespace Go.Ev
open Go Go.RowKit
variable {Q : Out → Prop} {K : Ctx} {P : Program} {B : Tab}

theorem ok_un (op : UnOp) (t : TypeId) (x : Operand) (ty : TypeId) : HOk K P (hUn op x) (ex (.unOp op t x) ty) := HOk.same fun Q a e h nx k ρ act w hA hR hE => by
  unfold hUn at hA
  obtain ⟨v, hv, hA1⟩ := evalK_ok hR.glob hE hA
  clear hA
  rw [all_onO] at hA1
  obtain ⟨r, hr, hA⟩ := hA1
  rw [all_forceV] at hA
  generalize hu : act.eval x = u at hv
  have e : ex (.unOp op t x) ty act.eval = vS (Op.unary op u) := by subst hu; rfl
  rw [e]
  unfold unV at hr
  split at hr
  · cases hr; cases hv
    refine ⟨_, _, run_vS ?_, .int _ _, hA⟩
    simp [Op.unary, Op.intArith, wrapK_eq]
    rename_i q n
    show q.wrap (-n) = q.wrap (0 - n)
    rw [Int.zero_sub]
  · cases hr; cases hv
    refine ⟨_, _, run_vS ?_, .int _ _, hA⟩
    simp [Op.unary, Op.intBits]
  · cases hr; cases hv
    refine ⟨_, _, run_vS ?_, .bool _, hA⟩
    simp [Op.unary]
  · cases hr

/-- a new row of cells: its ends are the abstract block's, but for room behind -/
theorem ORel.newRow {σ : TypeId → Nat} {ρ : Rho} {b sl : Nat} {cs us zs : List Value} {el : TypeId} {fz : Nat × Nat} {lo hi : Nat} (hr : VRels ρ cs us)
    (hf : FzOk 0 cs.length (cs.length + zs.length) lo hi fz)
    (s : Bool) (hs : s = false → zs = [] ∧ sl = 0) (hs1 : s = true → 0 < σ el ∧ zs.length = sl * σ el) :
    ORel σ ρ ⟨b, 0, sl⟩ (.cells (T.putList cs (T.const undef (depthFor cs.length)) 0) (depthFor cs.length) cs.length el lo hi s) (some (.cells ⟨us ++ zs⟩ el fz)) := by
  have hlen := hr.length
  have hle := depthFor_le cs.length
  have hsize : (⟨us ++ zs⟩ : Array Value).size = cs.length + zs.length := by
    show (us ++ zs).length = _
    rw [List.length_append, hlen]
  refine ⟨_, _, rfl, T.full_putList _ _ _ _ (T.full_const _ _), hle, ?_, ?_, ?_, ?_⟩
  · intro k hk
    rw [T.get_putList (depthFor cs.length) cs _ 0 k (T.full_const _ _) (by omega) (by omega)]
    have hk' : k < us.length := by omega
    refine ⟨us[k], ?_, ?_⟩
    · simp [List.getElem?_append, hk']
    · obtain ⟨u, hu1, hu2⟩ := hr.get k cs[k] (by simp [hk])
      have : us[k] = u := by
        rw [List.getElem?_eq_getElem hk'] at hu1
        exact Option.some.inj hu1
      rw [this]
      have e2 : 0 ≤ k ∧ k < 0 + cs.length := by omega
      simp [hk]
      exact hu2
  · rw [hsize]; exact hf
  · intro h
    obtain ⟨rfl, rfl⟩ := hs h
    exact ⟨rfl, rfl, by simp [hlen]⟩
  · intro h
    obtain ⟨h1, h2⟩ := hs1 h
    exact ⟨h1, by rw [hsize, h2]; simp⟩

theorem Rel.newRow {ρ : Rho} {h : T AObj} {nx : Nat} {w : World} (hR : Rel K ρ h nx w) (hn : nx < 16384) {lo0 sl : Nat} {cs us zs : List Value} {el : TypeId} {fz : Nat × Nat} {lo hi : Nat} (hr : VRels ρ cs us)
    (hf : FzOk 0 cs.length (cs.length + zs.length) lo hi fz)
    (s : Bool) (hs : s = false → zs = [] ∧ sl = 0) (hs1 : s = true → 0 < K.es el ∧ zs.length = sl * K.es el) :
    Step K lo0 ρ h nx w (upd ρ nx ⟨w.heap.size, 0, sl⟩) (T.set (.cells (T.putList cs (T.const undef (depthFor cs.length)) 0) (depthFor cs.length) cs.length el lo hi s) h nx) (nx + 1) (w.alloc (.cells ⟨us ++ zs⟩ el fz)) :=
  Rel.new hR hn _ _ sl (ORel.newRow (hr.mono (upd_le _ hR.fresh)) hf s hs hs1)

theorem FzOk.none (n size : Nat) : FzOk 0 n size 0 0 (0, 0) := .inl ⟨Nat.le_refl _, Nat.zero_le _, fun h => absurd h (Nat.lt_irrefl _)⟩

/-- a new row without room behind -/
theorem Rel.newCells {ρ : Rho} {h : T AObj} {nx : Nat} {w : World} (hR : Rel K ρ h nx w) (hn : nx < 16384) {lo0 : Nat} {cs us : List Value} {el : TypeId} (hr : VRels ρ cs us) :
    Step K lo0 ρ h nx w (upd ρ nx ⟨w.heap.size, 0, 0⟩) (T.set (cellsOf cs el false) h nx) (nx + 1) (w.alloc (.cells ⟨us⟩ el)) := by
  have := Rel.newRow (lo0 := lo0) (sl := 0) (zs := []) (el := el) (fz := (0, 0)) (lo := 0) (hi := 0) hR hn hr (FzOk.none _ _) false (fun _ => ⟨rfl, rfl⟩) (fun h => by cases h)
  rw [List.append_nil] at this
  exact this

theorem Step.drew {lo0 nx nx' : Nat} {ρ ρ' : Rho} {h h' : T AObj} {w w' : World} (k : Nat) (s : Step K lo0 ρ h nx { w with drawn := w.drawn + k } ρ' h' nx' w') : Step K lo0 ρ h nx w ρ' h' nx' w' :=
  ⟨s.rel, s.le, s.up, s.old, s.pend, s.keep⟩

theorem freeze_alloc (w : World) (c : Array Value) (e : TypeId) (n : Nat) : (w.alloc (.cells c e)).freeze ⟨w.heap.size, n, none⟩ 1 = w.alloc (.cells c e (n, n + 1)) := by
  unfold World.freeze World.alloc
  simp only [Nat.one_ne_zero, if_false]
  congr 1
  apply Array.ext_getElem?
  intro i
  rw [Array.getElem?_modify, Array.getElem?_push, Array.getElem?_push]
  by_cases h : w.heap.size = i
  · subst h; simp
  · rw [if_neg h]
    have : ¬ i = w.heap.size := fun h' => h h'.symm
    rw [if_neg this, if_neg this]

theorem run_stringToBytes (e : TypeId) (s : ByteArray) (w : World) : ∃ cap, s.size ≤ cap ∧ (Conv.stringToBytes e s).run P w =
    .ok (.slice (some ⟨w.heap.size, 0, none⟩) s.size cap) (({ w with drawn := w.drawn + 1 } : World).alloc (.cells ⟨intsOf s s.size ++ List.replicate (cap - s.size) (.int .u8 0)⟩ e (s.size + (cap - s.size), s.size + (cap - s.size) + 1))) := by
  refine ⟨(Question.appendCap s.size 0 e).cut (w.tape w.drawn (.appendCap s.size 0 e)), Nat.le_add_right _ _, ?_⟩
  generalize hcap : (Question.appendCap s.size 0 e).cut (w.tape w.drawn (.appendCap s.size 0 e)) = cap
  have hch : (choose (.appendCap s.size 0 e)).run P w = .ok cap { w with drawn := w.drawn + 1 } := by
    rw [run_choose, hcap]
    rfl
  have harr : (s.data.map (fun b => Value.int .u8 (b.toNat : Int)) ++ Array.replicate (cap - s.size) (.int .u8 0)) = (⟨intsOf s s.size ++ List.replicate (cap - s.size) (.int .u8 0)⟩ : Array Value) := by
    have ht : s.data.toList.take s.size = s.data.toList := List.take_of_length_le (by rw [Array.length_toList]; exact Nat.le_refl _)
    apply Array.ext'
    simp only [intsOf, ht, Array.toList_append, Array.toList_map, Array.toList_replicate]
    rfl
  have hsz : (⟨intsOf s s.size ++ List.replicate (cap - s.size) (.int .u8 0)⟩ : Array Value).size = s.size + (cap - s.size) := by
    have ht : s.data.toList.take s.size = s.data.toList := List.take_of_length_le (by rw [Array.length_toList]; exact Nat.le_refl _)
    have hl : s.data.toList.length = s.size := by rw [Array.length_toList]; rfl
    show (intsOf s s.size ++ List.replicate (cap - s.size) (Value.int .u8 0)).length = _
    rw [List.length_append, List.length_replicate, intsOf, List.length_map, ht, hl]
  simp only [Conv.stringToBytes, Sem.run_bind, hch, Result.andThen_ok, harr, newRow, run_newObj_alloc, Sem.run_pure, markStringish, run_shape]
  have hsh : (World.alloc { w with drawn := w.drawn + 1 } (.cells ⟨intsOf s s.size ++ List.replicate (cap - s.size) (.int .u8 0)⟩ e)).shape? w.heap.size = some (e, s.size + (cap - s.size)) := by
    simp only [World.shape?, World.alloc, Array.getElem?_push_size]
    rw [hsz]
  rw [hsh]
  simp only [run_freeze, Result.andThen_ok]
  rw [freeze_alloc { w with drawn := w.drawn + 1 }]
end Go.Ev

namespace Go.Ev
open Go Go.RowKit
variable {Q : Out → Prop} {K : Ctx} {P : Program} {B : Tab}

theorem u8s_ok : ∀ {cs : List Value} {l : List UInt8}, u8s cs = some l → ∃ ns : List Int, cs = ns.map (Value.int .u8) ∧ l = ns.map fun n => UInt8.ofNat n.toNat
  | [], l, h => by cases h; exact ⟨[], rfl, rfl⟩
  | v :: cs, l, h => by
    unfold u8s at h
    split at h
    · rename_i heq; cases heq
    · rename_i n r heq
      cases heq
      split at h
      · rename_i l' hl
        cases h
        obtain ⟨ns, rfl, rfl⟩ := u8s_ok hl
        exact ⟨n :: ns, rfl, rfl⟩
      · cases h
    · cases h
theorem i32s_ok : ∀ {cs : List Value} {l : List UInt8}, i32s cs = some l → ∃ ns : List Int, cs = ns.map (Value.int .i32) ∧ l = (ns.map fun n => (Utf8.encode n).data.toList).flatten
  | [], l, h => by cases h; exact ⟨[], rfl, rfl⟩
  | v :: cs, l, h => by
    unfold i32s at h
    split at h
    · rename_i heq; cases heq
    · rename_i n r heq
      cases heq
      split at h
      · rename_i l' hl
        cases h
        obtain ⟨ns, rfl, rfl⟩ := i32s_ok hl
        exact ⟨n :: ns, rfl, rfl⟩
      · cases h
    · cases h
theorem all_ints (s : ByteArray) (n : Nat) : (intsOf s n).all atom = true := by
  unfold intsOf
  rw [List.all_map]
  exact List.all_eq_true.2 fun _ _ => rfl
theorem ints_rel {ρ : Rho} {k : IntKind} {ns : List Int} {us : List Value} (h : VRels ρ (ns.map (Value.int k)) us) : us = ns.map (Value.int k) :=
  VRels.atoms (by simp [List.all_map]; intro n _; rfl) h

theorem push_fold : ∀ (ns : List Int) (acc : ByteArray), ns.foldl (fun r n => r.push (UInt8.ofNat n.toNat)) acc = ⟨⟨acc.data.toList ++ ns.map fun n => UInt8.ofNat n.toNat⟩⟩
  | [], acc => by simp
  | n :: ns, acc => by
    rw [List.foldl_cons, push_fold ns]
    simp [ByteArray.push]
theorem runes_fold : ∀ (ns : List Int) (acc : ByteArray), ns.foldl (fun r n => r ++ Utf8.encode n) acc = ⟨⟨acc.data.toList ++ (ns.map fun n => (Utf8.encode n).data.toList).flatten⟩⟩
  | [], acc => by simp
  | n :: ns, acc => by
    rw [List.foldl_cons, runes_fold ns]
    simp

theorem shape_ok {ρ : Rho} {h : T AObj} {nx : Nat} {w : World} (hR : Rel K ρ h nx w) {id : Nat} {i : Info} (hi : ρ id = some i) {t : T Value} {d n el lo hi' : Nat} {sl : Bool} (hg : h.get id = .cells t d n el lo hi' sl) :
    ∃ m, w.shape? i.blk = some (el, m) ∧ i.dl + n ≤ m := by
  have ho := hR.obj id i hi
  rw [hg] at ho
  obtain ⟨cs, fz, hcs, _, _, _, _, h6, h7⟩ := ho
  refine ⟨cs.size, by simp only [World.shape?, hcs], ?_⟩
  cases sl with
  | false => have := h6 rfl; omega
  | true =>
    obtain ⟨h1, h2⟩ := h7 rfl
    have : 0 ≤ i.sl * K.es el := Nat.zero_le _
    omega

theorem ok_convert (hB : TabOk B P) (hes : ∀ t i, P.info? t = some i → K.es t = i.size) (src dst : TypeId) (x : Operand) (ty : TypeId) : HOk K P (hConvert B src dst x) (ex (.convert src dst x) ty) := by
  intro Q a e h nx k ρ act w hK hA hR hE
  unfold hConvert at hA
  obtain ⟨v, hv, hA1⟩ := evalK_ok hR.glob hE hA
  clear hA
  generalize hu : act.eval x = u at hv
  have e0 : ex (.convert src dst x) ty act.eval = vS (convert src dst u) := by subst hu; rfl
  rw [e0]
  have same : ∀ (r r' : Value), (convert src dst u).run P w = .ok r' w → VRel ρ r r' → All Q (k r h nx) → ∃ v h' nx' ρ' u' w', ((vS (convert src dst u)).run P w = .ok (.value u') w' ∨ ((vS (convert src dst u)).run P w = .ok .skip w' ∧ u' = undef)) ∧
      VRel ρ' v u' ∧ Step K a.lo ρ h nx w ρ' h' nx' w' ∧ All Q (k v h' nx') := fun r r' h1 h2 h3 => ⟨r, h, nx, ρ, r', w, .inl (run_vS h1), h2, .refl hR, h3⟩
  unfold convK at hA1
  split at hA1
  · -- a number
    rename_i q n
    cases hv
    rw [all_onTy, all_onRow] at hA1
    obtain ⟨hs, ht, d, m, z, sub, hrow, hA⟩ := hA1
    obtain ⟨ds, hds⟩ := hB.nt src hs
    have h1 : (underlying src).run P w = .ok ds w := by simp [underlying, hds]
    have h2 := run_underlying hB ht hrow w
    split at hA
    · rw [all_forceV] at hA
      refine same _ _ ?_ (.int _ _) hA
      simp only [convert, Sem.run_bind, h1, h2, Result.andThen_ok]
      rw [wrapK_eq]
      cases ds <;> rfl
    · simp at hA
  · -- a text
    rename_i s
    cases hv
    rw [all_onTy, all_onRow] at hA1
    obtain ⟨hs, ht, d, m, z, sub, hrow, hA⟩ := hA1
    obtain ⟨ds, hds⟩ := hB.nt src hs
    have h1 : (underlying src).run P w = .ok ds w := by simp [underlying, hds]
    have h2 := run_underlying hB ht hrow w
    split at hA
    · rw [all_forceV] at hA
      refine same _ _ ?_ (.string _) hA
      simp only [convert, Sem.run_bind, h1, h2, Result.andThen_ok]
      cases ds <;> rfl
    · rename_i el
      rw [all_onRow] at hA
      obtain ⟨ht', d', m', z', sub', hrow', hA⟩ := hA
      have h3 := run_underlying hB ht' hrow' w
      split at hA
      · rw [all_forceN, all_forceN, all_newK] at hA
        have hes1 : K.es el = 1 := hB.byte el _ _ _ ht' hrow' ▸ (by obtain ⟨_, it, h1, h2, _⟩ := hB.row _ _ _ _ _ ht' hrow'; rw [hes el it h1, h2])
        obtain ⟨hn, hA⟩ := hA
        rw [all_forceV] at hA
        obtain ⟨cap, hcap, hrun⟩ := run_stringToBytes (P := P) el s w
        have ht0 : s.data.toList.take s.size = s.data.toList := List.take_of_length_le (by rw [Array.length_toList]; exact Nat.le_refl _)
        have hl : (intsOf s s.size).length = s.size := by
          have hl : s.data.toList.length = s.size := by rw [Array.length_toList]; rfl
          rw [intsOf, List.length_map, ht0, hl]
        have hc : (convert src dst (.string s)).run P w = (Conv.stringToBytes el s).run P w := by
          simp only [convert, Sem.run_bind, h1, h2, Result.andThen_ok]
          cases ds <;> simp [h3]
        have hst := Rel.newRow (lo0 := a.lo) (sl := cap - s.size) (zs := List.replicate (cap - s.size) (.int .u8 0)) (el := el) (fz := (s.size + (cap - s.size), s.size + (cap - s.size) + 1)) (lo := s.size) (hi := s.size + 1) (hR.drewN 1) hn
          (VRels.of_atoms (l := intsOf s s.size) (all_ints s _))
          (by rw [hl]; exact .inr (.inl ⟨rfl, rfl, by simp⟩)) true (fun h => by cases h) (fun _ => ⟨by rw [hes1]; omega, by rw [hes1]; simp⟩)
        rw [hl] at hst
        refine ⟨_, _, _, _, _, _, .inl (run_vS (hc.trans hrun)), ?_, hst.drew 1, hA⟩
        have := VRel.slice (ρ := upd ρ nx ⟨w.heap.size, 0, cap - s.size⟩) (id := nx) (off := 0) (l := s.size) (c := s.size) (upd_same _ _ _)
        simp only [Nat.add_zero] at this
        rw [show s.size + (cap - s.size) = cap by omega] at this
        exact this
      · simp at hA
    · simp at hA
  · -- a slice
    rename_i ad len c
    rw [all_onRow] at hA1
    obtain ⟨ht, d, m, z, sub, hrow, hA⟩ := hA1
    have h2 := run_underlying hB ht hrow w
    split at hA
    · rw [all_onRow] at hA
      obtain ⟨hts, ds, m', z', sub', hrows, hA⟩ := hA
      have h1 := run_underlying hB hts hrows w
      split at hA
      · rename_i el
        unfold convS at hA
        rw [all_onRow] at hA
        obtain ⟨hte, de, m'', z'', sub'', hrowe, hA⟩ := hA
        have h3 := run_underlying hB hte hrowe w
        split at hA
        · cases hv
          rw [all_forceV] at hA
          refine same _ _ ?_ (.string _) hA
          simp only [convert, Sem.run_bind, h1, h2, h3, Result.andThen_ok]
          rfl
        · cases hv
          rw [all_forceV] at hA
          refine same _ _ ?_ (.string _) hA
          simp only [convert, Sem.run_bind, h1, h2, h3, Result.andThen_ok]
          rfl
        · rename_i id off sp
          have key : ∀ i : Info, ρ id = some i → ∀ c', u = .slice (some ⟨i.blk, i.dl + off, none⟩) len c' → ∃ v h' nx' ρ' u' w', ((vS (convert src dst u)).run P w = .ok (.value u') w' ∨ ((vS (convert src dst u)).run P w = .ok .skip w' ∧ u' = undef)) ∧
      VRel ρ' v u' ∧ Step K a.lo ρ h nx w ρ' h' nx' w' ∧ All Q (k v h' nx') := by
            intro i hi c' hu'
            obtain ⟨cs, us, hr, hl, hrun, _, hA'⟩ := loadCells_ok (P := P) hR hi hA
            rw [all_onO] at hA'
            obtain ⟨l, hl', hA'⟩ := hA'
            rw [all_forceV] at hA'
            obtain ⟨ns, rfl, rfl⟩ := u8s_ok hl'
            have := ints_rel hr
            subst this
            refine same _ _ ?_ (.string _) hA'
            rw [hu']
            have := run_bytesToString (P := P) w ⟨i.blk, i.dl + off, none⟩ len c' ns hrun
            rw [push_fold] at this
            simp only [convert, Sem.run_bind, h1, h2, h3, Result.andThen_ok]
            exact this
          cases hv with
          | slice hi => exact key _ hi _ rfl
          | slice0 hi => exact key _ hi _ rfl
          | slice1 o' c' hi =>
            have hA : All Q (onO (u8s []) "bytes" fun l => forceV (.string ⟨⟨l⟩⟩) fun r => k r h nx) := hA
            rw [all_onO] at hA
            obtain ⟨l, hl', hA'⟩ := hA
            rw [all_forceV] at hA'
            cases hl'
            refine same _ _ ?_ (.string _) hA'
            simp only [convert, Sem.run_bind, h1, h2, h3, Result.andThen_ok]
            exact run_bytesToString (P := P) w _ 0 c' [] rfl
        · rename_i id off sp
          have key : ∀ i : Info, ρ id = some i → ∀ c', u = .slice (some ⟨i.blk, i.dl + off, none⟩) len c' → ∃ v h' nx' ρ' u' w', ((vS (convert src dst u)).run P w = .ok (.value u') w' ∨ ((vS (convert src dst u)).run P w = .ok .skip w' ∧ u' = undef)) ∧
      VRel ρ' v u' ∧ Step K a.lo ρ h nx w ρ' h' nx' w' ∧ All Q (k v h' nx') := by
            intro i hi c' hu'
            obtain ⟨cs, us, hr, hl, hrun, _, hA'⟩ := loadCells_ok (P := P) hR hi hA
            rw [all_onO] at hA'
            obtain ⟨l, hl', hA'⟩ := hA'
            rw [all_forceV] at hA'
            obtain ⟨ns, rfl, rfl⟩ := i32s_ok hl'
            have := ints_rel hr
            subst this
            refine same _ _ ?_ (.string _) hA'
            rw [hu']
            have := run_runesToString (P := P) w ⟨i.blk, i.dl + off, none⟩ len c' ns hrun
            unfold runesBytes at this
            rw [runes_fold] at this
            simp only [convert, Sem.run_bind, h1, h2, h3, Result.andThen_ok]
            exact this
          cases hv with
          | slice hi => exact key _ hi _ rfl
          | slice0 hi => exact key _ hi _ rfl
          | slice1 o' c' hi =>
            have hA : All Q (onO (i32s []) "runes" fun l => forceV (.string ⟨⟨l⟩⟩) fun r => k r h nx) := hA
            rw [all_onO] at hA
            obtain ⟨l, hl', hA'⟩ := hA
            rw [all_forceV] at hA'
            cases hl'
            refine same _ _ ?_ (.string _) hA'
            simp only [convert, Sem.run_bind, h1, h2, h3, Result.andThen_ok]
            exact run_runesToString (P := P) w _ 0 c' [] rfl
        · simp at hA
      · simp at hA
    · simp at hA
  · -- a pointer
    rename_i p
    rw [all_onRow] at hA1
    obtain ⟨hts, ds, ms, zs, subs, hrows, hA⟩ := hA1
    rw [all_onRow] at hA
    obtain ⟨htd, dd, md, zd, subd, hrowd, hA⟩ := hA
    have h1 := run_underlying hB hts hrows w
    have h2 := run_underlying hB htd hrowd w
    split at hA
    · cases hv
      rw [all_forceV] at hA
      refine same _ _ ?_ .nilPtr hA
      simp only [convert, Conv.unsafePointer, Sem.run_bind, h1, h2, Result.andThen_ok]
      rfl
    · cases hv
      rw [all_forceV] at hA
      refine same _ _ ?_ .nilPtr hA
      simp only [convert, Conv.unsafePointer, Sem.run_bind, h1, h2, Result.andThen_ok]
      rfl
    · rename_i id off t
      rw [all_onRow] at hA
      obtain ⟨htt, dt, mt, zt, subt, hrowt, hA⟩ := hA
      rw [all_onCells] at hA
      obtain ⟨tt, dd', sz, el, lo, hi', sl, hg, hA⟩ := hA
      rw [all_iteR_fail, all_forceV] at hA
      obtain ⟨hc, hA⟩ := hA
      simp only [Bool.and_eq_true, Nat.blt_eq] at hc
      cases hv with
      | ptr hi =>
        rename_i i
        obtain ⟨cs, hsh, hsz⟩ := shape_ok hR hi hg
        have hs3 := run_sizeOf hB htt hrowt w
        refine same _ _ ?_ (.ptr hi) hA
        have hne : ¬ mt = 0 := by omega
        have hnl : ¬ cs ≤ i.dl + off := by omega
        simp only [convert, Conv.unsafePointer, Sem.run_bind, h1, h2, Result.andThen_ok]
        simp [Conv.seenAt, viewAt, cellsIn, hsh, hs3, hne, hnl]
    · rename_i id off u'
      rw [all_onRow] at hA
      obtain ⟨htt, dt, mt, zt, subt, hrowt, hA⟩ := hA
      rw [all_onCells] at hA
      obtain ⟨tt, dd', sz, el, lo, hi', sl, hg, hA⟩ := hA
      rw [all_iteR_fail, all_forceV] at hA
      obtain ⟨hc, hA⟩ := hA
      simp only [Bool.and_eq_true, Bool.not_eq_true'] at hc
      obtain ⟨⟨⟨⟨he, hself⟩, hoff⟩, hsz⟩, hsl⟩ := hc
      have he := Nat.eq_of_beq_eq_true he
      have hoff := Nat.eq_of_beq_eq_true hoff
      have hsz := Nat.eq_of_beq_eq_true hsz
      subst he hoff hsz hsl
      obtain ⟨hpos, hlies⟩ := hB.self _ _ _ _ _ hself htt hrowt
      cases hv with
      | ptr hi =>
        rename_i i
        have ho := hR.obj _ i hi
        rw [hg] at ho
        obtain ⟨cs, fz, hcs, _, _, _, _, h6, _⟩ := ho
        obtain ⟨hdl, hsl, hcsz⟩ := h6 rfl
        have hsh : w.shape? i.blk = some (el, sz) := by simp only [World.shape?, hcs, hcsz]
        have hs3 := run_sizeOf hB htt hrowt w
        refine same _ _ ?_ (.ptr hi) hA
        have hne : ¬ sz = 0 := by omega
        simp only [convert, Conv.unsafePointer, Sem.run_bind, h1, h2, Result.andThen_ok]
        simp [Conv.seenAt, viewAt, variablesAt, hsh, hs3, hne, hdl, hlies]
    · simp at hA
  · simp at hA1
end Go.Ev

namespace Go.Ev
open Go Go.RowKit
variable {Q : Out → Prop} {K : Ctx} {P : Program} {B : Tab}

theorem VRel.info (hB : TabOk B P) {ρ : Rho} {t d n sub} {z : Value} (ht : t < 1024) (h : B.ty.get t = .row d n (some z) sub) : VRels ρ z.cells.toList z.cells.toList ∧ z.cells.size = n := by
  obtain ⟨_, i, h1, h2, h3, h4⟩ := hB.row t d n _ sub ht h
  obtain ⟨h5, h6⟩ := h4 z rfl
  exact ⟨(VRel.of_clo h5).cells, h6⟩

theorem hok_new {s : Sem Value} {ρ : Rho} {h : T AObj} {nx : Nat} {w : World} {a : Act0} {k : KV} {v u : Value} {w' : World} {ρ' : Rho} {h' : T AObj} {nx' : Nat}
    (hr : s.run P w = .ok u w') (hv : VRel ρ' v u) (hs : Step K a.lo ρ h nx w ρ' h' nx' w') (hA : All Q (k v h' nx')) :
    ∃ v h' nx' ρ' u w', ((vS s).run P w = .ok (.value u) w' ∨ ((vS s).run P w = .ok .skip w' ∧ u = undef)) ∧ VRel ρ' v u ∧ Step K a.lo ρ h nx w ρ' h' nx' w' ∧ All Q (k v h' nx') :=
  ⟨v, h', nx', ρ', u, w', .inl (run_vS hr), hv, hs, hA⟩

theorem vrel_new (ρ : Rho) (nx b : Nat) : VRel (upd ρ nx ⟨b, 0, 0⟩) (ptrTo nx) (.pointer (some ⟨b, 0, none⟩)) := VRel.ptr (off := 0) (upd_same ρ nx ⟨b, 0, 0⟩)
theorem vrel_slice (ρ : Rho) (nx b l c : Nat) : VRel (upd ρ nx ⟨b, 0, 0⟩) (.slice (some ⟨nx, 0, none⟩) l c) (.slice (some ⟨b, 0, none⟩) l c) := VRel.slice (off := 0) (l := l) (c := c) (upd_same ρ nx ⟨b, 0, 0⟩)

theorem ok_alloc (hB : TabOk B P) (t : TypeId) (ty : TypeId) : HOk K P (hAlloc B t) (ex (.alloc t) ty) := by
  intro Q a e h nx k ρ act w hK hA hR hE
  unfold hAlloc at hA
  rw [all_onRow] at hA
  obtain ⟨ht, d, n, z, sub, hrow, hA⟩ := hA
  rw [all_onO] at hA
  obtain ⟨z, rfl, hA⟩ := hA
  rw [all_newCellsK] at hA
  obtain ⟨hn, hA⟩ := hA
  have hz := run_zeroValue hB ht hrow w
  show ∃ v h' nx' ρ' u w', ((vS (Instr.alloc t true (.tuple #[]))).run P w = _ ∨ _) ∧ _
  refine hok_new (u := .pointer (some ⟨w.heap.size, 0, none⟩)) ?_ (vrel_new ρ nx _) (Rel.newCells hR hn (VRel.info hB ht hrow).1) hA
  simp [Instr.alloc, hz, newVar, newRow]

theorem ok_box (t : TypeId) (x : Operand) (ty : TypeId) : HOk K P (hBox t x) (ex (.box t x) ty) := by
  intro Q a e h nx k ρ act w hK hA hR hE
  unfold hBox at hA
  obtain ⟨v, hv, hA⟩ := evalK_ok hR.glob hE hA
  rw [all_newCellsK] at hA
  obtain ⟨hn, hA⟩ := hA
  show ∃ v h' nx' ρ' u w', ((vS (Instr.box t (act.eval x))).run P w = _ ∨ _) ∧ _
  refine hok_new (u := .pointer (some ⟨w.heap.size, 0, none⟩)) ?_ (vrel_new ρ nx _) (Rel.newCells hR hn hv.cells) hA
  simp [Instr.box, newVar, newRow]

theorem ok_makeMap (t : TypeId) (r : Option Operand) (ty : TypeId) : HOk K P (hMakeMap r) (ex (.makeMap t r) ty) := by
  intro Q a e h nx k ρ act w hK hA hR hE
  cases r with
  | some r => exact (all_fail (Q := Q) "makeMap").1 hA |>.elim
  | none =>
    have hA : All Q (newK (.map [] 0) h nx fun id h nx => k (.map (some id)) h nx) := hA
    rw [all_newK] at hA
    obtain ⟨hn, hA⟩ := hA
    show ∃ v h' nx' ρ' u w', ((vS (Instr.makeMap t none)).run P w = _ ∨ _) ∧ _
    have hs : Step K a.lo ρ h nx w (upd ρ nx ⟨w.heap.size, 0, 0⟩) (T.set (.map [] 0) h nx) (nx + 1) (w.alloc (.map #[] 0)) :=
      Rel.new hR hn (.map [] 0) (.map #[] 0) 0 ⟨#[], rfl, .nil, by simp⟩
    refine hok_new (u := .map (some w.heap.size)) ?_ (VRel.map (upd_same ρ nx ⟨w.heap.size, 0, 0⟩)) hs hA
    simp [Instr.makeMap]

theorem ok_range (hB : TabOk B P) (t : TypeId) (x : Operand) (ty : TypeId) : HOk K P (hRange B t x) (ex (.range t x) ty) := by
  intro Q a e h nx k ρ act w hK hA hR hE
  unfold hRange at hA
  obtain ⟨v, hv, hA⟩ := evalK_ok hR.glob hE hA
  rw [all_onRow] at hA
  obtain ⟨ht, d, n, z, sub, hrow, hA⟩ := hA
  have hrun := run_underlying hB ht hrow w
  generalize hu : act.eval x = u at hv
  have e0 : ex (.range t x) ty act.eval = vS (Instr.range t u) := by subst hu; rfl
  rw [e0]
  split at hA
  · rename_i s
    cases hv
    rw [all_newK] at hA
    obtain ⟨hn, hA⟩ := hA
    refine hok_new (u := .pointer (some ⟨w.heap.size, 0, none⟩)) ?_ (vrel_new ρ nx _) (Rel.new hR hn (.str s 0) (.stringIter s 0) 0 ⟨rfl, rfl⟩) hA
    simp [Instr.range, hrun]
  · cases hv
    rw [all_newK] at hA
    obtain ⟨hn, hA⟩ := hA
    refine hok_new (u := .pointer (some ⟨w.heap.size, 0, none⟩)) ?_ (vrel_new ρ nx _) (Rel.new hR hn (.iter none 0 [] 0) (.mapIter none 0 #[] 0) 0 ⟨#[], rfl, rfl⟩) hA
    simp [Instr.range, hrun]
  · rename_i m
    rw [all_onMapObj] at hA
    obtain ⟨es, clock, hg, hA⟩ := hA
    rw [all_newK] at hA
    obtain ⟨hn, hA⟩ := hA
    cases hv with
    | map hi =>
      rename_i i
      have ho := hR.obj _ _ hi
      rw [hg] at ho
      obtain ⟨ces, hc1, hc2, _⟩ := ho
      refine hok_new (u := .pointer (some ⟨w.heap.size, 0, none⟩)) ?_ (vrel_new ρ nx _) (Rel.new hR hn (.iter (some m) clock [] clock) (.mapIter (some i.blk) clock #[] clock) 0 ⟨i, upd_le _ hR.fresh _ _ hi, rfl, rfl⟩) hA
      simp [Instr.range, hrun, run_getObj_at hc1 (by intros; simp)]
  · simp at hA

/-! parts that are put together -/
theorem fold_splice : ∀ (vc : List Value) (off j0 : Nat) (cells : List Value), off + j0 + vc.length ≤ cells.length →
    (vc.zipIdx j0).foldl (fun (cs : Array Value) (x : Value × Nat) => cs.setIfInBounds (off + x.2) x.1) (⟨cells⟩ : Array Value) = ⟨cells.take (off + j0) ++ vc ++ cells.drop (off + j0 + vc.length)⟩
  | [], off, j0, cells, _ => by simp
  | c :: vc, off, j0, cells, h => by
    simp only [List.length_cons] at h
    obtain ⟨A, R, hA, rfl⟩ : ∃ A R : List Value, A.length = off + j0 ∧ cells = A ++ R := ⟨cells.take (off + j0), cells.drop (off + j0), by simp; omega, (List.take_append_drop _ _).symm⟩
    cases R with
    | nil => simp at h; omega
    | cons c0 R =>
      rw [List.zipIdx_cons, List.foldl_cons]
      have e : ((⟨A ++ c0 :: R⟩ : Array Value).setIfInBounds (off + (c, j0).2) (c, j0).1) = ⟨A ++ c :: R⟩ := by
        apply Array.ext'
        rw [Array.toList_setIfInBounds]
        show (A ++ c0 :: R).set (off + j0) c = A ++ c :: R
        rw [← hA, List.set_append_right _ _ (Nat.le_refl _)]
        simp
      simp only [List.length_append, List.length_cons] at h
      rw [e, fold_splice vc off (j0 + 1) _ (by simp; omega)]
      congr 1
      rw [show off + (j0 + 1) = A.length + 1 by omega, ← hA]
      have h1 : (A ++ c :: R).take (A.length + 1) = A ++ [c] := by
        rw [show A ++ c :: R = (A ++ [c]) ++ R by simp]
        exact List.take_left' (by simp)
      have h2 : (A ++ c0 :: R).take A.length = A := List.take_left' rfl
      have h3 : (A ++ c :: R).drop (A.length + 1 + vc.length) = R.drop vc.length := by
        rw [show A ++ c :: R = (A ++ [c]) ++ R by simp, ← List.drop_drop, List.drop_left' (by simp)]
      have h4 : (A ++ c0 :: R).drop (A.length + (c :: vc).length) = R.drop vc.length := by
        rw [show A ++ c0 :: R = (A ++ [c0]) ++ R by simp, show A.length + (c :: vc).length = (A.length + 1) + vc.length by simp; omega, ← List.drop_drop, List.drop_left' (by simp)]
      rw [h1, h2, h3, h4]
      simp

theorem fill_one (v : Value) (off : Nat) (cells : List Value) (h : off + v.cells.toList.length ≤ cells.length) :
    v.cells.zipIdx.foldl (fun (cs : Array Value) (x : Value × Nat) => cs.setIfInBounds (off + x.2) x.1) (⟨cells⟩ : Array Value) = ⟨splice v.cells.toList cells off⟩ := by
  have := fold_splice v.cells.toList off 0 cells (by simpa using h)
  rw [← Array.foldl_toList, Array.toList_zipIdx]
  simpa [splice] using this

theorem fill_ok {ρ : Rho} (hg : ∀ g, g < 10 → ρ g = some ⟨g, 0, 0⟩) {n : Nat} {e : T Value} {act : Act} (he : ERel ρ n e act.tmps) (sub place : Nat → Option (Nat × Nat)) (hp : ∀ i q, sub i = some q → place i = some q) :
    ∀ (ps : List (Nat × Operand)) (cells us : List Value) (k : List Value → R), All Q (fillK sub n e ps cells k) → VRels ρ cells us →
      ∃ r rs, VRels ρ r rs ∧ Instr.fill place ⟨us⟩ (ps.map fun (x : Nat × Operand) => (x.1, act.eval x.2)) = some ⟨rs⟩ ∧ r.length = cells.length ∧ All Q (k r)
  | [], cells, us, k, h, hr => ⟨cells, us, hr, rfl, rfl, h⟩
  | (i, o) :: ps, cells, us, k, h, hr => by
    unfold fillK at h
    cases hs : sub i with
    | none => rw [hs] at h; simp at h
    | some q =>
      obtain ⟨off, size⟩ := q
      rw [hs] at h
      obtain ⟨v, hv, h'⟩ := evalK_ok hg he h
      rw [all_iteR_fail] at h'
      obtain ⟨hc, h'⟩ := h'
      simp only [Bool.and_eq_true, Nat.ble_eq] at hc
      have hsz := Nat.eq_of_beq_eq_true hc.1
      have hcs := hv.cells
      have hle : off + size ≤ cells.length := hc.2
      have hl1 := hcs.length
      have hl2 := hr.length
      have hr' : VRels ρ (splice v.cells.toList cells off) (splice (act.eval o).cells.toList us off) := by
        unfold splice
        rw [show off.add v.cells.toList.length = off + v.cells.toList.length from rfl, show off.add (act.eval o).cells.toList.length = off + (act.eval o).cells.toList.length from rfl, hl1]
        exact ((hr.take off).append hcs).append (hr.drop _)
      obtain ⟨r, rs, h1, h2, h3, h4⟩ := fill_ok hg he sub place hp ps _ _ k h' hr'
      refine ⟨r, rs, h1, ?_, ?_, h4⟩
      · have hsize : (act.eval o).cells.size = size := by rw [← Array.length_toList, ← hl1, hsz]
        rw [List.map_cons]
        unfold Instr.fill
        rw [hp i _ hs]
        have hus : off + size ≤ (⟨us⟩ : Array Value).size := by show off + size ≤ us.length; omega
        have hcond : ¬ ((decide ((act.eval o).cells.size ≠ size) || decide (off + (act.eval o).cells.size > (⟨us⟩ : Array Value).size)) = true) := by
          simp [hsize] at hus ⊢; omega
        simp only
        rw [if_neg hcond]
        rw [fill_one (act.eval o) off us (by rw [← hl1, hsz]; omega)]
        exact h2
      · rw [h3]
        unfold splice
        rw [show off.add v.cells.toList.length = off + v.cells.toList.length from rfl]
        simp only [List.length_append, List.length_take, List.length_drop]
        omega

theorem places_ok : ∀ (fs : List Field) (sub : List (Nat × Nat)), sub.length = fs.length → (∀ (k : Nat) f, fs[k]? = some f → ∃ j, P.info? f.type = some j ∧ sub[k]? = some (f.offset, j.size)) →
    fs.mapM (fun f => (P.info? f.type).map fun i => (f.offset, i.size)) = some sub
  | [], [], _, _ => rfl
  | f :: fs, s :: sub, hl, h => by
    obtain ⟨j, h1, h2⟩ := h 0 f rfl
    have ih := places_ok fs sub (by simpa using hl) fun k g hg => by simpa using h (k + 1) g (by simpa using hg)
    simp only [List.getElem?_cons_zero, Option.some.injEq] at h2
    simp [List.mapM_cons, h1, ih, h2]

theorem ok_build (hB : TabOk B P) (t : TypeId) (ps : Array (Nat × Operand)) (ty : TypeId) : HOk K P (hBuild B t ps) (ex (.build t ps) ty) := HOk.same fun Q a e h nx k ρ act w hA hR hE => by
  unfold hBuild at hA
  rw [all_onRow] at hA
  obtain ⟨ht, d, n, z, sub, hrow, hA⟩ := hA
  rw [all_onO] at hA
  obtain ⟨z, rfl, hA⟩ := hA
  obtain ⟨hzr, hzn⟩ := VRel.info hB ht hrow
  obtain ⟨hu, it, hi1, hi2, hi3, _⟩ := hB.row t d n _ sub ht hrow
  have hparts : (ps.map fun (x : Nat × Operand) => (x.1, act.eval x.2)).toList = ps.toList.map fun (x : Nat × Operand) => (x.1, act.eval x.2) := Array.toList_map
  have fin : ∀ (rs r : List Value), VRels ρ r rs → P.built t (ps.map fun (x : Nat × Operand) => (x.1, act.eval x.2)).toList = some ⟨rs⟩ → All Q (k (.agg ⟨r⟩) h nx) →
      ∃ v u, (ex (.build t ps) ty act.eval).run P w = .ok (.value u) w ∧ VRel ρ v u ∧ All Q (k v h nx) := fun rs r h1 h2 h3 =>
    ⟨_, .agg ⟨rs⟩, run_vS (run_build w t _ _ h2), VRel.agg' h1, h3⟩
  split at hA
  · rename_i fs
    obtain ⟨r, rs, h1, h2, _, h4⟩ := fill_ok hR.glob hE (fun i => sub[i]?) (fun i => sub.toArray[i]?) (by intro i q hq; simpa using hq) ps.toList _ _ _ hA hzr
    refine fin rs r h1 ?_ h4
    obtain ⟨hl, hf⟩ := hB.strct t fs n _ sub ht hrow
    have hp := places_ok (P := P) fs.toList sub (by simpa using hl) (fun k f hk => hf k f (by simpa using hk))
    unfold Program.built
    rw [hi1, hu]
    simp only [hi3, hp, hparts]
    exact h2
  · rename_i len el
    obtain ⟨j, hj1, hj2⟩ := hB.array t len el n _ sub ht hrow
    subst hj2
    obtain ⟨r, rs, h1, h2, _, h4⟩ := fill_ok hR.glob hE (stride [(0, j.size)]) (fun i => some (i * j.size, j.size)) (by intro i q hq; exact hq) ps.toList _ _ _ hA hzr
    refine fin rs r h1 ?_ h4
    unfold Program.built
    rw [hi1, hu]
    simp only [hi3, hj1, hparts]
    exact h2
  · simp at hA
end Go.Ev
