/-
THE EVALUATOR IS SOUND, second part: operations that lay or turn memory, append. No condition.
-/
import Derived.Test.YtldoonplgilhkaaGreatDoorEvA
import Derived.Laws.CopyRow
namespace Go.Ev
open Go Go.RowKit
variable {Q : Out → Prop} {K : Ctx} {P : Program} {B : Tab}

theorem manyOf_zero (l : List Value) : manyOf 0 l = [] := rfl
theorem manyOf_succ (n : Nat) (l : List Value) : manyOf (n + 1) l = l ++ manyOf n l := rfl
theorem length_manyOf (n : Nat) (l : List Value) : (manyOf n l).length = n * l.length := by
  induction n with
  | zero => simp [manyOf_zero]
  | succ n ih => rw [manyOf_succ, List.length_append, ih, Nat.succ_mul]; omega
theorem VRels.many {ρ : Rho} {l m : List Value} (h : VRels ρ l m) (n : Nat) : VRels ρ (manyOf n l) (manyOf n m) := by
  induction n with
  | zero => exact .nil
  | succ n ih => exact L2.append h ih
theorem getElem?_manyOf (n : Nat) (l : List Value) : ∀ i, (manyOf n l)[i]? = if i < n * l.length then l[i % l.length]? else none := by
  induction n with
  | zero => intro i; simp [manyOf_zero]
  | succ n ih =>
    intro i
    rw [manyOf_succ, List.getElem?_append]
    by_cases h : i < l.length
    · rw [if_pos h, if_pos (by rw [Nat.succ_mul]; omega), Nat.mod_eq_of_lt h]
    · rw [if_neg h, ih]
      by_cases h2 : i - l.length < n * l.length
      · rw [if_pos h2, if_pos (by rw [Nat.succ_mul]; omega)]
        congr 1
        exact (Nat.mod_eq_sub_mod (by omega)).symm
      · rw [if_neg h2, if_neg (by rw [Nat.succ_mul]; omega)]

theorem made_many (z : Array Value) (n : Nat) : madeCells z (n * z.size) = ⟨manyOf n z.toList⟩ := by
  apply Array.ext'
  apply List.ext_getElem?
  intro i
  rw [getElem?_manyOf]
  simp only [madeCells, Array.toList_map, Array.length_toList, List.getElem?_map]
  by_cases h : i < n * z.size
  · rw [if_pos h]
    have hz : 0 < z.size := by
      rcases Nat.eq_zero_or_pos z.size with h0 | h0
      · rw [h0] at h; simp at h
      · exact h0
    have hm := Nat.mod_lt i hz
    have e1 : (Array.range (n * z.size)).toList[i]? = some i := by simp [h]
    rw [e1]
    simp [hm]
  · rw [if_neg h]
    have e1 : (Array.range (n * z.size)).toList[i]? = none := by simp; omega
    rw [e1]
    rfl

theorem ok_buildSlice (hB : TabOk B P) (t : TypeId) (len : Nat) (ps : Array (Nat × Operand)) (ty : TypeId) : HOk K P (hBuildSlice B t len ps) (ex (.buildSlice t len ps) ty) := by
  intro Q a e h nx k ρ act w hK hA hR hE
  unfold hBuildSlice at hA
  rw [all_onRow] at hA
  obtain ⟨ht, d, n, z, sub, hrow, hA⟩ := hA
  split at hA
  · rename_i el
    rw [all_onRow] at hA
    obtain ⟨hte, de, ne, z, sube, hrowe, hA⟩ := hA
    rw [all_onO] at hA
    obtain ⟨z, rfl, hA⟩ := hA
    rw [all_iteR_fail, Nat.ble_eq] at hA
    obtain ⟨hsm, hA⟩ := hA
    have hsm : len * ne ≤ 1000000 := hsm
    obtain ⟨hzr, hzn⟩ := VRel.info hB hte hrowe
    obtain ⟨hue, ie, hi1, hi2, hi3, _⟩ := hB.row el de ne _ sube hte hrowe
    obtain ⟨j, hj1, hj2⟩ := hB.slice t el n _ _ ht hrow
    rw [hi1] at hj1
    cases hj1
    subst hj2
    subst hi2
    rw [← hzn] at hsm
    obtain ⟨r, rs, h1, h2, h3, h4⟩ := fill_ok hR.glob hE (stride [(0, ie.size)]) (fun i => some (i * ie.size, ie.size)) (by intro i q hq; exact hq) ps.toList _ _ _ hA (hzr.many len)
    rw [all_newCellsK] at h4
    obtain ⟨hn, hA⟩ := h4
    have hparts : (ps.map fun (x : Nat × Operand) => (x.1, act.eval x.2)).toList = ps.toList.map fun (x : Nat × Operand) => (x.1, act.eval x.2) := Array.toList_map
    have e0 : ex (.buildSlice t len ps) ty act.eval = vS (Instr.buildSlice t len (ps.map fun (x : Nat × Operand) => (x.1, act.eval x.2))) := rfl
    rw [e0]
    refine hok_new (u := .slice (some ⟨w.heap.size, 0, none⟩) len len) ?_ (vrel_slice ρ nx _ len len) (Rel.newCells hR hn h1) hA
    have hu := (hB.row t _ n _ _ ht hrow).1
    by_cases hpos : len * ie.size = 0
    · have hm : manyOf len z.cells.toList = [] := by
        apply List.eq_nil_of_length_eq_zero
        rw [length_manyOf, Array.length_toList, hzn, hpos]
      rw [hm] at h2
      have h2' : Instr.fill (fun i => some (i * ie.size, ie.size)) #[] (ps.toList.map fun (x : Nat × Operand) => (x.1, act.eval x.2)) = some ⟨rs⟩ := h2
      have hz0 : ¬ (16777216 < 0) := by omega
      simp [Instr.buildSlice, Go.run_underlying hu, sizeOf, typeInfo, hi1, hpos, h2', newRow, Array.range_zero']
    · refine run_buildSlice w t el len _ _ ie z hu hi1 hi3 (by rw [← hzn]; have := hsm; omega) hpos ?_
      rw [hparts]
      have hmm : Array.map (fun x => z.cells[x % z.cells.size]!) (Array.range (len * ie.size)) = ⟨manyOf len z.cells.toList⟩ := by
        rw [← hzn]; exact made_many z.cells len
      rw [hmm]
      exact h2
  · simp at hA

theorem ok_makeSlice (hB : TabOk B P) (t : TypeId) (l c : Operand) (ty : TypeId) : HOk K P (hMakeSlice B t l c) (ex (.makeSlice t l c) ty) := by
  intro Q a e h nx k ρ act w hK hA hR hE
  unfold hMakeSlice at hA
  rw [all_onRow] at hA
  obtain ⟨ht, d, n, z, sub, hrow, hA⟩ := hA
  split at hA
  · rename_i el
    obtain ⟨lv, hlv, hA1⟩ := evalK_ok hR.glob hE hA
    obtain ⟨cv, hcv, hA2⟩ := evalK_ok hR.glob hE hA1
    clear hA hA1
    rw [all_onIx] at hA2
    obtain ⟨ql, lN, rfl, hA3⟩ := hA2
    rw [all_onIx] at hA3
    obtain ⟨qc, cN, rfl, hA4⟩ := hA3
    rw [all_iteR_fail] at hA4
    obtain ⟨hc, hA5⟩ := hA4
    simp only [Bool.and_eq_true, Nat.ble_eq] at hc
    rw [all_onRow] at hA5
    obtain ⟨hte, de, ne, z, sube, hrowe, hA6⟩ := hA5
    rw [all_onO] at hA6
    obtain ⟨z, rfl, hA7⟩ := hA6
    rw [all_newCellsK] at hA7
    obtain ⟨hn, hA⟩ := hA7
    obtain ⟨hzr, hzn⟩ := VRel.info hB hte hrowe
    obtain ⟨hue, ie, hi1, hi2, hi3, _⟩ := hB.row el de ne _ sube hte hrowe
    have hu := (hB.row t _ n _ _ ht hrow).1
    have hby := hB.small el de ne _ sube hte hrowe ie hi1
    have e1 : act.eval l = .int ql (lN : Int) := VRel.atom rfl hlv
    have e2 : act.eval c = .int qc (cN : Int) := VRel.atom rfl hcv
    have e0 : ex (.makeSlice t l c) ty act.eval = vS (Instr.makeSlice t (.int ql (lN : Int)) (.int qc (cN : Int))) := by rw [← e1, ← e2]; rfl
    rw [e0]
    have hbc : ie.bytes * cN ≤ 1000000 * 100000 := Nat.mul_le_mul hby hc.2
    have hbc2 : (ie.bytes : Int) * (cN : Int) ≤ 281474976710656 := by
      rw [← Int.natCast_mul]
      omega
    have hrun := run_make (P := P) w t el ie z hu hi1 hi3 ql qc (lN : Int) (cN : Int) (by omega) (by omega) hbc2 (by omega)
    simp only [Int.toNat_natCast] at hrun
    rw [hi2, ← hzn, made_many] at hrun
    exact hok_new hrun (vrel_slice ρ nx _ lN cN) (Rel.newCells hR hn (hzr.many cN)) hA
  · simp at hA
end Go.Ev

namespace Go.Ev
open Go Go.RowKit
variable {Q : Out → Prop} {K : Ctx} {P : Program} {B : Tab}

theorem run_setObj_at {w : World} {r : Nat} {o : Obj} (h : w.heap[r]? = some o) (hn : ∀ cs el fz, o ≠ .cells cs el fz) (o' : Obj) : (setObj r o').run P w = .ok () { w with heap := w.heap.setIfInBounds r o' } := by
  cases o <;> first | (exact absurd rfl (hn _ _ _)) | simp [setObj, Sem.run, h]

theorem all_keyK (t : TypeId) (kv : Value) (k : R) : All Q (keyK B t kv k) ↔ t < 1024 ∧ ∃ d n z sub, B.ty.get t = .row d n z sub ∧ (keyD B t d kv = true ∧ clo kv = true) ∧ All Q k := by
  unfold keyK
  rw [all_onRow]
  constructor
  · rintro ⟨h, d, n, z, sub, hr, hA⟩
    rw [all_iteR_fail, Bool.and_eq_true] at hA
    exact ⟨h, d, n, z, sub, hr, hA.1, hA.2⟩
  · rintro ⟨h, d, n, z, sub, hr, h1, h2⟩
    refine ⟨h, d, n, z, sub, hr, ?_⟩
    rw [all_iteR_fail, Bool.and_eq_true]
    exact ⟨h1, h2⟩

theorem checkKey_ok (hB : TabOk B P) {t d n z sub} (ht : t < 1024) (hrow : B.ty.get t = .row d n z sub) {kv : Value} (hk : keyD B t d kv = true) (em : Bool) (w : World) : (Instr.checkKey em 10000 t kv).run P w = .ok () w := by
  have hrun := run_underlying hB ht hrow w
  unfold keyD at hk
  split at hk
  · show (Instr.checkKey em (9999 + 1) t _).run P w = _
    rw [Instr.checkKey, Sem.run_bind, hrun, Result.andThen_ok]; rfl
  · show (Instr.checkKey em (9999 + 1) t _).run P w = _
    rw [Instr.checkKey, Sem.run_bind, hrun, Result.andThen_ok]; rfl
  · rename_i fs cs
    simp only [Bool.and_eq_true, Nat.blt_eq] at hk
    obtain ⟨cs⟩ := cs
    exact hB.keys t (Nat.eq_of_beq_eq_true hk.2.2) em w cs (Nat.eq_of_beq_eq_true hk.1.2) hk.2.1
  · cases hk

theorem eqInts_eq : ∀ {x y : List Value}, eqInts x y = some true → x = y
  | [], [], _ => rfl
  | .int k a :: x, .int l b :: y, h => by
    cases he : eqInts x y with
    | none => simp [eqInts, he] at h
    | some r =>
      simp only [eqInts, he] at h
      split at h
      · rename_i hk
        simp only [Option.some.injEq, Bool.and_eq_true] at h
        simp only [decide_eq_true_eq] at hk
        subst hk
        rw [eqK_eq] at h
        have := h.2
        subst this
        rw [eqInts_eq he]
        have h1 := h.1
        simp at h1
        rw [h1]
      · cases h

theorem keyEq_eq {a b : Value} (h : keyEq a b = some true) : a = b := by
  unfold keyEq at h
  split at h
  · rename_i k m l n
    split at h
    · rename_i hk
      simp only [decide_eq_true_eq] at hk
      subst hk
      rw [eqK_eq] at h
      simp at h
      rw [h]
    · cases h
  · rename_i m n
    simp only [Option.some.injEq, beq_iff_eq] at h
    have : m = n := by
      obtain ⟨⟨m⟩⟩ := m; obtain ⟨⟨n⟩⟩ := n
      simp at h
      rw [h]
    rw [this]
  · rename_i m n
    obtain ⟨m⟩ := m; obtain ⟨n⟩ := n
    have := eqInts_eq h
    simp at this
    rw [this]
  · cases h

theorem beq_bytes (m n : ByteArray) : (m == n) = (m.data.toList == n.data.toList) := by
  rw [Bool.eq_iff_iff]
  obtain ⟨⟨m⟩⟩ := m; obtain ⟨⟨n⟩⟩ := n
  show ((⟨m⟩ : Array UInt8) == ⟨n⟩) = true ↔ (m == n) = true
  simp

/-- found, and where -/
inductive FRel (ρ : Rho) (es : List MapEntry) (kv : Value) : Nat → Option (Nat × Value) → Option (Nat × Value) → Prop
  | none {i} : FRel ρ es kv i none none
  | some {i j v u e} : es[j]? = some e → e.key = kv → e.val = v → VRel ρ v u → FRel ρ es kv i (some (i + j, v)) (some (i + j, u))

theorem FRel.cons {ρ : Rho} {e : MapEntry} {es : List MapEntry} {kv : Value} {i : Nat} {r q} (h : FRel ρ es kv (i + 1) r q) : FRel ρ (e :: es) kv i r q := by
  cases h with
  | none => exact .none
  | some h1 h2 h3 h4 =>
    rename_i j v u e'
    have : i + 1 + j = i + (j + 1) := by omega
    rw [this]
    exact .some (by simpa using h1) h2 h3 h4

theorem findNow_ok {ρ : Rho} {d : TypeDesc} {kv : Value} (hs : ∀ b r, keyEq kv b = some r → Instr.sameNow d kv b = some r) : ∀ {es ces : List MapEntry} {i : Nat} {r}, L2 (MRel ρ) es ces → findKey kv es i = some r → ∃ q, Instr.findNow d kv ces i = some q ∧ FRel ρ es kv i r q
  | [], [], i, r, _, h => by cases h; exact ⟨none, rfl, .none⟩
  | e :: es, c :: ces, i, r, .cons hm hr, h => by
    unfold findKey at h
    split at h
    · rename_i hk
      cases h
      refine ⟨some (i, c.val), ?_, ?_⟩
      · simp only [Instr.findNow]
        rw [hm.key, hs _ _ hk]
      · have := FRel.some (ρ := ρ) (es := e :: es) (kv := kv) (i := i) (j := 0) (v := e.val) (u := c.val) (e := e) rfl (keyEq_eq hk).symm rfl hm.val
        exact this
    · rename_i hk
      obtain ⟨q, h1, h2⟩ := findNow_ok hs hr h
      refine ⟨q, ?_, h2.cons⟩
      simp only [Instr.findNow]
      rw [hm.key, hs _ _ hk]
      exact h1
    · cases h

theorem findAsking_ok {ρ : Rho} {t : TypeId} {kv : Value} (w : World) (hs : ∀ b r, keyEq kv b = some r → (Op.equal t kv b).run P w = .ok r w) : ∀ {es ces : List MapEntry} {i : Nat} {r}, L2 (MRel ρ) es ces → findKey kv es i = some r →
    ∃ q, (Instr.findAsking t kv ces i).run P w = .ok q w ∧ FRel ρ es kv i r q
  | [], [], i, r, _, h => by cases h; exact ⟨none, rfl, .none⟩
  | e :: es, c :: ces, i, r, .cons hm hr, h => by
    unfold findKey at h
    split at h
    · rename_i hk
      cases h
      refine ⟨some (i, c.val), ?_, ?_⟩
      · simp only [Instr.findAsking, Sem.run_bind]
        rw [hm.key, hs _ _ hk]
        rfl
      · have := FRel.some (ρ := ρ) (es := e :: es) (kv := kv) (i := i) (j := 0) (v := e.val) (u := c.val) (e := e) rfl (keyEq_eq hk).symm rfl hm.val
        exact this
    · rename_i hk
      obtain ⟨q, h1, h2⟩ := findAsking_ok w hs hr h
      refine ⟨q, ?_, h2.cons⟩
      simp only [Instr.findAsking, Sem.run_bind]
      rw [hm.key, hs _ _ hk]
      exact h1
    · cases h

theorem findKey_ok (hB : TabOk B P) {t d n z sub} (ht : t < 1024) (hrow : B.ty.get t = .row d n z sub) {kv : Value} (hk : keyD B t d kv = true) {ρ : Rho} (w : World) {es ces : List MapEntry} {r} (hr : L2 (MRel ρ) es ces) (h : findKey kv es 0 = some r) :
    ∃ q, (Instr.findKey t kv ces).run P w = .ok q w ∧ FRel ρ es kv 0 r q := by
  have hrun := run_underlying hB ht hrow w
  have now : (∀ b r, keyEq kv b = some r → Instr.sameNow d kv b = some r) → ∃ q, (Instr.findKey t kv ces).run P w = .ok q w ∧ FRel ρ es kv 0 r q := by
    intro hs
    obtain ⟨q, h1, h2⟩ := findNow_ok hs hr h
    refine ⟨q, ?_, h2⟩
    simp only [Instr.findKey, Sem.run_bind, hrun, Result.andThen_ok, h1, Sem.run_pure]
  unfold keyD at hk
  split at hk
  · rename_i k l m
    refine now fun b r hb => ?_
    unfold keyEq at hb
    split at hb
    · rename_i heq
      cases heq
      split at hb
      · rename_i hkk
        simp only [decide_eq_true_eq] at hkk
        subst hkk
        cases hb
        rw [eqK_eq]
        simp [Instr.sameNow]
      · cases hb
    · rename_i heq; cases heq
    · rename_i heq; cases heq
    · cases hb
  · refine now fun b r hb => ?_
    unfold keyEq at hb
    split at hb
    · rename_i heq; cases heq
    · rename_i heq
      cases heq
      cases hb
      exact congrArg some (beq_bytes _ _)
    · rename_i heq; cases heq
    · cases hb
  · rename_i fs cs
    simp only [Bool.and_eq_true, Nat.blt_eq] at hk
    cases hr with
    | nil =>
      cases h
      refine ⟨none, ?_, .none⟩
      simp only [Instr.findKey, Sem.run_bind, hrun, Result.andThen_ok, Instr.findNow, Sem.run_pure]
    | cons hm hr' =>
      rename_i e c es' ces'
      obtain ⟨q, h1, h2⟩ := findAsking_ok (P := P) (t := t) (kv := .agg cs) w (fun b r hb => by
        unfold keyEq at hb
        split at hb
        · rename_i heq; cases heq
        · rename_i heq; cases heq
        · rename_i m n heq
          cases heq
          obtain ⟨cs⟩ := cs; obtain ⟨n⟩ := n
          exact (hB.eqs t hk.1.1).2 w cs n r (Nat.eq_of_beq_eq_true hk.1.2) hb
        · cases hb) (.cons hm hr') h
      refine ⟨q, ?_, h2⟩
      have hnone : Instr.findNow (.struct fs) (.agg cs) (c :: ces') 0 = none := by
        simp only [Instr.findNow]
        have : Instr.sameNow (.struct fs) (.agg cs) c.key = none := rfl
        rw [this]
      simp only [Instr.findKey, Sem.run_bind, hrun, Result.andThen_ok, hnone]
      exact h1
  · cases hk
end Go.Ev

namespace Go.Ev
open Go Go.RowKit
variable {Q : Out → Prop} {K : Ctx} {P : Program} {B : Tab}

def lookupTail (kt el : TypeId) (kv : Value) (ok : Bool) (ces : Array MapEntry) : Sem Value := do
  Instr.checkKey ces.isEmpty 10000 kt kv
  let (v, ok') ← match ← Instr.findKey kt kv ces.toList with
    | some (_, v) => pure (v, true)
    | none => pure (← zeroValue el, false)
  pure (if ok then .tuple #[v, .bool ok'] else v)

theorem ok_lookup (hB : TabOk B P) (t : TypeId) (x y : Operand) (ok : Bool) (ty : TypeId) : HOk K P (hLookup B t x y ok) (ex (.lookup t x y ok) ty) := HOk.same fun Q a e h nx k ρ act w hA hR hE => by
  unfold hLookup at hA
  obtain ⟨v, hv, hA1⟩ := evalK_ok hR.glob hE hA
  obtain ⟨kv, hkv, hA2⟩ := evalK_ok hR.glob hE hA1
  clear hA hA1
  rw [all_onMap] at hA2
  obtain ⟨m, rfl, hA3⟩ := hA2
  rw [all_onRow] at hA3
  obtain ⟨ht, d, n, z, sub, hrow, hA4⟩ := hA3
  split at hA4
  · rename_i kt el
    rw [all_keyK] at hA4
    obtain ⟨htk, dk, nk, zk, subk, hrowk, ⟨hkd, hkc⟩, hA5⟩ := hA4
    have hkey : act.eval y = kv := VRel.clo hkc hkv
    have hrun := run_underlying hB ht hrow w
    generalize hu : act.eval x = u at hv
    have e0 : ex (.lookup t x y ok) ty act.eval = vS (Instr.lookup t u kv ok) := by rw [← hu, ← hkey]; rfl
    rw [e0]
    have main : ∀ (es : List MapEntry) (ces : Array MapEntry), (Instr.lookup t u kv ok).run P w = (lookupTail kt el kv ok ces).run P w →
        L2 (MRel ρ) es ces.toList → All Q (foundK B el kv es fun v b => k (if ok then .tuple #[v, .bool b] else v) h nx) →
        ∃ v u', (vS (Instr.lookup t u kv ok)).run P w = .ok (.value u') w ∧ VRel ρ v u' ∧ All Q (k v h nx) := by
      intro es ces hces hr hA
      unfold foundK at hA
      rw [all_onO] at hA
      obtain ⟨r, hr1, hA⟩ := hA
      obtain ⟨q, hq, hf⟩ := findKey_ok hB htk hrowk hkd w hr hr1
      have hck := fun em => checkKey_ok hB htk hrowk hkd em w
      cases hf with
      | none =>
        have hA : All Q (onRow B el fun _ _ z _ => onO z "zero" fun z => k (if ok then .tuple #[z, .bool false] else z) h nx) := hA
        rw [all_onRow] at hA
        obtain ⟨hte, de, ne, ze, sube, hrowe, hA⟩ := hA
        rw [all_onO] at hA
        obtain ⟨z, rfl, hA⟩ := hA
        have hz := run_zeroValue hB hte hrowe w
        obtain ⟨_, it, _, _, _, h4⟩ := hB.row el de ne _ sube hte hrowe
        have hzc := VRel.of_clo (ρ := ρ) (h4 z rfl).1
        refine ⟨_, if ok then .tuple #[z, .bool false] else z, run_vS ?_, ?_, hA⟩
        · rw [hces]
          simp [lookupTail, hck, hq, hz]
        · cases ok with
          | true => exact VRel.tuple' (.cons hzc (.cons (.bool false) .nil))
          | false => exact hzc
      | some h1 h2 h3 h4 =>
        rename_i j v u' e'
        refine ⟨_, if ok then .tuple #[u', .bool true] else u', run_vS ?_, ?_, hA⟩
        · rw [hces]
          simp [lookupTail, hck, hq]
        · cases ok with
          | true => exact VRel.tuple' (.cons h4 (.cons (.bool true) .nil))
          | false => exact h4
    cases hv with
    | nilMap =>
      refine main [] #[] ?_ .nil hA5
      simp [Instr.lookup, lookupTail, hrun]
      rfl
    | map hi =>
      rename_i id i
      have hA5 : All Q (onMapObj h id fun es _ => foundK B el kv es fun v b => k (if ok then .tuple #[v, .bool b] else v) h nx) := hA5
      rw [all_onMapObj] at hA5
      obtain ⟨es, clock, hg, hA5⟩ := hA5
      have ho := hR.obj _ _ hi
      rw [hg] at ho
      obtain ⟨ces, hc1, hc2, _⟩ := ho
      refine main es ces ?_ hc2 hA5
      have hget := run_getObj_at (P := P) hc1 (by intros; simp)
      simp [Instr.lookup, lookupTail, hrun, hget]
      rfl
  · simp at hA4

theorem all_modEntry {ρ : Rho} (f g : MapEntry → MapEntry) : ∀ (es ces : List MapEntry) (i : Nat), L2 (MRel ρ) es ces → (∀ e c, es[i]? = some e → ces[i]? = some c → MRel ρ (f e) (g c)) → L2 (MRel ρ) (modEntry f es i) (ces.modify i g)
  | [], [], i, _, _ => by simp [modEntry]; exact .nil
  | e :: es, c :: ces, 0, .cons h1 h2, h => by
    simp only [modEntry, List.modify_zero_cons]
    exact .cons (h e c rfl rfl) h2
  | e :: es, c :: ces, i + 1, .cons h1 h2, h => by
    simp only [modEntry, List.modify_succ_cons]
    exact .cons h1 (all_modEntry f g es ces i h2 fun e c he hc => h e c (by simpa using he) (by simpa using hc))
theorem mem_modEntry (f : MapEntry → MapEntry) : ∀ (es : List MapEntry) (i : Nat) e, e ∈ modEntry f es i → e ∈ es ∨ ∃ e0 ∈ es, e = f e0
  | [], i, e, h => by simp [modEntry] at h
  | e0 :: es, 0, e, h => by
    simp only [modEntry, List.mem_cons] at h
    rcases h with rfl | h
    · exact .inr ⟨e0, by simp, rfl⟩
    · exact .inl (by simp [h])
  | e0 :: es, i + 1, e, h => by
    simp only [modEntry, List.mem_cons] at h
    rcases h with rfl | h
    · exact .inl (by simp)
    · rcases mem_modEntry f es i e h with h | ⟨e1, h1, rfl⟩
      · exact .inl (by simp [h])
      · exact .inr ⟨e1, by simp [h1], rfl⟩

theorem sameBits_ints : ∀ (n : Nat) (l : List Value), allInt l = true → ((l.zip l).all fun (x, y) => Instr.sameBits n x y) = true
  | _, [], _ => rfl
  | n, v :: l, h => by
    unfold allInt at h
    split at h
    · rename_i heq; cases heq
    · rename_i heq
      cases heq
      simp only [List.zip_cons_cons, List.all_cons, Bool.and_eq_true]
      refine ⟨?_, sameBits_ints n l h⟩
      cases n <;> simp [Instr.sameBits]
    · cases h
theorem keyThatStays_ok {t : TypeId} {d : TypeDesc} {kv : Value} (hk : keyD B t d kv = true) (w : World) : (Instr.keyThatStays kv kv).run P w = .ok kv w := by
  have : Instr.sameBits 10000 kv kv = true := by
    unfold keyD at hk
    split at hk
    · show Instr.sameBits (9999 + 1) _ _ = true
      simp [Instr.sameBits]
    · show Instr.sameBits (9999 + 1) _ _ = true
      simp [Instr.sameBits, beq_bytes]
    · rename_i fs cs
      simp only [Bool.and_eq_true] at hk
      show Instr.sameBits (9999 + 1) _ _ = true
      simp only [Instr.sameBits, Bool.and_eq_true]
      exact ⟨by simp, sameBits_ints 9999 _ hk.2.1⟩
    · cases hk
  unfold Instr.keyThatStays
  rw [if_pos this]
  rfl

theorem ok_mapUpdate' (hB : TabOk B P) (t : TypeId) (m y x : Operand) (s : (Operand → Value) → Sem Next) (hs : ∀ ρ, s ρ = uS (Instr.mapUpdate t (ρ m) (ρ y) (ρ x))) : HOk K P (hMapUpdate B t m y x) s := by
  intro Q a e h nx k ρ act w hK hA hR hE
  unfold hMapUpdate at hA
  obtain ⟨mv, hmv, hA1⟩ := evalK_ok hR.glob hE hA
  obtain ⟨kv, hkv, hA2⟩ := evalK_ok hR.glob hE hA1
  obtain ⟨v, hv, hA3⟩ := evalK_ok hR.glob hE hA2
  clear hA hA1 hA2
  rw [all_onMap] at hA3
  obtain ⟨r, rfl, hA4⟩ := hA3
  rw [all_onO] at hA4
  obtain ⟨id, rfl, hA5⟩ := hA4
  rw [all_iteR_fail'] at hA5
  obtain ⟨hlo, hA5⟩ := hA5
  rw [all_onMapObj] at hA5
  obtain ⟨es, clock, hg, hA6⟩ := hA5
  rw [all_onRow] at hA6
  obtain ⟨ht, d, n, z, sub, hrow, hA7⟩ := hA6
  split at hA7
  · rename_i kt el
    rw [all_keyK] at hA7
    obtain ⟨htk, dk, nk, zk, subk, hrowk, ⟨hkd, hkc⟩, hA8⟩ := hA7
    rw [all_onO] at hA8
    obtain ⟨r, hr, hA⟩ := hA8
    have hkey : act.eval y = kv := VRel.clo hkc hkv
    have hrun := run_underlying hB ht hrow w
    rw [hs, hkey]
    cases hmv' : act.eval m <;> rw [hmv'] at hmv <;> cases hmv
    rename_i i hi
    have ho := hR.obj _ _ hi
    rw [hg] at ho
    obtain ⟨ces, hc1, hc2, hc3⟩ := ho
    obtain ⟨q, hq, hf⟩ := findKey_ok hB htk hrowk hkd w hc2 hr
    have hck := fun em => checkKey_ok hB htk hrowk hkd em w
    have hlo' : a.lo ≤ id := by
      have : ¬ id < a.lo := by rw [← Nat.blt_eq, hlo]; simp
      omega
    have hlive : isLive (h.get id) = true := by rw [hg]; rfl
    have hget := run_getObj_at (P := P) hc1 (by intros; simp)
    cases hf with
    | none =>
      refine ⟨_, _, _, ρ, undef, _, .inr ⟨run_uS (w' := { w with heap := w.heap.setIfInBounds ‹Info›.blk (.map (ces.push { key := kv, val := act.eval x, born := clock }) (clock + 1)) }) ?_, rfl⟩, VRel.undef ρ, ?_, hA⟩
      · simp only [Instr.mapUpdate, Sem.run_bind, hrun, Result.andThen_ok, hget, hck, hq]
        exact run_setObj_at hc1 (by intros; simp) _
      refine Rel.turn hR hi hlo' hK hlive (.map (es ++ [⟨kv, v, clock⟩]) (clock + 1)) _ ⟨_, rfl, ?_, ?_⟩
      · rw [Array.toList_push]
        exact L2.append hc2 (.cons ⟨rfl, hkc, rfl, hv⟩ .nil)
      · intro e he
        simp only [List.mem_append, List.mem_singleton] at he
        rcases he with he | rfl
        · have := hc3 e he; omega
        · exact Nat.lt_succ_self _
    | some h1 h2 h3 h4 =>
      rename_i j v' u' e'
      obtain ⟨c, hcj, hmr⟩ := hc2.get j _ h1
      have hcj' : ces[0 + j]? = some c := by simpa using hcj
      refine ⟨_, _, _, ρ, undef, _, .inr ⟨run_uS (w' := { w with heap := w.heap.setIfInBounds ‹Info›.blk (.map (ces.modify (0 + j) fun e => { e with key := kv, val := act.eval x }) clock) }) ?_, rfl⟩, VRel.undef ρ, ?_, hA⟩
      · simp only [Instr.mapUpdate, Sem.run_bind, hrun, Result.andThen_ok, hget, hck, hq]
        have hk1 : ((ces[0 + j]?).map (·.key)).getD kv = kv := by rw [hcj']; simp [hmr.key, h2]
        rw [hk1, keyThatStays_ok hkd w]
        exact run_setObj_at hc1 (by intros; simp) _
      · refine Rel.turn hR hi hlo' hK hlive (.map (modEntry (fun e => ⟨kv, v, e.born⟩) es (0 + j)) clock) _ ⟨_, rfl, ?_, ?_⟩
        · rw [Array.toList_modify]
          refine all_modEntry _ _ _ _ _ hc2 fun e c he hc => ?_
          obtain ⟨c', hc', hm⟩ := hc2.get _ _ he
          rw [hc'] at hc; cases hc
          exact ⟨rfl, hkc, hm.born, hv⟩
        · intro e he
          rcases mem_modEntry _ _ _ _ he with he | ⟨e0, he0, rfl⟩
          · exact hc3 e he
          · exact hc3 e0 he0
  · simp at hA7
theorem ok_mapUpdate (hB : TabOk B P) (t : TypeId) (m y x : Operand) (ty : TypeId) : HOk K P (hMapUpdate B t m y x) (ex (.mapUpdate t m y x) ty) := ok_mapUpdate' hB t m y x _ fun _ => rfl
theorem ok_insert (hB : TabOk B P) (t : TypeId) (m y x : Operand) (ty : TypeId) : HOk K P (hMapUpdate B t m y x) (ex (.insert t m y x) ty) := ok_mapUpdate' hB t m y x _ fun _ => rfl
end Go.Ev

namespace Go.Ev
open Go Go.RowKit
variable {Q : Out → Prop} {K : Ctx} {P : Program} {B : Tab}

theorem not_blt {a b : Nat} (h : Nat.blt a b = false) : b ≤ a := by
  have : ¬ a < b := by rw [← Nat.blt_eq, h]; simp
  omega

theorem ok_mapEntry (hB : TabOk B P) (t : TypeId) (m y : Operand) (ty : TypeId) : HOk K P (hMapEntry B t m y) (ex (.mapEntry t m y) ty) := by
  intro Q a e h nx k ρ act w hK hA hR hE
  unfold hMapEntry at hA
  obtain ⟨mv, hmv, hA1⟩ := evalK_ok hR.glob hE hA
  obtain ⟨kv, hkv, hA3⟩ := evalK_ok hR.glob hE hA1
  clear hA hA1
  rw [all_onMap] at hA3
  obtain ⟨r, rfl, hA4⟩ := hA3
  rw [all_onO] at hA4
  obtain ⟨id, rfl, hA5⟩ := hA4
  rw [all_iteR_fail'] at hA5
  obtain ⟨hlo, hA5⟩ := hA5
  rw [all_onMapObj] at hA5
  obtain ⟨es, clock, hg, hA6⟩ := hA5
  rw [all_onRow] at hA6
  obtain ⟨ht, d, n, z, sub, hrow, hA7⟩ := hA6
  split at hA7
  · rename_i kt el
    rw [all_keyK] at hA7
    obtain ⟨htk, dk, nk, zk, subk, hrowk, ⟨hkd, hkc⟩, hA8⟩ := hA7
    rw [all_onO] at hA8
    obtain ⟨r, hr, hA⟩ := hA8
    have hkey : act.eval y = kv := VRel.clo hkc hkv
    have hrun := run_underlying hB ht hrow w
    have e0 : ex (.mapEntry t m y) ty act.eval = vS (Instr.mapEntry t (act.eval m) kv) := by rw [← hkey]; rfl
    rw [e0]
    cases hmv' : act.eval m <;> rw [hmv'] at hmv <;> cases hmv
    rename_i i hi
    have ho := hR.obj _ _ hi
    rw [hg] at ho
    obtain ⟨ces, hc1, hc2, hc3⟩ := ho
    obtain ⟨q, hq, hf⟩ := findKey_ok hB htk hrowk hkd w hc2 hr
    have hck := fun em => checkKey_ok hB htk hrowk hkd em w
    have hlo' : a.lo ≤ id := not_blt hlo
    have hlive : isLive (h.get id) = true := by rw [hg]; rfl
    have hget := run_getObj_at (P := P) hc1 (by intros; simp)
    cases hf with
    | none =>
      have hA : All Q (onRow B el fun _ _ z _ => onO z "zero" fun z => k (.tuple #[z, .int .i64 (Int.ofNat clock)]) (T.set (.map (es ++ [⟨kv, z, clock⟩]) (Nat.succ clock)) h id) nx) := hA
      rw [all_onRow] at hA
      obtain ⟨hte, de, ne, ze, sube, hrowe, hA⟩ := hA
      rw [all_onO] at hA
      obtain ⟨z, rfl, hA⟩ := hA
      have hz := run_zeroValue hB hte hrowe w
      obtain ⟨_, it, _, _, _, h4⟩ := hB.row el de ne _ sube hte hrowe
      have hzc := VRel.of_clo (ρ := ρ) (h4 z rfl).1
      refine hok_new (u := .tuple #[z, .int .i64 (clock : Int)]) (w' := { w with heap := w.heap.setIfInBounds ‹Info›.blk (.map (ces.push { key := kv, val := z, born := clock }) (clock + 1)) }) ?_
        (VRel.tuple' (.cons hzc (.cons (.int _ _) .nil))) (Rel.turn hR hi hlo' hK hlive (.map (es ++ [⟨kv, z, clock⟩]) (clock + 1)) _ ⟨_, rfl, ?_, ?_⟩) hA
      · simp [Instr.mapEntry, hrun, hget, hck, hq, hz, run_setObj_at hc1 (by intros; simp), goInt]
      · rw [Array.toList_push]
        exact L2.append hc2 (.cons ⟨rfl, hkc, rfl, hzc⟩ .nil)
      · intro e he
        simp only [List.mem_append, List.mem_singleton] at he
        rcases he with he | rfl
        · have := hc3 e he; omega
        · exact Nat.lt_succ_self _
    | some h1 h2 h3 h4 =>
      rename_i j v' u' e'
      obtain ⟨c, hcj, hmr⟩ := hc2.get j _ h1
      have hcj' : ces[j]? = some c := by simpa using hcj
      have hb : bornAt es (0 + j) = c.born := by
        unfold bornAt
        rw [Nat.zero_add, h1]
        exact hmr.born.symm
      have hk1 : ((ces[j]?).map (·.key)).getD kv = kv := by rw [hcj']; simp [hmr.key, h2]
      have hkt := keyThatStays_ok hkd (P := P) w
      have hA : All Q (k (.tuple #[v', .int .i64 (Int.ofNat (bornAt es (0 + j)))]) (T.set (.map (modEntry (fun e => ⟨kv, e.val, e.born⟩) es (0 + j)) clock) h id) nx) := hA
      rw [hb] at hA
      refine hok_new (u := .tuple #[u', .int .i64 (c.born : Int)]) (w' := { w with heap := w.heap.setIfInBounds ‹Info›.blk (.map (ces.modify j fun e => { e with key := kv }) clock) }) ?_
        (VRel.tuple' (.cons h4 (.cons (.int _ _) .nil))) (Rel.turn hR hi hlo' hK hlive (.map (modEntry (fun e => ⟨kv, e.val, e.born⟩) es (0 + j)) clock) _ ⟨_, rfl, ?_, ?_⟩) hA
      · simp only [Instr.mapEntry, Sem.run_bind, hrun, Result.andThen_ok, hget, hck, hq, Nat.zero_add, hk1, hkt, run_setObj_at hc1 (by intros; simp), Sem.run_pure]
        rw [hcj']
        rfl
      · rw [Array.toList_modify, Nat.zero_add]
        refine all_modEntry _ _ _ _ _ hc2 fun e c he hc => ?_
        obtain ⟨c', hc', hm⟩ := hc2.get _ _ he
        rw [hc'] at hc; cases hc
        exact ⟨rfl, hkc, hm.born, hm.val⟩
      · intro e he
        rcases mem_modEntry _ _ _ _ he with he | ⟨e0, he0, rfl⟩
        · exact hc3 e he
        · exact hc3 e0 he0
  · simp at hA7

theorem stampIx_ok {ρ : Rho} (b : Nat) : ∀ {es ces : List MapEntry} (i : Nat) {j : Nat}, L2 (MRel ρ) es ces → stampIx b es i = some j → ∃ j', j = i + j' ∧ ces.findIdx? (fun e => (e.born : Int) == (b : Int)) = some j'
  | e :: es, c :: ces, i, j, .cons hm hr, h => by
    unfold stampIx at h
    split at h
    · rename_i hb
      cases h
      have := Nat.eq_of_beq_eq_true hb
      refine ⟨0, rfl, ?_⟩
      rw [List.findIdx?_cons, hm.born, this]
      simp
    · rename_i hb
      obtain ⟨j', rfl, h2⟩ := stampIx_ok b (i + 1) hr h
      refine ⟨j' + 1, by omega, ?_⟩
      have hne : ¬ ((c.born : Int) == (b : Int)) = true := by
        rw [hm.born]
        intro h'
        apply hb
        have : e.born = b := by
          have h2 : (e.born : Int) = (b : Int) := by simpa using h'
          exact Int.ofNat.inj h2
        rw [this]; exact Nat.beq_refl b
      rw [List.findIdx?_cons, if_neg hne, h2]
      rfl

theorem ok_entryStore (t : TypeId) (m st x : Operand) (ty : TypeId) : HOk K P (hEntryStore m st x) (ex (.entryStore t m st x) ty) := by
  intro Q a e h nx k ρ act w hK hA hR hE
  unfold hEntryStore at hA
  obtain ⟨mv, hmv, hA1⟩ := evalK_ok hR.glob hE hA
  obtain ⟨sv, hsv, hA2⟩ := evalK_ok hR.glob hE hA1
  obtain ⟨v, hv, hA3⟩ := evalK_ok hR.glob hE hA2
  clear hA hA1 hA2
  rw [all_onMap] at hA3
  obtain ⟨r, rfl, hA4⟩ := hA3
  rw [all_onO] at hA4
  obtain ⟨id, rfl, hA5⟩ := hA4
  rw [all_onIx] at hA5
  obtain ⟨q, b, rfl, hA5⟩ := hA5
  rw [all_iteR_fail'] at hA5
  obtain ⟨hlo, hA5⟩ := hA5
  rw [all_onMapObj] at hA5
  obtain ⟨es, clock, hg, hA6⟩ := hA5
  rw [all_onO] at hA6
  obtain ⟨j, hj, hA⟩ := hA6
  have hst : act.eval st = .int q (b : Int) := VRel.atom rfl hsv
  have e0 : ex (.entryStore t m st x) ty act.eval = uS (Instr.entryStore t (act.eval m) (act.eval st) (act.eval x)) := rfl
  rw [e0, hst]
  cases hmv' : act.eval m <;> rw [hmv'] at hmv <;> cases hmv
  rename_i i hi
  have ho := hR.obj _ _ hi
  rw [hg] at ho
  obtain ⟨ces, hc1, hc2, hc3⟩ := ho
  have hlo' : a.lo ≤ id := not_blt hlo
  have hlive : isLive (h.get id) = true := by rw [hg]; rfl
  have hget := run_getObj_at (P := P) hc1 (by intros; simp)
  obtain ⟨j', hjj, hfi⟩ := stampIx_ok b 0 hc2 hj
  rw [Nat.zero_add] at hjj
  subst hjj
  have hfi' : ces.findIdx? (fun e => (e.born : Int) == (b : Int)) = some j := by rw [← List.findIdx?_toArray] at hfi; simpa using hfi
  refine ⟨_, _, _, ρ, undef, _, .inr ⟨run_uS (w' := { w with heap := w.heap.setIfInBounds ‹Info›.blk (.map (ces.modify j fun e => { e with val := act.eval x }) clock) }) ?_, rfl⟩, VRel.undef ρ, ?_, hA⟩
  · simp only [Instr.entryStore, Sem.run_bind, hget, Result.andThen_ok, asInt, asIntOf, Sem.run_pure, hfi']
    exact run_setObj_at hc1 (by intros; simp) _
  · refine Rel.turn hR hi hlo' hK hlive (.map (modEntry (fun e => ⟨e.key, v, e.born⟩) es j) clock) _ ⟨_, rfl, ?_, ?_⟩
    · rw [Array.toList_modify]
      refine all_modEntry _ _ _ _ _ hc2 fun e c he hc => ?_
      obtain ⟨c', hc', hm⟩ := hc2.get _ _ he
      rw [hc'] at hc; cases hc
      exact ⟨hm.key, hm.clo, hm.born, hv⟩
    · intro e he
      rcases mem_modEntry _ _ _ _ he with he | ⟨e0, he0, rfl⟩
      · exact hc3 e he
      · exact hc3 e0 he0

theorem entryOf_ok {ρ : Rho} (st : Nat) : ∀ {es ces : List MapEntry} {e : MapEntry}, L2 (MRel ρ) es ces → entryOf st es = some e → ∃ c, ces.find? (fun e => e.born == st) = some c ∧ MRel ρ e c
  | e0 :: es, c :: ces, e, .cons hm hr, h => by
    unfold entryOf at h
    split at h
    · rename_i hb
      cases h
      have := Nat.eq_of_beq_eq_true hb
      refine ⟨c, ?_, hm⟩
      rw [List.find?_cons, hm.born, this]
      simp
    · rename_i hb
      obtain ⟨c', h1, h2⟩ := entryOf_ok st hr h
      refine ⟨c', ?_, h2⟩
      have hne : (c.born == st) = false := by
        rw [hm.born]
        cases hq : (e0.born == st) with
        | false => rfl
        | true =>
          have h2 : e0.born = st := by simpa using hq
          exact absurd (by rw [h2]; exact Nat.beq_refl st) hb
      rw [List.find?_cons, hne]
      exact h1

theorem ok_entry (x : Operand) (ty : TypeId) : HOk K P (hEntry x) (ex (.entry x) ty) := HOk.same fun Q a e h nx k ρ act w hA hR hE => by
  unfold hEntry at hA
  obtain ⟨v, hv, hA1⟩ := evalK_ok hR.glob hE hA
  clear hA
  rw [all_onPtr] at hA1
  obtain ⟨id, off, rfl, hA2⟩ := hA1
  rw [all_iteR_fail] at hA2
  obtain ⟨hoff, hA⟩ := hA2
  have := Nat.eq_of_beq_eq_true hoff
  subst this
  have e0 : ex (.entry x) ty act.eval = vS (Instr.entry (act.eval x)) := rfl
  rw [e0]
  generalize act.eval x = u at hv
  cases hv with
  | ptr hi =>
    rename_i i
    split at hA
    · rename_i m since stamp seen last hg
      rw [all_onMapObj] at hA
      obtain ⟨es, clock, hgm, hA⟩ := hA
      rw [all_iteR_fail, all_onO] at hA
      obtain ⟨hcl, e1, he1, hA⟩ := hA
      have hcl := Nat.eq_of_beq_eq_true hcl
      subst hcl
      have ho := hR.obj _ _ hi
      rw [hg] at ho
      obtain ⟨j, hj, hit, hdl⟩ := ho
      have hom := hR.obj _ _ hj
      rw [hgm] at hom
      obtain ⟨ces, hc1, hc2, _⟩ := hom
      obtain ⟨c, hf, hm⟩ := entryOf_ok stamp hc2 he1
      have hf' : ces.find? (fun e => e.born == stamp) = some c := by rw [← List.find?_toArray] at hf; simpa using hf
      refine ⟨_, .tuple #[c.key, c.val], run_vS ?_, VRel.tuple' (.cons ?_ (.cons hm.val .nil)), hA⟩
      · have hback : (⟨(stamp :: seen).reverse⟩ : Array Nat).back? = some stamp := by
          simp
        rw [hdl]
        simp only [Instr.entry, Sem.run_bind, run_getObj_at hit (by intros; simp), Result.andThen_ok, hback, run_getObj_at hc1 (by intros; simp)]
        simp [hf']
      · rw [hm.key]; exact VRel.of_clo hm.clo
    · simp at hA

theorem L2.filter {α β : Type} {r : α → β → Prop} {p : α → Bool} {q : β → Bool} (hpq : ∀ a b, r a b → p a = q b) {l : List α} {m : List β} (h : L2 r l m) : L2 r (l.filter p) (m.filter q) := by
  induction h with
  | nil => exact .nil
  | @cons a b l m hr _ ih =>
    rw [List.filter_cons, List.filter_cons, ← hpq a b hr]
    split
    · exact .cons hr ih
    · exact ih

theorem run_next_map {P : Program} {w : World} {r m since clock : Nat} {seenA : Array Nat} {ces : Array MapEntry} (ty : TypeId) (hit : w.heap[r]? = some (.mapIter (some m) since seenA since)) (hm : w.heap[m]? = some (.map ces clock))
    (hb : ∀ c ∈ ces, c.born < since) :
    ((ces.filter fun e => !seenA.contains e.born) = #[] ∧ (Instr.next (.pointer (some ⟨r, 0, none⟩)) false ty).run P w = .ok (.tuple #[.bool false]) w) ∨
    (∃ (k : Nat) (c : MapEntry) (d : Nat), (ces.filter fun e => !seenA.contains e.born)[k]? = some c ∧ (Instr.next (.pointer (some ⟨r, 0, none⟩)) false ty).run P w =
      .ok (.tuple #[.bool true, c.key, c.val]) { w with drawn := w.drawn + d, heap := w.heap.setIfInBounds r (.mapIter (some m) since (seenA.push c.born) clock) }) := by
  have hget := run_getObj_at (P := P) hit (by intros; simp)
  have hgm := run_getObj_at (P := P) hm (by intros; simp)
  generalize hleft : (ces.filter fun e => !seenA.contains e.born) = left
  have hlb : ∀ c ∈ left, c.born < since := by
    intro c hc
    rw [← hleft] at hc
    exact hb c (Array.mem_filter.1 hc).1
  have hold : left.filter (fun e => decide (e.born < since)) = left := by
    rw [Array.filter_eq_self]
    intro c hc
    simpa using hlb c hc
  have hnew : left.filter (fun e => decide (e.born ≥ since)) = #[] := by
    rw [Array.filter_eq_empty_iff]
    intro c hc
    have := hlb c hc
    simp; omega
  have hcond : (!seenA.isEmpty && !ces.isEmpty && ces.all (fun e => decide (e.born ≥ since))) = false := by
    cases he : ces.isEmpty with
    | true => simp
    | false =>
      have hpos : 0 < ces.size := by
        rcases Nat.eq_zero_or_pos ces.size with h0 | h0
        · rw [Array.isEmpty_iff_size_eq_zero.2 h0] at he; cases he
        · exact h0
      have hna : ces.all (fun e => decide (e.born ≥ since)) = false := by
        rw [Array.all_eq_false]
        refine ⟨0, hpos, ?_⟩
        have := hb ces[0] (by simp)
        simp; omega
      rw [hna]; simp
  have body : (Instr.next (.pointer (some ⟨r, 0, none⟩)) false ty).run P w = (do
      match ((if left.isEmpty then #[none] else #[]) ++ (left ++ #[]).map some : Array (Option MapEntry))[← choose (.mapNext ((if left.isEmpty then #[none] else #[]) ++ (left ++ #[]).map some : Array (Option MapEntry)).size)]? with
      | some (some e) => do
        setObj r (.mapIter (some m) since (seenA.push e.born) clock)
        pure (.tuple #[.bool true, e.key, e.val])
      | some none => pure (.tuple #[.bool false])
      | none => stuck "Next: no such candidate" : Sem Value).run P w := by
    simp only [Instr.next, Sem.run_bind, hget, Result.andThen_ok, hgm, hcond, hleft, hold, hnew]
    simp
    rfl
  rw [body]
  by_cases he : left = #[]
  · left
    subst he
    refine ⟨rfl, ?_⟩
    simp [Question.forced]
  · right
    have hne : left.isEmpty = false := by
      cases hq : left.isEmpty with
      | false => rfl
      | true => exact absurd (Array.isEmpty_iff.1 hq) he
    have hpos : 0 < left.size := Array.size_pos_iff.2 he
    rw [hne]
    have hcand : ((if false = true then #[none] else #[]) ++ (left ++ #[]).map some : Array (Option MapEntry)) = left.map some := by simp
    rw [hcand, Array.size_map]
    have hch : ∃ k d, k < left.size ∧ (choose (.mapNext left.size)).run P w = .ok k { w with drawn := w.drawn + d } := by
      rw [run_choose]
      by_cases h1 : left.size ≤ 1
      · refine ⟨0, 0, hpos, ?_⟩
        rw [if_pos (by simp [Question.forced, h1])]
        rfl
      · refine ⟨(w.tape w.drawn (.mapNext left.size)) % left.size, 1, Nat.mod_lt _ hpos, ?_⟩
        rw [if_neg (by simp [Question.forced]; omega)]
        rfl
    obtain ⟨k, d, hk, hch⟩ := hch
    refine ⟨k, left[k], d, by simp [hk], ?_⟩
    have hk' : (left.map some)[k]? = some (some left[k]) := by simp [hk]
    simp only [Sem.run_bind, hch, Result.andThen_ok, hk']
    have hset := run_setObj_at (P := P) (w := { w with drawn := w.drawn + d }) (r := r) hit (by intros; simp) (.mapIter (some m) since (seenA.push left[k].born) clock)
    simp only [hset, Result.andThen_ok, Sem.run_pure]

theorem ok_next (it : Operand) (isS : Bool) (ty : TypeId) : HOk K P (hNext it isS) (ex (.next it isS) ty) := by
  intro Q a e h nx k ρ act w hK hA hR hE
  unfold hNext at hA
  obtain ⟨v, hv, hA1⟩ := evalK_ok hR.glob hE hA
  clear hA
  rw [all_onPtr] at hA1
  obtain ⟨id, off, rfl, hA2⟩ := hA1
  rw [all_iteR_fail] at hA2
  obtain ⟨hc, hA⟩ := hA2
  simp only [Bool.and_eq_true, Nat.ble_eq] at hc
  have hoff := Nat.eq_of_beq_eq_true hc.2
  subst hoff
  have hlo := hc.1
  have e0 : ex (.next it isS) ty act.eval = vS (Instr.next (act.eval it) isS ty) := rfl
  rw [e0]
  generalize act.eval it = u at hv
  cases hv with
  | ptr hi =>
    rename_i i
    have ho := hR.obj _ _ hi
    split at hA
    · rename_i s pos hg
      rw [hg] at ho
      obtain ⟨hit, hdl⟩ := ho
      have hlive : isLive (h.get id) = true := by rw [hg]; rfl
      have hget := run_getObj_at (P := P) hit (by intros; simp)
      unfold nextStr at hA
      rw [hdl]
      rw [all_iteR] at hA
      rcases hA with ⟨hp, hA⟩ | ⟨hp, hA⟩
      · rw [Nat.blt_eq] at hp
        cases hd : Utf8.decode s pos with
        | mk c wd =>
          rw [hd] at hA
          have hA : All Q (forceN c fun c => forceN wd fun w => k (.tuple #[.bool true, .int .i64 (Int.ofNat pos), .int .i32 (Int.ofNat c)]) (T.set (.str s (Nat.add pos w)) h id) nx) := hA
          rw [all_forceN, all_forceN] at hA
          refine hok_new (u := .tuple #[.bool true, .int .i64 (pos : Int), .int .i32 (c : Int)]) (w' := { w with heap := w.heap.setIfInBounds i.blk (.stringIter s (pos + wd)) }) ?_
            (VRel.tuple' (.cons (.bool _) (.cons (.int _ _) (.cons (.int _ _) .nil)))) (Rel.turn hR hi hlo hK hlive (.str s (pos + wd)) _ ⟨rfl, hdl⟩) hA
          simp only [Instr.next, Sem.run_bind, hget, Result.andThen_ok, if_pos hp, hd, run_setObj_at hit (by intros; simp), Sem.run_pure, goInt]
      · have hp : ¬ pos < s.size := by
          have := not_blt hp; omega
        refine hok_new (u := .tuple #[.bool false]) (w' := w) ?_ (VRel.tuple' (.cons (.bool _) .nil)) (.refl hR) hA
        simp only [Instr.next, Sem.run_bind, hget, Result.andThen_ok, if_neg hp, Sem.run_pure]
    · rename_i since seen last hg
      rw [hg] at ho
      obtain ⟨seen', hit, hdl⟩ := ho
      have hget := run_getObj_at (P := P) hit (by intros; simp)
      rw [hdl]
      refine hok_new (u := .tuple #[.bool false]) (w' := w) ?_ (VRel.tuple' (.cons (.bool _) .nil)) (.refl hR) hA
      simp only [Instr.next, Sem.run_bind, hget, Result.andThen_ok, Sem.run_pure]
    · rename_i m since seen last hg
      rw [hg] at ho
      obtain ⟨j, hj, hit, hdl⟩ := ho
      rw [all_onMapObj] at hA
      obtain ⟨es, clock, hgm, hA⟩ := hA
      have hom := hR.obj _ _ hj
      rw [hgm] at hom
      obtain ⟨ces, hc1, hc2, hc3⟩ := hom
      unfold nextIter at hA
      rw [all_iteR_fail] at hA
      obtain ⟨hcc, hA⟩ := hA
      simp only [Bool.and_eq_true] at hcc
      have h1 := Nat.eq_of_beq_eq_true hcc.1
      have h2 := Nat.eq_of_beq_eq_true hcc.2
      subst h1 h2
      rw [hdl]
      have hlive : isLive (h.get id) = true := by rw [hg]; rfl
      have hb : ∀ c ∈ ces, c.born < clock := by
        intro c hc
        obtain ⟨n, hn⟩ := List.getElem?_of_mem (Array.mem_toList_iff.2 hc)
        have hlen := hc2.length
        have hlt : n < es.length := by rw [hlen]; exact (List.getElem?_eq_some_iff.1 hn).1
        obtain ⟨c', h1, h2⟩ := hc2.get n es[n] (by simp [hlt])
        rw [hn] at h1; cases h1
        rw [h2.born]
        exact hc3 _ (by simp)
      have hfl : L2 (MRel ρ) (es.filter (notSeen seen)) (ces.filter fun e => !(⟨seen.reverse⟩ : Array Nat).contains e.born).toList := by
        rw [Array.toList_filter]
        refine L2.filter (fun e c hm => ?_) hc2
        unfold notSeen
        congr 1
        rw [hm.born]
        have : (⟨seen.reverse⟩ : Array Nat).contains e.born = seen.reverse.contains e.born := by simp
        rw [this, List.contains_reverse, List.contains_eq_any_beq]
        congr 1
        funext b
        show Nat.beq b e.born = (e.born == b)
        rw [Bool.eq_iff_iff]
        constructor
        · intro h; have := Nat.eq_of_beq_eq_true h; simp [this]
        · intro h
          have : e.born = b := by simpa using h
          rw [this]; exact Nat.beq_refl b
      rcases run_next_map (P := P) ty hit hc1 hb with ⟨hemp, hrun⟩ | ⟨n, c, d, hn, hrun⟩
      · rw [hemp] at hfl
        split at hA
        · exact hok_new (u := .tuple #[.bool false]) (w' := w) hrun (VRel.tuple' (.cons (.bool _) .nil)) (.refl hR) hA
        · rename_i heq; rw [heq] at hfl; cases hfl
        · rename_i hne heq
          cases hq : es.filter (notSeen seen) with
          | nil => exact absurd hq hne
          | cons a l => rw [hq] at hfl; cases hfl
      · have hn' : (ces.filter fun e => !(⟨seen.reverse⟩ : Array Nat).contains e.born).toList[n]? = some c := by rw [Array.getElem?_toList]; exact hn
        have hlen := hfl.length
        have hlt : n < (es.filter (notSeen seen)).length := by rw [hlen]; exact (List.getElem?_eq_some_iff.1 hn').1
        obtain ⟨c', h1, hm⟩ := hfl.get n (es.filter (notSeen seen))[n] (by simp [hlt])
        rw [hn'] at h1; cases h1
        generalize hee : (es.filter (notSeen seen))[n] = ee at hm
        have hee' : (es.filter (notSeen seen))[n]? = some ee := by rw [List.getElem?_eq_getElem hlt, hee]
        have fin : All Q (k (.tuple #[.bool true, ee.key, ee.val]) (T.set (.iter (some m) clock (ee.born :: seen) clock) h id) nx) →
            ∃ v h' nx' ρ' u w', ((vS (Instr.next (.pointer (some ⟨i.blk, 0 + 0, none⟩)) false ty)).run P w = .ok (.value u) w' ∨ ((vS (Instr.next (.pointer (some ⟨i.blk, 0 + 0, none⟩)) false ty)).run P w = .ok .skip w' ∧ u = undef)) ∧
              VRel ρ' v u ∧ Step K a.lo ρ h nx w ρ' h' nx' w' ∧ All Q (k v h' nx') := by
          intro hA
          have hst := Rel.turn (lo := a.lo) (hR.drewN d) hi hlo hK hlive (.iter (some m) clock (ee.born :: seen) clock) (.mapIter (some j.blk) clock ((⟨seen.reverse⟩ : Array Nat).push c.born) clock) ⟨j, hj, by rw [hm.born]; simp, hdl⟩
          refine hok_new hrun (VRel.tuple' (.cons (.bool _) (.cons ?_ (.cons hm.val .nil)))) (hst.drew d) hA
          rw [hm.key]; exact VRel.of_clo hm.clo
        split at hA
        · rename_i heq; rw [heq] at hlt; cases hlt
        · rename_i e1 heq
          rw [heq] at hee' hlt
          have : n = 0 := by simp at hlt; exact hlt
          subst this
          cases hee'
          exact fin hA
        · rename_i hne hnl heq
          rw [all_ask] at hA
          have hA := hA n hlt
          rw [all_onO] at hA
          obtain ⟨e2, he2, hA⟩ := hA
          rw [hee'] at he2; cases he2
          exact fin hA
    · simp at hA
end Go.Ev

namespace Go.Ev
open Go Go.RowKit
variable {Q : Out → Prop} {K : Ctx} {P : Program} {B : Tab}

theorem setRow_eq (w : World) (g : Nat) (cur cs : Array Value) (t : TypeId) (fr : Nat × Nat) (hg : w.heap[g]? = some (.cells cur t fr)) : w.setRow g cs = { w with heap := w.heap.setIfInBounds g (.cells cs t fr) } := by
  unfold World.setRow
  congr 1
  apply Array.ext_getElem?
  intro j
  rw [Array.getElem?_modify, Array.getElem?_setIfInBounds]
  by_cases h : g = j
  · subst h
    rw [if_pos rfl, if_pos rfl, if_pos (Array.getElem?_eq_some_iff.1 hg).1, hg]
    rfl
  · rw [if_neg h, if_neg h]

theorem run_store_at (b o : Nat) (el : TypeId) (fz : Nat × Nat) : ∀ (us : List Value) (i : Nat) (cs : Array Value) (w : World), w.heap[b]? = some (.cells cs el fz) →
    (∀ j, j < us.length → o + i + j < cs.size ∧ ¬ (fz.1 ≤ o + i + j ∧ o + i + j < fz.2)) → (∀ u ∈ us, u.oneCell' = true) →
    ∃ cs', (storeCells ⟨b, o, none⟩ us i).run P w = .ok () (w.setRow b cs') ∧ cs'.size = cs.size ∧ ∀ k, cs'[k]? = if o + i ≤ k ∧ k < o + i + us.length then us[k - (o + i)]? else cs[k]?
  | [], i, cs, w, hg, _, _ => ⟨cs, by rw [setRow_self w b cs el fz hg]; rfl, rfl, fun k => by rw [if_neg (by simp)]⟩
  | v :: us, i, cs, w, hg, hf, h1 => by
    have h0 := hf 0 (by simp)
    rw [Nat.add_zero] at h0
    have hcell : w.cell? ⟨b, o + i, none⟩ = some cs[o + i] := by simp [World.cell?, hg, h0.1]
    have hfro : w.frozen? ⟨b, o + i, none⟩ = false := by
      obtain ⟨lo, hi'⟩ := fz
      simp only [World.frozen?, hg, Bool.and_eq_false_iff, decide_eq_false_iff_not]
      have := h0.2
      simp only at this
      omega
    have hst : (store ((⟨b, o, none⟩ : Addr).add i) v).run P w = .ok () (w.setRow b (cs.setIfInBounds (o + i) v)) := by
      rw [addr_add, run_store P w _ v _ (h1 v (by simp)), hcell]
      simp [hfro, setCell_eq_setRow w b (o + i) cs el fz v hg]
    obtain ⟨cs', h2, h3, h4⟩ := run_store_at b o el fz us (i + 1) (cs.setIfInBounds (o + i) v) (w.setRow b (cs.setIfInBounds (o + i) v)) (setRow_heap w b cs _ el fz hg)
      (fun j hj => by
        have := hf (j + 1) (by simp; omega)
        rw [show o + i + (j + 1) = o + (i + 1) + j by omega] at this
        simpa using this) (fun x hx => h1 x (by simp [hx]))
    refine ⟨cs', ?_, by simpa using h3, fun k => ?_⟩
    · simp only [storeCells, Sem.run_bind, hst, Result.andThen_ok, h2, setRow_setRow]
    · rw [h4 k]
      by_cases hk : k = o + i
      · subst hk
        rw [if_neg (by omega), if_pos (by simp)]
        simp [h0.1]
      · by_cases hk2 : o + (i + 1) ≤ k ∧ k < o + (i + 1) + us.length
        · rw [if_pos hk2, if_pos (by simp; omega)]
          have : k - (o + i) = (k - (o + (i + 1))) + 1 := by omega
          rw [this]
          simp
        · rw [if_neg hk2, if_neg (by simp; omega)]
          rw [Array.getElem?_setIfInBounds_ne (by omega)]

theorem VRels.ones {ρ : Rho} : ∀ {vs us : List Value}, VRels ρ vs us → vs.all oneCell = true → ∀ u ∈ us, u.oneCell' = true
  | [], [], _, _, u, hu => by simp at hu
  | v :: vs, u0 :: us, .cons h1 h2, ha, u, hu => by
    simp only [List.all_cons, Bool.and_eq_true] at ha
    simp only [List.mem_cons] at hu
    rcases hu with rfl | hu
    · exact h1.oneCell ha.1
    · exact VRels.ones h2 ha.2 u hu

theorem free_iff {lo hi off n : Nat} (h : free lo hi off n = true) : hi ≤ off ∨ off + n ≤ lo := by
  unfold free at h
  cases hb : Nat.ble hi off with
  | true => exact .inl (Nat.le_of_ble_eq_true hb)
  | false =>
    rw [hb] at h
    exact .inr (Nat.le_of_ble_eq_true h)

theorem storeCells_ok {ρ : Rho} {h : T AObj} {nx : Nat} {w : World} {lo0 : Nat} (hK : K.lo ≤ lo0) (hR : Rel K ρ h nx w) {id : Nat} {i : Info} (hi : ρ id = some i) {off : Nat} {vs us : List Value} (hv : VRels ρ vs us)
    {t : T Value} {d sz el lo hi' : Nat} {sl : Bool} (hg : h.get id = .cells t d sz el lo hi' sl) (hlo : lo0 ≤ id) (hb : off + vs.length ≤ sz) (hf : hi' ≤ off ∨ off + vs.length ≤ lo) (h1 : vs.all oneCell = true) :
    ∃ w', (storeCells ⟨i.blk, i.dl + off, none⟩ us).run P w = .ok () w' ∧ Step K lo0 ρ h nx w ρ (T.set (.cells (T.putList vs t off) d sz el lo hi' sl) h id) nx w' := by
  have ho := hR.obj id i hi
  rw [hg] at ho
  obtain ⟨cs, fz, hc, hfull, hsz, hcell, hfz, hsl0, hsl1⟩ := ho
  have hlen := hv.length
  have hcs : i.dl + sz ≤ cs.size := by
    cases sl with
    | false => have := hsl0 rfl; omega
    | true =>
      obtain ⟨_, h2⟩ := hsl1 rfl
      have : 0 ≤ i.sl * K.es el := Nat.zero_le _
      omega
  obtain ⟨cs', h2, h3, h4⟩ := run_store_at (P := P) i.blk (i.dl + off) el fz us 0 cs w hc (fun j hj => by
    refine ⟨by omega, fun hh => ?_⟩
    have := hfz.frozen (k := off + j) (by omega) hcs (by omega) (by omega)
    omega) (VRels.ones hv h1)
  refine ⟨_, h2, ?_⟩
  rw [setRow_eq w i.blk cs cs' el fz hc]
  refine Rel.turn hR hi hlo hK (by rw [hg]; rfl) _ _ ⟨cs', fz, rfl, T.full_putList _ _ _ _ hfull, hsz, fun k hk => ?_, by rw [h3]; exact hfz, fun h => ?_, fun h => ?_⟩
  · rw [h4, T.get_putList d vs t off k hfull (by omega) (by omega)]
    by_cases hin : off ≤ k ∧ k < off + vs.length
    · rw [dif_pos hin, if_pos (by omega)]
      have e : i.dl + k - (i.dl + off + 0) = k - off := by omega
      rw [e]
      obtain ⟨u, hu1, hu2⟩ := hv.get (k - off) vs[k - off] (by simp)
      exact ⟨u, hu1, hu2⟩
    · rw [dif_neg hin, if_neg (by omega)]
      exact hcell k hk
  · rw [h3]; exact hsl0 h
  · rw [h3]; exact hsl1 h

theorem storeK_ok {ρ : Rho} {h : T AObj} {nx : Nat} {w : World} {lo0 : Nat} (hK : K.lo ≤ lo0) (hR : Rel K ρ h nx w) {id : Nat} {i : Info} (hi : ρ id = some i) {off : Nat} {vs us : List Value} (hv : VRels ρ vs us) {k : T AObj → R}
    (hA : All Q (storeK lo0 h id off vs k)) : ∃ w' h', (storeCells ⟨i.blk, i.dl + off, none⟩ us).run P w = .ok () w' ∧ Step K lo0 ρ h nx w ρ h' nx w' ∧ All Q (k h') := by
  cases vs with
  | nil =>
    cases hv
    exact ⟨w, h, rfl, .refl hR, hA⟩
  | cons v vs =>
    have hA : All Q (iteR (Nat.blt id lo0) (failR "store: old") <| onCells h id fun t d sz e lo hi sl =>
      iteR (Nat.ble (Nat.add off (v :: vs).length) sz) (iteR (free lo hi off (v :: vs).length) (iteR ((v :: vs).all oneCell) (k (T.set (.cells (T.putList (v :: vs) t off) d sz e lo hi sl) h id)) (failR "store: cell")) (failR "store: frozen")) (failR "store: bounds")) := hA
    rw [all_iteR_fail', all_onCells] at hA
    obtain ⟨hlo, t, d, sz, e, lo, hi', sl, hg, hA⟩ := hA
    rw [all_iteR_fail, all_iteR_fail, all_iteR_fail, Nat.ble_eq] at hA
    obtain ⟨hb, hf, h1, hA⟩ := hA
    obtain ⟨w', h2, h3⟩ := storeCells_ok (P := P) hK hR hi hv hg (not_blt hlo) hb (free_iff hf) h1
    exact ⟨w', _, h2, h3, hA⟩

theorem oneCell_cells {ρ : Rho} {v u : Value} (h : VRel ρ v u) (h1 : oneCell v = true) : u.cells = #[u] ∧ v.cells = #[v] := by
  cases h <;> first | exact ⟨rfl, rfl⟩ | (simp [oneCell] at h1)

theorem ok_store (hB : TabOk B P) (t : TypeId) (p x : Operand) (ty : TypeId) : HOk K P (hStore B t p x) (ex (.store t p x) ty) := by
  intro Q a e h nx k ρ act w hK hA hR hE
  unfold hStore at hA
  obtain ⟨pv, hpv, hA1⟩ := evalK_ok hR.glob hE hA
  obtain ⟨v, hv, hA2⟩ := evalK_ok hR.glob hE hA1
  clear hA hA1
  rw [all_onPtr] at hA2
  obtain ⟨id, off, rfl, hA3⟩ := hA2
  rw [all_onRow] at hA3
  obtain ⟨ht, d, n, z, sub, hrow, hA⟩ := hA3
  have hsz := run_sizeOf hB ht hrow w
  have e0 : ex (.store t p x) ty act.eval = uS (Instr.storeAt t (act.eval p) (act.eval x)) := rfl
  rw [e0]
  generalize act.eval p = pu at hpv
  generalize act.eval x = u at hv
  cases hpv with
  | ptr hi =>
    rename_i i
    have fin : ∀ w' h', (storeCells ⟨i.blk, i.dl + off, none⟩ u.cells.toList).run P w = .ok () w' → u.cells.size = n → Step K a.lo ρ h nx w ρ h' nx w' → All Q (k undef h' nx) →
        ∃ v h' nx' ρ' u' w', ((uS (Instr.storeAt t (.pointer (some ⟨i.blk, i.dl + off, none⟩)) u)).run P w = .ok (.value u') w' ∨ ((uS (Instr.storeAt t (.pointer (some ⟨i.blk, i.dl + off, none⟩)) u)).run P w = .ok .skip w' ∧ u' = undef)) ∧
          VRel ρ' v u' ∧ Step K a.lo ρ h nx w ρ' h' nx' w' ∧ All Q (k v h' nx') := fun w' h' h1 h2 h3 h4 =>
      ⟨undef, h', nx, ρ, undef, w', .inr ⟨run_uS (by
        have : ¬ u.cells.size ≠ n := fun h => h h2
        simp only [Instr.storeAt, Instr.sureAddr, storeVar, Sem.run_bind, Sem.run_pure, hsz, Result.andThen_ok, if_neg this]
        exact h1), rfl⟩, VRel.undef ρ, h3, h4⟩
    rw [all_iteR] at hA
    rcases hA with ⟨ho, hA⟩ | ⟨ho, hA⟩
    · rw [all_iteR_fail] at hA
      obtain ⟨hn, hA⟩ := hA
      have hn := Nat.eq_of_beq_eq_true hn
      obtain ⟨hu, hvv⟩ := oneCell_cells hv ho
      unfold store1K at hA
      rw [all_iteR_fail', all_onCells] at hA
      obtain ⟨hlo, t', d', sz, e', lo, hi', sl, hg, hA⟩ := hA
      rw [all_iteR_fail, all_iteR_fail, all_iteR_fail, Nat.blt_eq] at hA
      obtain ⟨hb, hf, h1, hA⟩ := hA
      obtain ⟨w', h2, h3⟩ := storeCells_ok (P := P) hK hR hi (vs := [v]) (us := [u]) (.cons hv .nil) hg (not_blt hlo) (by simp; omega) (free_iff hf) (by simp [h1])
      refine fin w' _ ?_ (by rw [hu, hn]; rfl) h3 hA
      rw [hu]; exact h2
    · rw [all_iteR_fail] at hA
      obtain ⟨hn, hA⟩ := hA
      have hn := Nat.eq_of_beq_eq_true hn
      obtain ⟨w', h', h1, h2, h3⟩ := storeK_ok (P := P) hK hR hi hv.cells hA
      exact fin w' h' h1 (by rw [← Array.length_toList, ← hv.cells.length, hn]) h2 h3
end Go.Ev

namespace Go.Ev
open Go Go.RowKit
variable {Q : Out → Prop} {K : Ctx} {P : Program} {B : Tab}

def srcLen : Value → Nat
  | .slice _ n _ => n
  | .string s => s.size
  | _ => 0
theorem all_lenK (v : Value) (k : Nat → R) : All Q (lenK v k) → (∀ {ρ u} (w : World), VRel ρ v u → (Builtin.lenOf u).run P w = .ok (srcLen v) w) ∧ All Q (k (srcLen v)) := by
  intro h
  unfold lenK at h
  split at h
  · exact ⟨fun w hv => by cases hv <;> rfl, h⟩
  · exact ⟨fun w hv => by cases hv; rfl, h⟩
  · simp at h

theorem ints_extract (s : ByteArray) (n : Nat) : ((s.extract 0 n).data.map fun b => Value.int .u8 (b.toNat : Int)) = ⟨intsOf s n⟩ := by
  apply Array.ext'
  simp only [Array.toList_map, intsOf, ByteArray.data_extract, Array.toList_extract, List.extract_eq_take_drop, List.drop_zero, Nat.sub_zero]
  rfl

theorem src_ok {ρ : Rho} {h : T AObj} {nx : Nat} {w : World} (hR : Rel K ρ h nx w) {v u : Value} (hv : VRel ρ v u) {size n : Nat} (hn : n ≤ srcLen v) {k : List Value → R} (hA : All Q (srcK h size n v k)) :
    ∃ cs us, VRels ρ cs us ∧ (Builtin.firstCells size n u).run P w = .ok ⟨us⟩ w ∧ (∀ w', w'.heap = w.heap → (Builtin.firstCells size n u).run P w' = .ok ⟨us⟩ w') ∧ All Q (k cs) := by
  have fin : ∀ cs us, VRels ρ cs us → (∀ w', w'.heap = w.heap → (Builtin.firstCells size n u).run P w' = .ok ⟨us⟩ w') → All Q (k cs) →
      ∃ cs us, VRels ρ cs us ∧ (Builtin.firstCells size n u).run P w = .ok ⟨us⟩ w ∧ (∀ w', w'.heap = w.heap → (Builtin.firstCells size n u).run P w' = .ok ⟨us⟩ w') ∧ All Q (k cs) := fun cs us h1 h2 h3 => ⟨cs, us, h1, h2 w rfl, h2, h3⟩
  unfold srcK at hA
  split at hA
  · rename_i id off sp len c
    have key : ∀ i : Info, ρ id = some i → ∀ c', u = .slice (some ⟨i.blk, i.dl + off, none⟩) len c' → ∃ cs us, VRels ρ cs us ∧ (Builtin.firstCells size n u).run P w = .ok ⟨us⟩ w ∧ (∀ w', w'.heap = w.heap → (Builtin.firstCells size n u).run P w' = .ok ⟨us⟩ w') ∧ All Q (k cs) := by
      intro i hi c' hu
      obtain ⟨cs, us, hr, hl, hrun, hcell, hA'⟩ := loadCells_ok (P := P) hR hi hA
      refine fin cs us hr (fun w' hw => ?_) hA'
      rw [hu]
      show (loadCells ⟨i.blk, i.dl + off, none⟩ (n * size)).run P w' = _
      have hll : us.length = n * size := by rw [← hr.length, hl]; rfl
      have := run_loadCells_list (P := P) w' ⟨i.blk, i.dl + off, none⟩ us (fun j v hj => by
        rw [addr_add]
        have := hcell j v hj
        unfold World.cell? at this ⊢
        rw [hw]; exact this)
      rw [hll] at this
      exact this
    cases hv with
    | slice hi => exact key _ hi _ rfl
    | slice0 hi => exact key _ hi _ rfl
    | slice1 o' c' hi =>
      have : n = 0 := by simpa [srcLen] using hn
      subst this
      rw [Nat.mul_eq, Nat.zero_mul] at hA
      refine fin [] [] .nil (fun w' _ => ?_) hA
      show (loadCells _ (0 * size)).run P w' = _
      rw [Nat.zero_mul]; rfl
  · cases hv
    rw [all_iteR_fail] at hA
    exact fin [] [] .nil (fun w' _ => rfl) hA.2
  · rename_i s
    cases hv
    refine fin (intsOf s n) (intsOf s n) (VRels.of_atoms (all_ints s n)) (fun w' _ => ?_) hA
    show (pure _ : Sem (Array Value)).run P w' = _
    rw [ints_extract]; rfl
  · simp at hA

theorem copyTo_ok {ρ : Rho} {h : T AObj} {nx : Nat} {w : World} {lo0 : Nat} (hK : K.lo ≤ lo0) (hR : Rel K ρ h nx w) {base : Option Addr} {l c l' c' : Nat} {ub : Option Addr} (hv : VRel ρ (.slice base l c) (.slice ub l' c')) {vs us : List Value}
    (hvs : VRels ρ vs us) {k : T AObj → R} (hA : All Q (copyTo lo0 base vs h k)) :
    ∃ w' h', (match ub with | some a => storeCells a us | none => pure () : Sem Unit).run P w = .ok () w' ∧ Step K lo0 ρ h nx w ρ h' nx w' ∧ All Q (k h') := by
  cases hv with
  | nilSlice =>
    unfold copyTo at hA
    split at hA
    · exact ⟨w, h, rfl, .refl hR, by split at hA <;> first | exact hA | simp at hA⟩
    · rename_i heq; cases heq
    · rename_i heq; cases heq
  | slice hi => exact storeK_ok (P := P) hK hR hi hvs hA
  | slice0 hi => exact storeK_ok (P := P) hK hR hi hvs hA
  | slice1 o' c' hi =>
    cases vs with
    | nil => cases hvs; exact ⟨w, h, rfl, .refl hR, hA⟩
    | cons v vs => exact ((all_fail (Q := Q) "copy").1 hA).elim

theorem VRel.inv_slice {ρ : Rho} {base : Option Addr} {l c : Nat} {u : Value} (h : VRel ρ (.slice base l c) u) : ∃ ub c', u = .slice ub l c' := by
  cases h <;> exact ⟨_, _, rfl⟩

theorem ok_copy (hB : TabOk B P) (c : Call) (hc : c.callee = .builtin .copy) (ty : TypeId) : HOk K P (bCopy B c) (ex (.call c) ty) := by
  intro Q a e h nx k ρ act w hK hA hR hE
  rw [call_builtin hc]
  unfold bCopy at hA
  split at hA
  · rename_i x y t ts hargs htys
    obtain ⟨v, hv, hA1⟩ := evalK_ok hR.glob hE hA
    obtain ⟨u, hu, hA2⟩ := evalK_ok hR.glob hE hA1
    clear hA hA1
    rw [all_onSlice] at hA2
    obtain ⟨base, dLen, dc, rfl, hA3⟩ := hA2
    obtain ⟨hlen, hA4⟩ := all_lenK (P := P) u _ hA3
    rw [all_onRow] at hA4
    obtain ⟨ht, d, n, z, sub, hrow, hA⟩ := hA4
    split at hA
    · rename_i el o size rest
      rw [all_forceN] at hA
      obtain ⟨j, hj1, hj2⟩ := hB.slice t el n z _ ht hrow
      cases hj2
      have hsz : (sizeOf el).run P w = .ok j.size w := by simp [sizeOf, typeInfo, hj1]
      have hrun := run_underlying hB ht hrow w
      have h0 : c.argTypes[0]? = some t := by rw [← Array.getElem?_toList, htys]; rfl
      have h1 : (c.args.map act.eval)[0]? = some (act.eval x) := by rw [← Array.getElem?_toList, Array.toList_map, hargs]; rfl
      have h2 : (c.args.map act.eval)[1]? = some (act.eval y) := by rw [← Array.getElem?_toList, Array.toList_map, hargs]; rfl
      generalize act.eval x = xu at hv h1
      generalize act.eval y = yu at hu h2
      obtain ⟨ub, c', rfl⟩ := VRel.inv_slice hv
      have hmin : minN (srcLen u) dLen ≤ srcLen u := by rw [minN_eq]; exact Nat.min_le_left _ _
      obtain ⟨cs, us, hr, hfirst, _, hA5⟩ := src_ok (P := P) hR hu hmin hA
      obtain ⟨w', h', hst, hstep, hA6⟩ := copyTo_ok (P := P) hK hR hv hr hA5
      show ∃ v h' nx' ρ' u' w', ((vS (Builtin.copy_ c.argTypes ty (c.args.map act.eval))).run P w = _ ∨ _) ∧ _
      refine hok_new (u := .int .i64 (minN (srcLen u) dLen : Nat)) ?_ (.int _ _) hstep hA6
      have hl := hlen w hu
      have hmm : (srcLen u).min dLen = minN (srcLen u) dLen := by rw [minN_eq]
      simp only [Builtin.copy_, h0, h1, h2, Sem.run_bind, hrun, Result.andThen_ok, hl, hsz, hmm, hfirst]
      cases ub with
      | none =>
        have : w = w' := by
          have h3 : (pure () : Sem Unit).run P w = .ok () w' := hst
          simpa using h3
        subst this
        simp [goInt]
      | some ad =>
        have h3 : (storeCells ad us).run P w = .ok () w' := hst
        simp [h3, goInt]
    · simp at hA
  · simp at hA

theorem ok_clear (hB : TabOk B P) (c : Call) (hc : c.callee = .builtin .clear) (ty : TypeId) : HOk K P (bClear B c) (ex (.call c) ty) := by
  intro Q a e h nx k ρ act w hK hA hR hE
  rw [call_builtin hc]
  unfold bClear at hA
  split at hA
  · rename_i x t ts hargs htys
    obtain ⟨v, hv, hA1⟩ := evalK_ok hR.glob hE hA
    clear hA
    rw [all_onSlice] at hA1
    obtain ⟨base, n, dc, rfl, hA3⟩ := hA1
    rw [all_onRow] at hA3
    obtain ⟨ht, d, sz, z, sub, hrow, hA⟩ := hA3
    split at hA
    · rename_i el
      rw [all_onRow] at hA
      obtain ⟨hte, de, ne, ze, sube, hrowe, hA⟩ := hA
      rw [all_onO] at hA
      obtain ⟨z, rfl, hA⟩ := hA
      have hrun := run_underlying hB ht hrow w
      have hz := run_zeroValue hB hte hrowe w
      obtain ⟨hzr, _⟩ := VRel.info hB (ρ := ρ) hte hrowe
      have h0 : c.argTypes[0]? = some t := by rw [← Array.getElem?_toList, htys]; rfl
      have h1 : (c.args.map act.eval)[0]? = some (act.eval x) := by rw [← Array.getElem?_toList, Array.toList_map, hargs]; rfl
      generalize act.eval x = xu at hv h1
      obtain ⟨ub, c', rfl⟩ := VRel.inv_slice hv
      obtain ⟨w', h', hst, hstep, hA6⟩ := copyTo_ok (P := P) hK hR hv (hzr.many n) hA
      show ∃ v h' nx' ρ' u' w', ((vS (Builtin.clear_ c.argTypes ty (c.args.map act.eval))).run P w = _ ∨ _) ∧ _
      refine hok_new (u := .tuple #[]) ?_ (VRel.tuple' .nil) hstep hA6
      have hzc : (Builtin.zeroCells z.cells n).toList = manyOf n z.cells.toList := by
        have := made_many z.cells n
        unfold madeCells at this
        unfold Builtin.zeroCells
        rw [this]
      simp only [Builtin.clear_, h0, h1, Sem.run_bind, hrun, Result.andThen_ok]
      cases ub with
      | none =>
        have : w = w' := by
          have h3 : (pure () : Sem Unit).run P w = .ok () w' := hst
          simpa using h3
        subst this
        rfl
      | some ad =>
        have h3 : (storeCells ad (manyOf n z.cells.toList)).run P w = .ok () w' := hst
        cases n with
        | zero =>
          have : w = w' := by
            have h3 : (pure () : Sem Unit).run P w = .ok () w' := h3
            simpa using h3
          subst this
          rfl
        | succ n => simp [hz, hzc, h3]
    · simp at hA
  · simp at hA
end Go.Ev

namespace Go.Ev
open Go Go.RowKit
variable {Q : Out → Prop} {K : Ctx} {P : Program} {B : Tab}

theorem run_loadBytes_ints {w : World} : ∀ (xs : List Int) (a : Addr) (acc : ByteArray), (∀ (j : Nat) x, xs[j]? = some x → w.cell? (a.add j) = some (.int .u8 x)) →
    (loadBytes a acc xs.length).run P w = .ok ⟨⟨acc.data.toList ++ xs.map fun n => UInt8.ofNat n.toNat⟩⟩ w
  | [], a, acc, _ => by simp [loadBytes]
  | x :: l, a, acc, h => by
    have h0 : w.cell? a = some (.int .u8 x) := by
      have := h 0 x rfl
      simpa [Addr.add] using this
    have ih := run_loadBytes_ints l (a.add 1) (acc.push x.toNat.toUInt8) (fun j y hy => by
      have := h (j + 1) y (by simpa using hy)
      have e : (a.add 1).add j = a.add (j + 1) := by
        unfold Addr.add
        by_cases hj : j = 0
        · subst hj; simp
        · simp [hj]; omega
      rw [e]; exact this)
    simp only [List.length_cons, loadBytes, Sem.run_bind, run_load, h0, Result.andThen]
    rw [ih]
    simp [ByteArray.push]

theorem freeze_eq (w : World) (b o n : Nat) (cs : Array Value) (el : TypeId) (fz : Nat × Nat) (hn : n ≠ 0) (hg : w.heap[b]? = some (.cells cs el fz)) :
    w.freeze ⟨b, o, none⟩ n = { w with heap := w.heap.setIfInBounds b (.cells cs el (if fz.1 == fz.2 then (o, o + n) else (min fz.1 o, max fz.2 (o + n)))) } := by
  unfold World.freeze
  rw [if_neg hn]
  congr 1
  apply Array.ext_getElem?
  intro j
  rw [Array.getElem?_modify, Array.getElem?_setIfInBounds]
  by_cases h : b = j
  · subst h
    rw [if_pos rfl, if_pos rfl, if_pos (Array.getElem?_eq_some_iff.1 hg).1, hg]
    rfl
  · rw [if_neg h, if_neg h]

theorem freezeK_ok {ρ : Rho} {h : T AObj} {nx : Nat} {w : World} {lo0 : Nat} (hK : K.lo ≤ lo0) (hR : Rel K ρ h nx w) {id : Nat} {i : Info} (hi : ρ id = some i) {off n : Nat} (hn : n ≠ 0) {k : T AObj → R} {t : T Value} {d sz el lo hi' : Nat} {sl : Bool}
    (hg : h.get id = .cells t d sz el lo hi' sl) (hb : off + n ≤ sz) (hA : All Q (freezeK lo0 h id off n k)) :
    ∃ h', Step K lo0 ρ h nx w ρ h' nx (w.freeze ⟨i.blk, i.dl + off, none⟩ n) ∧ All Q (k h') := by
  unfold freezeK at hA
  rw [all_iteR_fail', all_onCells] at hA
  obtain ⟨hlo, t', d', sz', el', lo', hi2, sl', hg', hA⟩ := hA
  rw [hg] at hg'
  cases hg'
  rw [all_iteR_fail, Nat.ble_eq] at hA
  obtain ⟨hhi, hA⟩ := hA
  have ho := hR.obj id i hi
  rw [hg] at ho
  obtain ⟨cs, fz, hc, hfull, hsz, hcell, hfz, hsl0, hsl1⟩ := ho
  refine ⟨_, ?_, hA⟩
  rw [freeze_eq w i.blk (i.dl + off) n cs el fz hn hc]
  refine Rel.turn hR hi (not_blt hlo) hK (by rw [hg]; rfl) _ _ ⟨cs, _, rfl, hfull, hsz, hcell, ?_, hsl0, hsl1⟩
  have hf : fz.1 ≤ fz.2 ∧ hi' ≤ sz ∧ (fz.1 < fz.2 → i.dl + lo ≤ fz.1 ∧ fz.2 ≤ i.dl + hi') := by
    rcases hfz with h | ⟨h1, h2, h3⟩ | ⟨h1, h2⟩
    · exact h
    · omega
    · omega
  obtain ⟨hf1, _, hf2⟩ := hf
  left
  have hmin : minN lo off = min lo off := minN_eq _ _
  have hmax : maxN hi' (Nat.add off n) = max hi' (off + n) := maxN_eq _ _
  have hb' : (Nat.beq lo hi' = true ∧ lo = hi') ∨ (Nat.beq lo hi' = false ∧ lo ≠ hi') := by
    cases hq : Nat.beq lo hi' with
    | true => exact .inl ⟨rfl, Nat.eq_of_beq_eq_true hq⟩
    | false => exact .inr ⟨rfl, fun h => by subst h; rw [Nat.beq_refl] at hq; cases hq⟩
  rcases hb' with ⟨hq, he⟩ | ⟨hq, he⟩
  · rw [hq]
    have : fz.1 = fz.2 := by
      by_cases h : fz.1 < fz.2
      · have := hf2 h; omega
      · omega
    rw [if_pos (by simp [this])]
    refine ⟨by simp, ?_, fun _ => ⟨?_, ?_⟩⟩
    · show off + n ≤ sz; omega
    · show i.dl + off ≤ i.dl + off; omega
    · show i.dl + off + n ≤ i.dl + (off + n); omega
  · rw [hq]
    show _ ∧ maxN hi' (Nat.add off n) ≤ sz ∧ (_ → i.dl + minN lo off ≤ _ ∧ _ ≤ i.dl + maxN hi' (Nat.add off n))
    rw [hmin, hmax]
    by_cases h : fz.1 = fz.2
    · rw [if_pos (by simp [h])]
      refine ⟨by simp, by omega, fun _ => ⟨?_, ?_⟩⟩
      · show i.dl + min lo off ≤ i.dl + off; omega
      · show i.dl + off + n ≤ i.dl + max hi' (off + n); omega
    · rw [if_neg (by simp [h])]
      have := hf2 (by omega)
      refine ⟨?_, by omega, fun _ => ⟨?_, ?_⟩⟩
      · show min fz.1 (i.dl + off) ≤ max fz.2 (i.dl + off + n); omega
      · show i.dl + min lo off ≤ min fz.1 (i.dl + off); omega
      · show max fz.2 (i.dl + off + n) ≤ i.dl + max hi' (off + n); omega

theorem ok_unsafeString (hB : TabOk B P) (c : Call) (hc : c.callee = .builtin .unsafeString) (ty : TypeId) : HOk K P (bUnsafeString B c) (ex (.call c) ty) := by
  intro Q a e h nx k ρ act w hK hA hR hE
  rw [call_builtin hc]
  unfold bUnsafeString at hA
  split at hA
  · rename_i x y pt ts hargs htys
    obtain ⟨v, hv, hA1⟩ := evalK_ok hR.glob hE hA
    obtain ⟨u, hu, hA2⟩ := evalK_ok hR.glob hE hA1
    clear hA hA1
    rw [all_onIx] at hA2
    obtain ⟨q, n, rfl, hA3⟩ := hA2
    rw [all_onRow] at hA3
    obtain ⟨ht, d, sz, z, sub, hrow, hA⟩ := hA3
    have hun : act.eval y = .int q (n : Int) := VRel.atom rfl hu
    have hrun := run_underlying hB ht hrow w
    have h0 : c.argTypes[0]? = some pt := by rw [← Array.getElem?_toList, htys]; rfl
    have h1 : c.args.map act.eval = #[act.eval x, .int q (n : Int)] := by apply Array.ext'; simp [hargs, hun]
    generalize act.eval x = xu at hv h1
    split at hA
    · rename_i el p
      rw [all_iteR_fail, Nat.blt_eq] at hA
      obtain ⟨hn, hA⟩ := hA
      have hneg : ¬ ((n : Int) < 0) := by omega
      have hbig : ¬ ((n : Int) > IntKind.i64.max) := by
        have : IntKind.i64.max = 9223372036854775807 := by decide
        omega
      show ∃ v h' nx' ρ' u' w', ((vS (Builtin.unsafeString_ c.argTypes ty (c.args.map act.eval))).run P w = _ ∨ _) ∧ _
      rw [h1]
      split at hA
      · cases hv
        rw [all_iteR_fail] at hA
        have hz := Nat.eq_of_beq_eq_true hA.1
        subst hz
        refine hok_new (u := .string .empty) ?_ (.string _) (.refl hR) hA.2
        show (do let n ← asInt (.int q ((0 : Nat) : Int)); _ : Sem Value).run P w = _
        simp [asInt, asIntOf, h0]
      · rename_i id off
        cases hv with
        | ptr hi =>
          rename_i i
          rw [all_iteR] at hA
          rcases hA with ⟨hz, hA⟩ | ⟨hz, hA⟩
          · have hz := Nat.eq_of_beq_eq_true hz
            subst hz
            refine hok_new (u := .string .empty) ?_ (.string _) (.refl hR) hA
            show (do let n ← asInt (.int q ((0 : Nat) : Int)); _ : Sem Value).run P w = _
            simp [asInt, asIntOf, h0]
          · have hn0 : n ≠ 0 := by intro h; subst h; cases hz
            rw [all_onCells] at hA
            obtain ⟨t, d, sz', ce, lo, hi', sl, hg, hA⟩ := hA
            rw [all_iteR_fail] at hA
            obtain ⟨hce, hA⟩ := hA
            simp only [Bool.and_eq_true] at hce
            have he1 := Nat.eq_of_beq_eq_true hce.1
            have he2 := Nat.eq_of_beq_eq_true hce.2
            obtain ⟨m, hsh, hsz⟩ := shape_ok hR hi hg
            have hb : off + n ≤ sz' := by
              have := hA
              rw [all_loadK] at this
              rcases this with ⟨h, _⟩ | ⟨_, t2, d2, sz2, e2, lo2, hi2, sl2, hg2, hb2, _⟩
              · exact absurd h hn0
              · rw [hg] at hg2; cases hg2; exact hb2
            obtain ⟨cs, us, hr, hl, hrun', hcell, hA⟩ := loadCells_ok (P := P) hR hi hA
            rw [all_onO] at hA
            obtain ⟨l, hl', hA⟩ := hA
            obtain ⟨ns, rfl, rfl⟩ := u8s_ok hl'
            have := ints_rel hr
            subst this
            obtain ⟨h', hst, hA⟩ := freezeK_ok hK hR hi hn0 hg hb hA
            have hlb := run_loadBytes_ints (P := P) (w := w) ns ⟨i.blk, i.dl + off, none⟩ .empty (fun j x hx => by
              rw [addr_add]
              exact hcell j _ (by simp [hx]))
            have hnl : ns.length = n := by simpa using hl
            rw [hnl] at hlb
            have hlies := hB.bytes m (i.dl + off) n (by omega)
            subst he1
            subst he2
            refine hok_new (u := .string ⟨⟨ns.map fun n => UInt8.ofNat n.toNat⟩⟩) ?_ (.string _) hst hA
            have hn1 : ¬ ((n : Int) = 0) := by omega
            show (do let n ← asInt (.int q (n : Int)); _ : Sem Value).run P w = _
            have hva : (variablesAt ⟨i.blk, i.dl + off, none⟩ B.u8 n).run P w = .ok true w := by
              simp [variablesAt, hsh, hB.cell1, hlies]
            have hel : (elemOf pt).run P w = .ok B.u8 w := by simp [elemOf, hrun]
            have hbig' : ¬ (9223372036854775807 < (n : Int)) := by omega
            simp [asInt, asIntOf, h0, hneg, hbig', hn0, hel, hva, hlb]
      · simp at hA
    · simp at hA
  · simp at hA
end Go.Ev

namespace Go.Ev
open Go Go.RowKit
variable {Q : Out → Prop} {K : Ctx} {P : Program} {B : Tab}

theorem growBy_ge (m : Nat) : ∀ (r c : Nat), m ≤ c → Builtin.growBy m r c = c
  | 0, _, _ => rfl
  | r + 1, c, h => by unfold Builtin.growBy; rw [if_pos h]
theorem growBy_le (m : Nat) : ∀ (r c : Nat), c < m → Builtin.growBy m r c ≤ 2 * m + 192
  | 0, c, h => by show c ≤ _; omega
  | r + 1, c, h => by
    unfold Builtin.growBy
    rw [if_neg (by omega)]
    by_cases h2 : c + (c + 768) / 4 < m
    · exact growBy_le m r _ h2
    · rw [growBy_ge m r _ (by omega)]; omega
theorem nextslicecap_le {m c : Nat} (h : c < m) : Builtin.nextslicecap m c ≤ 2 * m + 192 := by
  unfold Builtin.nextslicecap
  split
  · omega
  · split
    · omega
    · exact growBy_le m 4 c h

theorem zeroCells_eq (z : Array Value) (n : Nat) : Builtin.zeroCells z n = ⟨manyOf n z.toList⟩ := by
  have := made_many z n
  unfold madeCells at this
  unfold Builtin.zeroCells
  rw [this]

/-- what is appended -/
def Appended (P : Program) (i : TypeInfo) (z : Value) (dx : TypeDesc) (y : Value) (n : Nat) (us : List Value) (w : World) : Prop :=
  (isIntD dx = true ∧ (∃ q : IntKind, y = .int q (n : Int)) ∧ n ≤ 1000000 ∧ us = manyOf n z.cells.toList) ∨
  (isIntD dx = false ∧ (∀ w', (Builtin.lenOf y).run P w' = .ok n w') ∧ ∀ w', w'.heap = w.heap → (Builtin.firstCells i.size n y).run P w' = .ok ⟨us⟩ w')

theorem isIntD_matches (d : TypeDesc) : (match d with | .int _ => true | _ => false) = isIntD d := by cases d <;> rfl

theorem run_append_fits {w w' : World} {t xt ty e : TypeId} {i : TypeInfo} {z : Value} {dx : TypeDesc} (ht : P.underlying t = some (.slice e)) (hxt : P.underlying xt = some dx) (hi : P.info? e = some i) (hz : i.zero = some z) (hzs : z.cells.size = i.size)
    (hby : i.bytes ≤ 1000000) {base : Option Addr} {sLen sCap n : Nat} {y : Value} {us : List Value} (ha : Appended P i z dx y n us w) (hfit : sLen + n ≤ sCap)
    (hst : (match base with | some a => storeCells (a.add (sLen * i.size)) us | none => pure () : Sem Unit).run P w = .ok () w') :
    (Builtin.append_ #[t, xt] ty #[.slice base sLen sCap, y]).run P w = .ok (.slice base (sLen + n) sCap) w' := by
  rcases ha with ⟨hd, ⟨q, rfl⟩, hn, rfl⟩ | ⟨hd, hl, hf⟩
  · have hw : IntKind.i64.wrap (n : Int) = n := by rw [IntKind.wrap_i64]; omega
    have hu := Go.run_underlying (P := P) (w := w) ht
    have hx := Go.run_underlying (P := P) (w := w) hxt
    have hbn : ¬ ((n : Int) * (i.bytes : Int) > 281474976710656) := by
      have : n * i.bytes ≤ 1000000 * 1000000 := Nat.mul_le_mul hn hby
      rw [← Int.natCast_mul]; omega
    cases dx <;> first | (cases hd; done) | skip
    have hneg : ¬ ((n : Int) < 0) := by omega
    have hsz : (sizeOf e).run P w = .ok i.size w := by simp [sizeOf, typeInfo, hi]
    have hti : (typeInfo e).run P w = .ok i w := by simp [typeInfo, hi]
    have hzv : (zeroValue e).run P w = .ok z w := by simp [zeroValue, typeInfo, hi, hz]
    have hzc := zeroCells_eq z.cells n
    show (Builtin.append_ #[t, xt] ty #[.slice base sLen sCap, .int q (n : Int)]).run P w = _
    unfold Builtin.append_
    simp only [List.getElem?_toArray, List.getElem?_cons_zero, List.getElem?_cons_succ, Sem.run_bind, hu, hx, hsz, Result.andThen_ok]
    have hbn' : ¬ ((n : Int) * (i.bytes : Int) > 2 ^ 48) := by
      have : (2 : Int) ^ 48 = 281474976710656 := by decide
      rw [this]; exact hbn
    simp only [Sem.run_pure, Result.andThen_ok, if_true, Sem.run_bind, asInt, asIntOf, hw, if_neg hneg, hti, if_neg hbn', Int.toNat_natCast, if_pos hfit, Bool.not_true, Bool.false_eq_true, if_false]
    have hnew : (if n * i.size = 0 then pure #[] else do pure (Builtin.zeroCells (← zeroValue e).cells n) : Sem (Array Value)).run P w = .ok ⟨manyOf n z.cells.toList⟩ w := by
      by_cases h0 : n * i.size = 0
      · rw [if_pos h0]
        have : manyOf n z.cells.toList = [] := by
          apply List.eq_nil_of_length_eq_zero
          rw [length_manyOf, Array.length_toList, hzs, h0]
        rw [this]; rfl
      · rw [if_neg h0]
        simp only [Sem.run_bind, hzv, Result.andThen_ok, hzc, Sem.run_pure]
    rw [hnew, Result.andThen_ok]
    cases base with
    | none =>
      have h3 : (pure () : Sem Unit).run P w = .ok () w' := hst
      have : w = w' := by simpa using h3
      subst this; rfl
    | some ad =>
      have h3 : (storeCells (ad.add (sLen * i.size)) (manyOf n z.cells.toList)).run P w = .ok () w' := hst
      simp only [Sem.run_bind, h3, Result.andThen_ok, Sem.run_pure]
  · have hu := Go.run_underlying (P := P) (w := w) ht
    have hx := Go.run_underlying (P := P) (w := w) hxt
    have hsz : (sizeOf e).run P w = .ok i.size w := by simp [sizeOf, typeInfo, hi]
    unfold Builtin.append_
    simp only [List.getElem?_toArray, List.getElem?_cons_zero, List.getElem?_cons_succ, Sem.run_bind, hu, hx, hsz, Result.andThen_ok]
    have hfl := hf w rfl
    cases base with
    | none =>
      have h3 : (pure () : Sem Unit).run P w = .ok () w' := hst
      have : w = w' := by simpa using h3
      subst this
      cases dx <;> first | (cases hd; done) | (simp only [Sem.run_pure, Result.andThen_ok, Bool.false_eq_true, if_false, Sem.run_bind, hl w, if_pos hfit, Bool.not_false, if_true, hfl])
    | some ad =>
      have h3 : (storeCells (ad.add (sLen * i.size)) us).run P w = .ok () w' := hst
      cases dx <;> first | (cases hd; done) | (simp only [Sem.run_pure, Result.andThen_ok, Bool.false_eq_true, if_false, Sem.run_bind, hl w, if_pos hfit, Bool.not_false, if_true, hfl, h3])
end Go.Ev

namespace Go.Ev
open Go Go.RowKit
variable {Q : Out → Prop} {K : Ctx} {P : Program} {B : Tab}

theorem append_congr {A : Array TypeId} {args : Array Value} {t xt ty : TypeId} {s y : Value} (h0 : A[0]? = some t) (h1 : A[1]? = some xt) (h2 : args[0]? = some s) (h3 : args[1]? = some y) :
    Builtin.append_ A ty args = Builtin.append_ #[t, xt] ty #[s, y] := by
  unfold Builtin.append_
  simp only [h0, h1, h2, h3, List.getElem?_toArray, List.getElem?_cons_zero, List.getElem?_cons_succ]

theorem run_append_grow {w : World} {t xt ty e : TypeId} {i : TypeInfo} {z : Value} {dx : TypeDesc} (ht : P.underlying t = some (.slice e)) (hxt : P.underlying xt = some dx) (hi : P.info? e = some i) (hz : i.zero = some z) (hzs : z.cells.size = i.size)
    (hby : i.bytes ≤ 1000000) {base : Option Addr} {sLen sCap n : Nat} {y : Value} {us os : List Value} (ha : Appended P i z dx y n us w) (hfit : sCap < sLen + n) (hneed : sLen + n ≤ 1000000)
    (hold : ∀ w', w'.heap = w.heap → (Builtin.firstCells i.size sLen (.slice base sLen sCap)).run P w' = .ok ⟨os⟩ w') :
    ∃ cap, sLen + n ≤ cap ∧ (Builtin.append_ #[t, xt] ty #[.slice base sLen sCap, y]).run P w =
      .ok (.slice (some ⟨w.heap.size, 0, none⟩) (sLen + n) cap) (World.alloc { w with drawn := w.drawn + 1 } (.cells ⟨os ++ us ++ manyOf (cap - (sLen + n)) z.cells.toList⟩ e)) := by
  refine ⟨(Question.appendCap (sLen + n) sCap e).cut (w.tape w.drawn (.appendCap (sLen + n) sCap e)), Nat.le_add_right _ _, ?_⟩
  generalize hcap : (Question.appendCap (sLen + n) sCap e).cut (w.tape w.drawn (.appendCap (sLen + n) sCap e)) = cap
  have hch : (choose (.appendCap (sLen + n) sCap e)).run P w = .ok cap { w with drawn := w.drawn + 1 } := by
    rw [run_choose, hcap]
    rfl
  have hu := Go.run_underlying (P := P) (w := w) ht
  have hx := Go.run_underlying (P := P) (w := w) hxt
  have hsz : (sizeOf e).run P w = .ok i.size w := by simp [sizeOf, typeInfo, hi]
  have hti : ∀ w, (typeInfo e).run P w = .ok i w := fun w => by simp [typeInfo, hi]
  have hzv : ∀ w, (zeroValue e).run P w = .ok z w := fun w => by simp [zeroValue, typeInfo, hi, hz]
  have hmax : ¬ (((sLen + n : Nat) : Int) > IntKind.i64.max) := by
    have : IntKind.i64.max = 9223372036854775807 := by decide
    rw [this]; omega
  have hnb : ¬ (Builtin.nextslicecap (sLen + n) sCap * i.bytes > 2 ^ 48) := by
    have h1 := nextslicecap_le hfit
    have h2 : Builtin.nextslicecap (sLen + n) sCap * i.bytes ≤ 2000192 * 1000000 := Nat.mul_le_mul (by omega) hby
    have h3 : (2 : Nat) ^ 48 = 281474976710656 := by decide
    rw [h3]; omega
  have hroom : ∀ (b : Nat) (w : World), (askRoom b).run P w = .ok () w := fun b w => by unfold askRoom; split <;> rfl
  have hnew : ∀ w (cs : Array Value), (newRow e cs).run P w = .ok ⟨w.heap.size, 0, none⟩ (w.alloc (.cells cs e)) := fun w cs => by simp [newRow]
  have harr : (⟨os⟩ ++ ⟨us⟩ ++ Builtin.zeroCells z.cells (cap - (sLen + n)) : Array Value) = ⟨os ++ us ++ manyOf (cap - (sLen + n)) z.cells.toList⟩ := by
    rw [zeroCells_eq]; apply Array.ext'; simp
  have hnf : ¬ (sLen + n ≤ sCap) := by omega
  rcases ha with ⟨hd, ⟨q, rfl⟩, hn, rfl⟩ | ⟨hd, hl, hf⟩
  · have hw : IntKind.i64.wrap (n : Int) = n := by rw [IntKind.wrap_i64]; omega
    have hbn : ¬ ((n : Int) * (i.bytes : Int) > 281474976710656) := by
      have : n * i.bytes ≤ 1000000 * 1000000 := Nat.mul_le_mul hn hby
      rw [← Int.natCast_mul]; omega
    cases dx <;> first | (cases hd; done) | skip
    have hneg : ¬ ((n : Int) < 0) := by omega
    have hbn' : ¬ ((n : Int) * (i.bytes : Int) > 2 ^ 48) := by
      have : (2 : Int) ^ 48 = 281474976710656 := by decide
      rw [this]; exact hbn
    have hzc := zeroCells_eq z.cells n
    have hnew2 : ∀ w, (if n * i.size = 0 then pure #[] else do pure (Builtin.zeroCells (← zeroValue e).cells n) : Sem (Array Value)).run P w = .ok ⟨manyOf n z.cells.toList⟩ w := by
      intro w
      by_cases h0 : n * i.size = 0
      · rw [if_pos h0]
        have : manyOf n z.cells.toList = [] := by
          apply List.eq_nil_of_length_eq_zero
          rw [length_manyOf, Array.length_toList, hzs, h0]
        rw [this]; rfl
      · rw [if_neg h0]
        simp only [Sem.run_bind, hzv, Result.andThen_ok, hzc, Sem.run_pure]
    unfold Builtin.append_
    simp only [List.getElem?_toArray, List.getElem?_cons_zero, List.getElem?_cons_succ, Sem.run_bind, hu, hx, hsz, Result.andThen_ok]
    simp only [Sem.run_pure, Result.andThen_ok, if_true, Sem.run_bind, asInt, asIntOf, hw, if_neg hneg, hti, if_neg hbn', Int.toNat_natCast, if_neg hnf, Bool.not_true, Bool.false_eq_true, if_false, hmax, false_and, if_neg hnb, hch, hroom,
      hold { w with drawn := w.drawn + 1 } rfl, hnew2, hzv, harr, hnew]
  · unfold Builtin.append_
    simp only [List.getElem?_toArray, List.getElem?_cons_zero, List.getElem?_cons_succ, Sem.run_bind, hu, hx, hsz, Result.andThen_ok]
    cases dx <;> first | (cases hd; done) | (simp only [Sem.run_pure, Result.andThen_ok, Bool.false_eq_true, if_false, Sem.run_bind, hl w, if_neg hnf, Bool.not_false, if_true, hti, hmax, false_and, if_neg hnb, hch, hroom,
      hold { w with drawn := w.drawn + 1 } rfl, hf { w with drawn := w.drawn + 1 } rfl, hzv, harr, hnew])

theorem appended_zero {i : TypeInfo} {z : Value} {dx : TypeDesc} {y : Value} {us : List Value} {w : World} (ha : Appended P i z dx y 0 us w) : us = [] := by
  rcases ha with ⟨_, _, _, rfl⟩ | ⟨_, _, hf⟩
  · rfl
  · have h := hf w rfl
    have hz : ∀ a : Addr, (loadCells a (0 * i.size)).run P w = .ok #[] w := fun a => by rw [Nat.zero_mul]; rfl
    cases y with
    | slice a l c =>
      cases a with
      | none =>
        have h : (Result.ok #[] w : Result (Array Value)) = .ok ⟨us⟩ w := h
        simpa using h.symm
      | some a =>
        have h : (loadCells a (0 * i.size)).run P w = .ok ⟨us⟩ w := h
        rw [hz] at h
        simpa using h.symm
    | string s =>
      have h : (Result.ok ((s.extract 0 0).data.map fun b => Value.int .u8 (b.toNat : Int)) w : Result (Array Value)) = .ok ⟨us⟩ w := h
      rw [ints_extract] at h
      simpa [intsOf] using h.symm
    | _ => cases h

theorem VRel.slice_cap {ρ : Rho} {b ub : Option Addr} {l c l' c' : Nat} (h : VRel ρ (.slice b l c) (.slice ub l' c')) : l' = l ∧ c ≤ c' := by
  cases h <;> simp

/-- an old block of the world under a new name -/
theorem Rel.alias {ρ : Rho} {h : T AObj} {nx : Nat} {w : World} (hR : Rel K ρ h nx w) (hn : nx < 16384) {id : Nat} {i : Info} (hi : ρ id = some i) (hbase : ¬ K.prot i.blk) (lo0 : Nat) (j : Info) (hj : j.blk = i.blk) (o : AObj) (co : Obj)
    (hdead : ∀ id' i', ρ id' = some i' → i'.blk = i.blk → h.get id' = .dead) (ho : ORel K.es (upd ρ nx j) j o (some co)) :
    Step K lo0 ρ h nx w (upd ρ nx j) (T.set o h nx) (nx + 1) { w with heap := w.heap.setIfInBounds i.blk co } := by
  have hf := hR.fresh
  have hle : ρ.le (upd ρ nx j) := upd_le _ hf
  have hd := hR.dom id i hi
  have htop := hR.top
  have hget : ∀ id, id < 16384 → (T.set o h nx).get id = if id = nx then o else h.get id := fun id hid => T.get_set o 14 h nx id hR.full hn hid
  refine ⟨⟨T.full_set _ _ _ _ hR.full, hn, ?_, ?_, ?_, ?_, ?_, ?_, hR.lo15, Nat.le_succ_of_le hR.loNx, fun k hk => by simpa using hR.base k hk, fun id h1 h2 => by rw [hget id h2, if_neg (by omega)]; exact hR.dry id (by omega) h2⟩, hle, Nat.le_succ _, ?_, ?_, fun id' i' _ _ hi' hl => Array.getElem?_setIfInBounds_ne (fun hb => by rw [hdead id' i' hi' hb.symm] at hl; cases hl)⟩
  · intro id' i' hi'
    unfold upd at hi'
    by_cases e : id' = nx
    · rw [if_pos e] at hi'; cases hi'; exact ⟨by omega, by simpa [hj] using hd.2⟩
    · rw [if_neg e] at hi'
      have := hR.dom id' i' hi'
      exact ⟨by omega, by simpa using this.2⟩
  · intro id' i' hi'
    unfold upd at hi'
    by_cases e : id' = nx
    · subst e
      rw [if_pos rfl] at hi'; cases hi'
      rw [hget _ hn, if_pos rfl, hj]
      have : (w.heap.setIfInBounds i.blk co)[i.blk]? = some co := by simp [hd.2]
      show ORel K.es _ _ o (w.heap.setIfInBounds i.blk co)[i.blk]?
      rw [this]; exact ho
    · rw [if_neg e] at hi'
      have hd' := hR.dom id' i' hi'
      rw [hget id' (by omega), if_neg e]
      by_cases hb : i'.blk = i.blk
      · rw [hdead id' i' hi' hb]; trivial
      · have : (w.heap.setIfInBounds i.blk co)[i'.blk]? = w.heap[i'.blk]? := Array.getElem?_setIfInBounds_ne (Ne.symm hb)
        show ORel K.es _ i' (h.get id') (w.heap.setIfInBounds i.blk co)[i'.blk]?
        rw [this]; exact (hR.obj id' i' hi').mono hle
  · intro a b ia ib ha hb hab hla hlb
    unfold upd at ha hb
    by_cases ea : a = nx
    · by_cases eb : b = nx
      · rw [ea, eb]
      · rw [if_neg eb] at hb; rw [if_pos ea] at ha; cases ha
        have hdb := hR.dom b ib hb
        rw [hget b (by omega), if_neg eb, hdead b ib hb (by rw [← hab, hj])] at hlb
        cases hlb
    · rw [if_neg ea] at ha
      have hda := hR.dom a ia ha
      by_cases eb : b = nx
      · rw [if_pos eb] at hb; cases hb
        rw [hget a (by omega), if_neg ea, hdead a ia ha (by rw [hab, hj])] at hla
        cases hla
      · rw [if_neg eb] at hb
        have hdb := hR.dom b ib hb
        rw [hget a (by omega), if_neg ea] at hla
        rw [hget b (by omega), if_neg eb] at hlb
        exact hR.inj a b ia ib ha hb hab hla hlb
  · intro g hg
    exact hle _ _ (hR.glob g hg)
  · intro id' i' hi' hlo hl
    unfold upd at hi'
    by_cases e : id' = nx
    · rw [if_pos e] at hi'; cases hi'; rw [hj]; exact hbase
    · rw [if_neg e] at hi'
      have hd' := hR.dom id' i' hi'
      rw [hget id' (by omega), if_neg e] at hl
      exact hR.own id' i' hi' hlo hl
  · exact hR.below.trans ⟨rfl, rfl, rfl, by simp, fun b hb => Array.getElem?_setIfInBounds_ne (fun e => hbase (by rw [e]; exact hb))⟩
  · intro id' hid' _
    rw [hget id' (by omega), if_neg (by omega)]
  · intro id' hid' hp
    unfold upd; rw [if_neg (by omega)]; exact hp

/-- the outcome of an append -/
def AppendOk (K : Ctx) (P : Program) (Q : Out → Prop) (k : KV) (s : Sem Value) (lo0 : Nat) (ρ : Rho) (h : T AObj) (nx : Nat) (w : World) : Prop :=
  ∃ v h' nx' ρ' u w', s.run P w = .ok u w' ∧ VRel ρ' v u ∧ Step K lo0 ρ h nx w ρ' h' nx' w' ∧ All Q (k v h' nx')

theorem grow_new {ρ : Rho} {h h1 : T AObj} {nx : Nat} {w : World} {lo0 : Nat} {t xt ty e : TypeId} {i : TypeInfo} {z : Value} {dx : TypeDesc} (ht : P.underlying t = some (.slice e)) (hxt : P.underlying xt = some dx) (hi : P.info? e = some i) (hz : i.zero = some z) (hzs : z.cells.size = i.size)
    (hby : i.bytes ≤ 1000000) (hes : K.es e = i.size) (hpos : 0 < i.size) {base : Option Addr} {sLen sCap n : Nat} {y : Value} {olds new us os : List Value} (ha : Appended P i z dx y n us w) (hfit : sCap < sLen + n) (hneed : sLen + n ≤ 1000000)
    (hold : ∀ w', w'.heap = w.heap → (Builtin.firstCells i.size sLen (.slice base sLen sCap)).run P w' = .ok ⟨os⟩ w') (ho : VRels ρ olds os) (hn : VRels ρ new us)
    (hs : Step K lo0 ρ h nx w ρ h1 nx w) {k : KV} (hA : All Q (appendNew e (olds ++ new) (sLen + n) h1 nx k)) :
    AppendOk K P Q k (Builtin.append_ #[t, xt] ty #[.slice base sLen sCap, y]) lo0 ρ h nx w := by
  unfold appendNew at hA
  rw [all_newCellsK] at hA
  obtain ⟨hnx, hA⟩ := hA
  obtain ⟨cap, hcap, hrun⟩ := run_append_grow (ty := ty) ht hxt hi hz hzs hby ha hfit hneed hold
  have hr : VRels ρ (olds ++ new) (os ++ us) := L2.append ho hn
  have hst := Rel.newRow (lo0 := lo0) (sl := cap - (sLen + n)) (zs := manyOf (cap - (sLen + n)) z.cells.toList) (el := e) (fz := (0, 0)) (lo := 0) (hi := 0) (hs.rel.drewN 1) hnx hr (FzOk.none _ _) true (fun h => by cases h)
    (fun _ => ⟨by rw [hes]; exact hpos, by rw [length_manyOf, Array.length_toList, hzs, hes]⟩)
  have hv := VRel.slice (ρ := upd ρ nx ⟨w.heap.size, 0, cap - (sLen + n)⟩) (id := nx) (off := 0) (l := sLen + n) (c := sLen + n) (upd_same ρ nx _)
  have hc : sLen + n + (cap - (sLen + n)) = cap := by omega
  simp only [hc] at hv
  exact ⟨_, _, _, _, _, _, hrun, hv, hs.trans (Step.drew 1 hst), hA⟩
end Go.Ev

namespace Go.Ev
open Go Go.RowKit
variable {Q : Out → Prop} {K : Ctx} {P : Program} {B : Tab}

theorem not_ble {a b : Nat} (h : Nat.ble a b = false) : ¬ a ≤ b := fun h' => by rw [Nat.ble_eq_true_of_le h'] at h; cases h

theorem grow_over {ρ : Rho} {h : T AObj} {nx : Nat} {w : World} {lo0 : Nat} (hK : K.lo ≤ lo0) (hR : Rel K ρ h nx w) {t xt ty e : TypeId} {i : TypeInfo} {z : Value} {dx : TypeDesc} (ht : P.underlying t = some (.slice e)) (hxt : P.underlying xt = some dx) (hi : P.info? e = some i) (hz : i.zero = some z) (hzs : z.cells.size = i.size)
    (hby : i.bytes ≤ 1000000) (hes : K.es e = i.size) {id : Nat} {j : Info} (hj : ρ id = some j) {off sLen sCap n : Nat} {y : Value} {olds new us os : List Value} {tt : T Value} {d sz lo : Nat}
    (hg : h.get id = .cells tt d sz e lo 0 true) (hlo : lo0 ≤ id) (hend : off + sCap * i.size = sz) (ha : Appended P i z dx y n us w) (hfit : sLen + n ≤ sCap + j.sl)
    (ho : VRels ρ olds os) (hol : olds.length = sLen * i.size) (hoc : ∀ m u, os[m]? = some u → w.cell? ⟨j.blk, j.dl + off + m, none⟩ = some u) (hn : VRels ρ new us) (hnl : new.length = n * i.size) (hone : new.all oneCell = true)
    {k : KV} (hA : All Q (appendNew e (olds ++ new) (sLen + n) (T.set .dead h id) nx k)) :
    AppendOk K P Q k (Builtin.append_ #[t, xt] ty #[.slice (some ⟨j.blk, j.dl + off, none⟩) sLen (sCap + j.sl), y]) lo0 ρ h nx w := by
  unfold appendNew at hA
  rw [all_newCellsK] at hA
  obtain ⟨hnx, hA⟩ := hA
  have hob := hR.obj id j hj
  rw [hg] at hob
  obtain ⟨cs, fz, hc, hfull, hsz, hcell, hfz, _, hsl1⟩ := hob
  obtain ⟨hσ, hcs⟩ := hsl1 rfl
  rw [hes] at hcs
  have hfzle : fz.1 = fz.2 := by
    rcases hfz with ⟨h1, _, h3⟩ | ⟨_, h2, _⟩ | ⟨_, h2⟩
    · by_cases h4 : fz.1 < fz.2
      · have := h3 h4; omega
      · omega
    · omega
    · omega
  have hol' := ho.length
  have hnl' := hn.length
  have hmul : (sLen + n) * i.size ≤ (sCap + j.sl) * i.size := Nat.mul_le_mul_right _ hfit
  rw [Nat.add_mul, Nat.add_mul] at hmul
  obtain ⟨cs', h2, h3, h4⟩ := run_store_at (P := P) j.blk (j.dl + off + sLen * i.size) e fz us 0 cs w hc (fun m hm => by
    refine ⟨by omega, by omega⟩) (VRels.ones hn hone)
  have hst : (storeCells ((⟨j.blk, j.dl + off, none⟩ : Addr).add (sLen * i.size)) us).run P w = .ok () (w.setRow j.blk cs') := by
    rw [addr_add]; exact h2
  rw [setRow_eq w j.blk cs cs' e fz hc] at hst
  have hkill := Rel.kill (lo := lo0) hR hj hlo
  have hd := hR.dom id j hj
  have htop := hR.top
  have hdead : ∀ id' i', ρ id' = some i' → i'.blk = j.blk → (T.set AObj.dead h id).get id' = .dead := by
    intro id' i' hi' hb
    have hd' := hR.dom id' i' hi'
    rw [T.get_set _ 14 h id id' hR.full (by omega) (by omega)]
    by_cases e : id' = id
    · rw [if_pos e]
    · rw [if_neg e]
      by_cases hl : isLive (h.get id') = true
      · exact absurd (hR.inj id' id i' j hi' hj hb hl (by rw [hg]; rfl)) e
      · cases hg : h.get id' with
        | dead => rfl
        | _ => rw [hg] at hl; exact absurd rfl hl
  have hle := depthFor_le (olds ++ new).length
  have hlen : (olds ++ new).length = sLen * i.size + n * i.size := by rw [List.length_append, hol, hnl]
  have hup : ρ.le (upd ρ nx ⟨j.blk, j.dl + off, sCap + j.sl - (sLen + n)⟩) := upd_le _ hR.fresh
  have hstep := Rel.alias hkill.rel hnx hj (hR.own id j hj (Nat.le_trans hK hlo) (by rw [hg]; rfl)) lo0 ⟨j.blk, j.dl + off, sCap + j.sl - (sLen + n)⟩ rfl (cellsOf (olds ++ new) e true) (.cells cs' e fz) hdead (by
    refine ⟨cs', fz, rfl, T.full_putList _ _ _ _ (T.full_const _ _), hle, fun m hm => ?_, .inl ⟨by omega, Nat.zero_le _, (fun h => absurd h (by omega))⟩, (fun h => absurd h (by decide)), fun _ => ⟨hσ, ?_⟩⟩
    · rw [T.get_putList _ _ _ 0 m (T.full_const _ _) (by omega) (by omega), dif_pos (by omega)]
      show ∃ u, cs'[j.dl + off + m]? = some u ∧ _
      rw [h4]
      have hms : m < olds.length + new.length := by rw [← List.length_append]; exact hm
      by_cases hm2 : m < olds.length
      · rw [if_neg (by omega)]
        have hmo : m < os.length := by omega
        have hcc := hoc m os[m] (by simp [hmo])
        have hcc2 : cs[j.dl + off + m]? = some os[m] := by simpa [World.cell?, hc] using hcc
        refine ⟨os[m], hcc2, ?_⟩
        obtain ⟨u, hu1, hu2⟩ := ho.get m olds[m] (by simp [hm2])
        rw [List.getElem?_eq_getElem hmo] at hu1
        cases hu1
        have : (olds ++ new)[m - 0]'(by simpa using hm) = olds[m] := by simp [List.getElem_append_left hm2]
        rw [this]
        exact hu2.mono hup
      · rw [if_pos (by omega)]
        have he : j.dl + off + m - (j.dl + off + sLen * i.size + 0) = m - olds.length := by omega
        rw [he]
        have hmn : m - olds.length < new.length := by omega
        obtain ⟨u, hu1, hu2⟩ := hn.get (m - olds.length) new[m - olds.length] (by simp [hmn])
        refine ⟨u, hu1, ?_⟩
        have : (olds ++ new)[m - 0]'(by simpa using hm) = new[m - olds.length] := by
          simp only [Nat.sub_zero]
          rw [List.getElem_append_right (by omega)]
        rw [this]
        exact hu2.mono hup
    · show cs'.size = j.dl + off + (olds ++ new).length + (sCap + j.sl - (sLen + n)) * K.es e
      rw [h3, hcs, hlen, hes]
      have h5 : (sCap + j.sl - (sLen + n)) * i.size + (sLen + n) * i.size = (sCap + j.sl) * i.size := by
        rw [← Nat.add_mul]; congr 1; omega
      rw [Nat.add_mul, Nat.add_mul] at h5
      omega)
  have hv := VRel.slice (ρ := upd ρ nx ⟨j.blk, j.dl + off, sCap + j.sl - (sLen + n)⟩) (id := nx) (off := 0) (l := sLen + n) (c := sLen + n) (upd_same ρ nx _)
  have hcc : sLen + n + (sCap + j.sl - (sLen + n)) = sCap + j.sl := by omega
  simp only [hcc, Nat.add_zero] at hv
  exact ⟨_, _, _, _, _, _, run_append_fits ht hxt hi hz hzs hby ha hfit hst, hv, hkill.trans hstep, hA⟩

theorem appendTo_ok {ρ : Rho} {h : T AObj} {nx : Nat} {w : World} {lo0 : Nat} (hK : K.lo ≤ lo0) (hR : Rel K ρ h nx w) {t xt ty e : TypeId} {i : TypeInfo} {z : Value} {dx : TypeDesc} (ht : P.underlying t = some (.slice e)) (hxt : P.underlying xt = some dx) (hi : P.info? e = some i) (hz : i.zero = some z) (hzs : z.cells.size = i.size)
    (hby : i.bytes ≤ 1000000) (hes : K.es e = i.size) {base : Option Addr} {sLen sCap n : Nat} {xu y : Value} {new us : List Value} (hv : VRel ρ (.slice base sLen sCap) xu) (hn : VRels ρ new us) (ha : Appended P i z dx y n us w)
    {k : KV} (hA : All Q (appendTo lo0 e i.size base sLen sCap n new h nx k)) :
    AppendOk K P Q k (Builtin.append_ #[t, xt] ty #[xu, y]) lo0 ρ h nx w := by
  unfold appendTo at hA
  rw [all_forceN, all_iteR] at hA
  rcases hA with ⟨h0, hA⟩ | ⟨h0, hA⟩
  · have h0 : n = 0 := Nat.eq_of_beq_eq_true h0
    subst h0
    rw [all_iteR_fail] at hA
    obtain ⟨hle, hA⟩ := hA
    have hle : sLen ≤ sCap := Nat.le_of_ble_eq_true hle
    have hus := appended_zero ha
    obtain ⟨ub, c', rfl⟩ := hv.inv_slice
    have hcap := hv.slice_cap.2
    refine ⟨_, h, nx, ρ, .slice ub (sLen + 0) c', w, run_append_fits ht hxt hi hz hzs hby ha (by omega) ?_, hv, .refl hR, hA⟩
    subst hus
    cases ub <;> rfl
  · rw [all_iteR] at hA
    rcases hA with ⟨h1, hA⟩ | ⟨h1, hA⟩
    · have h1 : sLen + n ≤ sCap := Nat.le_of_ble_eq_true h1
      have key : ∀ (id off : Nat) (j : Info) (c' : Nat), ρ id = some j → sCap ≤ c' → All Q (storeK lo0 h id (Nat.add off (Nat.mul sLen i.size)) new fun h => k (.slice base (Nat.add sLen n) sCap) h nx) →
          VRel ρ (.slice base (sLen + n) sCap) (.slice (some ⟨j.blk, j.dl + off, none⟩) (sLen + n) c') →
          AppendOk K P Q k (Builtin.append_ #[t, xt] ty #[.slice (some ⟨j.blk, j.dl + off, none⟩) sLen c', y]) lo0 ρ h nx w := by
        intro id off j c' hj hc' hA hv'
        obtain ⟨w', h', hst, hstep, hA⟩ := storeK_ok (P := P) hK hR hj hn hA
        refine ⟨_, h', nx, ρ, _, w', run_append_fits ht hxt hi hz hzs hby ha (by omega) ?_, hv', hstep, hA⟩
        show (storeCells ((⟨j.blk, j.dl + off, none⟩ : Addr).add (sLen * i.size)) us).run P w = _
        rw [addr_add, Nat.add_assoc]
        exact hst
      cases hv with
      | nilSlice => exact absurd hA (by simp)
      | slice hj => exact key _ _ _ _ hj (Nat.le_add_right _ _) hA (.slice hj)
      | slice0 hj => exact key _ _ _ _ hj (Nat.le_refl _) hA (.slice0 hj)
      | slice1 o' c' hj => exact absurd hA (by simp)
    · have h1 : ¬ (sLen + n ≤ sCap) := not_ble h1
      rw [all_iteR_fail] at hA
      obtain ⟨hc, hA⟩ := hA
      simp only [Bool.and_eq_true, Nat.ble_eq, Nat.blt_eq] at hc
      obtain ⟨⟨⟨hneed, hpos⟩, hsl⟩, hnl⟩ := hc
      have hnl : new.length = n * i.size := Nat.eq_of_beq_eq_true hnl
      have hneed : sLen + n ≤ 1000000 := hneed
      unfold appendGrow at hA
      have hload : ∀ (id off : Nat) (j : Info) (c' : Nat) (kk : List Value → R), ρ id = some j → All Q (loadK h id off (Nat.mul sLen i.size) kk) →
          ∃ olds os, VRels ρ olds os ∧ olds.length = sLen * i.size ∧ (∀ m u, os[m]? = some u → w.cell? ⟨j.blk, j.dl + off + m, none⟩ = some u) ∧
            (∀ w', w'.heap = w.heap → (Builtin.firstCells i.size sLen (.slice (some ⟨j.blk, j.dl + off, none⟩) sLen c')).run P w' = .ok ⟨os⟩ w') ∧ All Q (kk olds) := by
        intro id off j c' kk hj hA
        obtain ⟨olds, os, hr, hl, _, hcell, hA⟩ := loadCells_ok (P := P) hR hj hA
        refine ⟨olds, os, hr, hl, hcell, fun w' hw => ?_, hA⟩
        show (loadCells ⟨j.blk, j.dl + off, none⟩ (sLen * i.size)).run P w' = _
        have hll : os.length = sLen * i.size := by rw [← hr.length, hl]; rfl
        have := run_loadCells_list (P := P) w' ⟨j.blk, j.dl + off, none⟩ os (fun m v hm => by
          rw [addr_add]
          have := hcell m v hm
          unfold World.cell? at this ⊢
          rw [hw]; exact this)
        rw [hll] at this
        exact this
      cases hv with
      | nilSlice =>
        exact grow_new ht hxt hi hz hzs hby hes hpos (olds := []) (os := []) ha (by omega) hneed (fun w' _ => rfl) .nil hn (.refl hR) hA
      | slice hj =>
        rename_i id off j
        obtain ⟨olds, os, ho, hol, hoc, hold, hA⟩ := hload id off j (sCap + j.sl) _ hj hA
        rw [all_onCells] at hA
        obtain ⟨tt, d, sz, el, lo, fh, sl, hg, hA⟩ := hA
        rw [all_iteR] at hA
        rcases hA with ⟨hs, hA⟩ | ⟨hs, hA⟩
        · have hs : sl = true := by simpa using hs
          subst hs
          rw [all_iteR_fail] at hA
          obtain ⟨hc, hA⟩ := hA
          simp only [Bool.and_eq_true, Nat.ble_eq] at hc
          obtain ⟨⟨⟨⟨hlo, hend⟩, hel⟩, hfh⟩, hone⟩ := hc
          have hend : off + sCap * i.size = sz := Nat.eq_of_beq_eq_true hend
          have hel : el = e := Nat.eq_of_beq_eq_true hel
          have hfh : fh = 0 := Nat.eq_of_beq_eq_true hfh
          subst hel hfh
          by_cases hfit : sLen + n ≤ sCap + j.sl
          · exact grow_over hK hR ht hxt hi hz hzs hby hes hj hg hlo hend ha hfit ho hol hoc hn hnl hone hA
          · exact grow_new ht hxt hi hz hzs hby hes hpos ha (by omega) hneed hold ho hn (Rel.kill hR hj hlo) hA
        · have hs : sl = false := by simpa using hs
          subst hs
          have hob := hR.obj id j hj
          rw [hg] at hob
          obtain ⟨_, _, _, _, _, _, _, hsl0, _⟩ := hob
          have hj0 := (hsl0 rfl).2.1
          refine grow_new ht hxt hi hz hzs hby hes hpos ha (by omega) hneed hold ho hn (.refl hR) hA
      | slice0 hj =>
        rename_i id off j
        obtain ⟨olds, os, ho, hol, hoc, hold, hA⟩ := hload id off j sCap _ hj hA
        rw [all_onCells] at hA
        obtain ⟨tt, d, sz, el, lo, fh, sl, hg, hA⟩ := hA
        have hs : (sl && (some 0 : Option Nat).isNone) = false := by simp
        rw [all_iteR, hs] at hA
        rcases hA with ⟨hs, hA⟩ | ⟨_, hA⟩
        · cases hs
        · exact grow_new ht hxt hi hz hzs hby hes hpos ha (by omega) hneed hold ho hn (.refl hR) hA
      | slice1 o' c' hj => exact absurd hA (by simp)

theorem ok_append (hB : TabOk B P) (hes : ∀ t i, P.info? t = some i → K.es t = i.size) (c : Call) (hc : c.callee = .builtin .append) (ty : TypeId) : HOk K P (bAppend B c) (ex (.call c) ty) := by
  intro Q a e h nx k ρ act w hK hA hR hE
  rw [call_builtin hc]
  unfold bAppend at hA
  split at hA
  · rename_i x y hargs
    obtain ⟨v, hv, hA1⟩ := evalK_ok hR.glob hE hA
    obtain ⟨u, hu, hA2⟩ := evalK_ok hR.glob hE hA1
    clear hA hA1
    unfold appendK at hA2
    split at hA2
    · rename_i st xt rest htys
      rw [all_onRow] at hA2
      obtain ⟨ht, d, nn, zz, sub, hrow, hA3⟩ := hA2
      rw [all_onRow] at hA3
      obtain ⟨hxt, dx, n2, z2, sub2, hrowx, hA4⟩ := hA3
      split at hA4
      · rename_i elem o size rest2
        rw [all_onSlice] at hA4
        obtain ⟨base, sLen, sCap, rfl, hA5⟩ := hA4
        rw [all_onRow] at hA5
        obtain ⟨hte, de, ne, ze, sube, hrowe, hA6⟩ := hA5
        rw [all_onO] at hA6
        obtain ⟨z, rfl, hA7⟩ := hA6
        obtain ⟨j, hj1, hj2⟩ := hB.slice st elem nn zz _ ht hrow
        cases hj2
        obtain ⟨_, i, hi, hisz, hiz, hclo⟩ := hB.row elem de ne (some z) sube hte hrowe
        have hij : j = i := by rw [hi] at hj1; exact (Option.some.inj hj1).symm
        subst hij
        obtain ⟨hzr, hzs⟩ := VRel.info hB (ρ := ρ) hte hrowe
        have hby := hB.small elem de ne (some z) sube hte hrowe j hi
        have hu1 := (hB.row st _ nn zz _ ht hrow).1
        have hu2 := (hB.row xt dx n2 z2 sub2 hxt hrowx).1
        have hz' : z.cells.size = j.size := by rw [hisz]; exact hzs
        have h0 : c.argTypes[0]? = some st := by rw [← Array.getElem?_toList, htys]; rfl
        have h1 : c.argTypes[1]? = some xt := by rw [← Array.getElem?_toList, htys]; rfl
        have h2 : (c.args.map act.eval)[0]? = some (act.eval x) := by rw [← Array.getElem?_toList, Array.toList_map, hargs]; rfl
        have h3 : (c.args.map act.eval)[1]? = some (act.eval y) := by rw [← Array.getElem?_toList, Array.toList_map, hargs]; rfl
        have hcong := append_congr (ty := ty) h0 h1 h2 h3
        generalize act.eval x = xu at hv hcong
        generalize act.eval y = yu at hu hcong
        have fin : AppendOk K P Q k (Builtin.append_ #[st, xt] ty #[xu, yu]) a.lo ρ h nx w →
            ∃ v h' nx' ρ' u w', ((vS (Builtin.append_ c.argTypes ty (c.args.map act.eval))).run P w = .ok (.value u) w' ∨ ((vS (Builtin.append_ c.argTypes ty (c.args.map act.eval))).run P w = .ok .skip w' ∧ u = undef)) ∧ VRel ρ' v u ∧ Step K a.lo ρ h nx w ρ' h' nx' w' ∧ All Q (k v h' nx') := by
          rintro ⟨v, h', nx', ρ', u, w', hrun, hv, hs, hA⟩
          rw [hcong]
          exact hok_new hrun hv hs hA
        rw [all_iteR] at hA7
        rcases hA7 with ⟨hd, hA8⟩ | ⟨hd, hA8⟩
        · rw [all_onIx] at hA8
          obtain ⟨q, n, rfl, hA9⟩ := hA8
          rw [all_iteR_fail] at hA9
          have hyu : yu = .int q (Int.ofNat n) := VRel.atom rfl hu
          exact fin (appendTo_ok hK hR hu1 hu2 hi hiz hz' hby (hes _ _ hi) hv (VRels.many hzr n) (.inl ⟨hd, ⟨q, hyu⟩, Nat.le_of_ble_eq_true hA9.1, rfl⟩) hA9.2)
        · obtain ⟨hlen, hA9⟩ := all_lenK (P := P) u _ hA8
          obtain ⟨cs, us, hr, _, hfirst, hA10⟩ := src_ok (P := P) hR hu (Nat.le_refl _) hA9
          exact fin (appendTo_ok hK hR hu1 hu2 hi hiz hz' hby (hes _ _ hi) hv hr (.inr ⟨hd, fun w' => hlen w' hu, hfirst⟩) hA10)
      · simp at hA4
    · simp at hA2
  · simp at hA
end Go.Ev
