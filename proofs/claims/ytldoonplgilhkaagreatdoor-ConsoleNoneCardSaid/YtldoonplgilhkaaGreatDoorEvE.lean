/-
THE EVALUATOR IS SOUND, fifth part: entries of known calls by their check; a closed call at the top; the tables out of a program. No condition.
-/
import Derived.Test.YtldoonplgilhkaaGreatDoorEvD
import Derived.Test.YtldoonplgilhkaaGreatDoorEvC
import Derived.Laws.StructEq
import Derived.Lib.UnsafeStr
namespace Go.Ev
open Go Go.RowKit
variable {P : Program} {B : Tab}

theorem full_putObjs : ∀ (l : List (Nat × AObj)) (h : T AObj), T.full 14 h → T.full 14 (putObjs l h)
  | [], _, hf => hf
  | (_, _) :: r, h, hf => T.full_set _ _ _ _ (full_putObjs r h hf)
theorem get_putObjs : ∀ (l : List (Nat × AObj)) (h : T AObj), T.full 14 h → (∀ id o, (id, o) ∈ l → id < 16384) → ∀ id, id < 16384 →
    (∃ o, (id, o) ∈ l ∧ (putObjs l h).get id = o) ∨ ((∀ o, (id, o) ∉ l) ∧ (putObjs l h).get id = h.get id)
  | [], _, _, _, id, _ => .inr ⟨fun o h => (by cases h), rfl⟩
  | (j, q) :: r, h, hf, hl, id, hid => by
    have hg : (putObjs ((j, q) :: r) h).get id = if id = j then q else (putObjs r h).get id :=
      T.get_set q 14 _ j id (full_putObjs r h hf) (hl j q (List.mem_cons_self ..)) hid
    by_cases e : id = j
    · subst e
      exact .inl ⟨q, List.mem_cons_self .., by rw [hg, if_pos rfl]⟩
    · rw [if_neg e] at hg
      rcases get_putObjs r h hf (fun i o hm => hl i o (List.mem_cons_of_mem _ hm)) id hid with ⟨o, ho, h1⟩ | ⟨ho, h1⟩
      · exact .inl ⟨o, List.mem_cons_of_mem _ ho, by rw [hg, h1]⟩
      · refine .inr ⟨fun o hm => ?_, by rw [hg, h1]⟩
        rcases List.mem_cons.1 hm with e' | hm
        · cases e'; exact e rfl
        · exact ho o hm

theorem inB_spec {id : Nat} : ∀ {l : List (Nat × AObj)}, inB id l = true → ∃ o, (id, o) ∈ l
  | [], h => by cases h
  | (j, q) :: r, h => by
    simp only [inB, Bool.or_eq_true] at h
    rcases h with h | h
    · have := Nat.eq_of_beq_eq_true h
      subst this
      exact ⟨q, List.mem_cons_self ..⟩
    · obtain ⟨o, ho⟩ := inB_spec h
      exact ⟨o, List.mem_cons_of_mem _ ho⟩
theorem postB_spec {nx nx1 : Nat} {pre : List (Nat × AObj)} {h : T AObj} : ∀ {l : List (Nat × AObj)}, postB nx nx1 pre h l = true → ∀ id o, (id, o) ∈ l → id < nx1 ∧ (nx ≤ id ∨ ∃ o, (id, o) ∈ pre) ∧ h.get id = o
  | [], _, _, _, hm => by cases hm
  | (j, q) :: r, hb, id, o, hm => by
    simp only [postB, Bool.and_eq_true, Bool.or_eq_true, Nat.blt_eq, Nat.ble_eq] at hb
    rcases List.mem_cons.1 hm with e | hm
    · cases e
      exact ⟨hb.1.1.1, hb.1.1.2.imp id inB_spec, beqObj_eq hb.1.2⟩
    · exact postB_spec hb.2 id o hm
theorem keepB_spec {post : List (Nat × AObj)} {h : T AObj} : ∀ {l : List (Nat × AObj)}, keepB post h l = true → ∀ id o, (id, o) ∈ l → (∃ o, (id, o) ∈ post) ∨ h.get id = o
  | [], _, _, _, hm => by cases hm
  | (j, q) :: r, hb, id, o, hm => by
    simp only [keepB, Bool.and_eq_true, Bool.or_eq_true] at hb
    rcases List.mem_cons.1 hm with e | hm
    · cases e
      exact hb.1.imp inB_spec beqObj_eq
    · exact keepB_spec hb.2 id o hm

theorem entry_ok {σ : TypeId → Nat} (hB : TabOk B P) (hext : ∀ K : Ctx, K.es = σ → ExtOk K P B) {rc : RC} (hrc : ∀ K : Ctx, K.es = σ → RCOk K P rc) {f : FuncId} {nx : Nat} {E : Entry}
    (hc : checkB B rc f nx E = true) : EntryOk σ P f nx E := by
  intro K ρ h w uargs hσ hlo hR hpre hargs
  let K' : Ctx := ⟨w, fun b => b < w.heap.size ∧ ∀ id o i, (id, o) ∈ E.pre → 10 ≤ id → ρ id = some i → i.blk ≠ b, 10, σ⟩
  have hfc : T.full 14 (T.const AObj.dead 14) := T.full_const _ _
  have hpl : ∀ id o, (id, o) ∈ E.pre → id < 16384 := fun id o hm => (hpre id o hm).1
  have h0 : ∀ id, id < 16384 → isLive ((putObjs E.pre (T.const .dead 14)).get id) = true → ∃ o, (id, o) ∈ E.pre ∧ (putObjs E.pre (T.const .dead 14)).get id = o := by
    intro id hid hl
    rcases get_putObjs E.pre _ hfc hpl id hid with h | ⟨_, h⟩
    · exact h
    · rw [h, T.get_const] at hl; cases hl
  have hsame : ∀ id, id < 16384 → isLive ((putObjs E.pre (T.const .dead 14)).get id) = true → (putObjs E.pre (T.const .dead 14)).get id = h.get id := by
    intro id hid hl
    obtain ⟨o, hm, ho⟩ := h0 id hid hl
    rw [ho, (hpre id o hm).2.2]
  have htop := hR.top
  have hlo0 := hR.lo15
  have hloNx := hR.loNx
  have hR' : Rel K' ρ (putObjs E.pre (T.const .dead 14)) nx w := by
    refine ⟨full_putObjs _ _ hfc, hR.top, hR.dom, ?_, ?_, hR.glob, ?_, .refl _ _, Nat.le_refl _, ?_, fun k hk => hk.1, ?_⟩
    · intro id i hi
      have hd := hR.dom id i hi
      by_cases hl : isLive ((putObjs E.pre (T.const .dead 14)).get id) = true
      · rw [hsame id (by omega) hl]
        have := hR.obj id i hi
        rw [hσ] at this; exact this
      · cases hg : (putObjs E.pre (T.const .dead 14)).get id with
        | dead => trivial
        | _ => rw [hg] at hl; exact absurd rfl hl
    · intro id id' i i' hi hi' hb hl hl'
      have hd := hR.dom id i hi
      have hd' := hR.dom id' i' hi'
      rw [hsame id (by omega) hl] at hl
      rw [hsame id' (by omega) hl'] at hl'
      exact hR.inj id id' i i' hi hi' hb hl hl'
    · intro id i hi h10 hl hp
      have hd := hR.dom id i hi
      obtain ⟨o, hm, _⟩ := h0 id (by omega) hl
      exact hp.2 id o i hm h10 hi rfl
    · have := hR.loNx; show 10 ≤ nx; omega
    · intro id h1 h2
      by_cases hl : isLive ((putObjs E.pre (T.const .dead 14)).get id) = true
      · rw [hsame id h2 hl, hR.dry id h1 h2]
      · cases hg : (putObjs E.pre (T.const .dead 14)).get id with
        | dead => rfl
        | _ => rw [hg] at hl; exact absurd rfl hl
  unfold checkB at hc
  split at hc
  · rename_i l hl
    obtain ⟨v, h1, nx1, ρ', u, w', hs, hv, hmem, hrun⟩ := body_ok (K := K') (lo := 10) hB (hext K' rfl) (hrc K' rfl) (Nat.le_refl _) (outcomes_all _ l hl) hR' hargs
    rw [List.all_eq_true] at hc
    have hg := hc _ hmem
    simp only [goodOut, Bool.and_eq_true] at hg
    obtain ⟨⟨⟨hgv, hgn⟩, hgp⟩, hgk⟩ := hg
    have hgv := beqC_eq hgv
    have hgn := Nat.eq_of_beq_eq_true hgn
    subst hgv hgn
    have hpost := postB_spec hgp
    have hkeep := keepB_spec hgk
    have htop1 := hs.rel.top
    have hup := hs.up
    have hpo : ∀ id o, (id, o) ∈ E.post → id < 16384 := fun id o hm => by have := (hpost id o hm).1; omega
    -- where an object of the new memory comes from
    have hcls : ∀ id, id < 16384 → ((putObjs E.post h).get id = h1.get id) ∨ ((putObjs E.post h).get id = h.get id ∧ (∀ o, (id, o) ∉ E.pre) ∧ ∀ o, (id, o) ∉ E.post) := by
      intro id hid
      rcases get_putObjs E.post h hR.full hpo id hid with ⟨o, hm, ho⟩ | ⟨hn, ho⟩
      · exact .inl (by rw [ho, (hpost id o hm).2.2])
      · by_cases hp : ∃ o, (id, o) ∈ E.pre
        · obtain ⟨o, hp⟩ := hp
          rcases hkeep id o hp with ⟨o', h'⟩ | h'
          · exact absurd h' (hn o')
          · exact .inl (by rw [ho, h', (hpre id o hp).2.2])
        · exact .inr ⟨ho, fun o hm => hp ⟨o, hm⟩, hn⟩
    -- what lies beside is as it was
    have hside : ∀ id i, ρ id = some i → (∀ o, (id, o) ∉ E.pre) → isLive (h.get id) = true → K'.prot i.blk := by
      intro id i hi hn hl
      refine ⟨(hR.dom id i hi).2, fun id' o' i' hm h10 hi' hb => ?_⟩
      have hp := hpre id' o' hm
      have := hR.inj id' id i' i hi' hi hb (by rw [hp.2.2]; exact hp.2.1) hl
      subst this
      exact hn o' hm
    have hprot : ∀ b, K.prot b → K'.prot b := by
      intro b hb
      refine ⟨hR.base b hb, fun id o i hm h10 hi e => ?_⟩
      have hp := hpre id o hm
      exact hR.own id i hi (by omega) (by rw [hp.2.2]; exact hp.2.1) (by rw [e]; exact hb)
    have hblk : ∀ b, K'.prot b → w'.heap[b]? = w.heap[b]? := hs.rel.below.block
    have hback : ∀ id i, ρ' id = some i → id < nx → ρ id = some i := by
      intro id i hi hid
      cases e : ρ id with
      | none => rw [hs.pend id hid e] at hi; cases hi
      | some j => rw [hs.le id j e] at hi; exact hi
    have hstep : Step K 10 ρ h nx w ρ' (putObjs E.post h) E.nx w' := by
      refine ⟨⟨full_putObjs _ _ hR.full, htop1, hs.rel.dom, ?_, ?_, hs.rel.glob, ?_, ?_, hR.lo15, by have := hR.loNx; omega, fun k hk => Nat.lt_of_lt_of_le (hR.base k hk) hs.rel.below.size, ?_⟩, hs.le, hs.up, ?_, hs.pend, ?_⟩
      · intro id i hi
        have hd := hs.rel.dom id i hi
        rcases hcls id (by omega) with e | ⟨e, hn, _⟩
        · rw [e, hσ]; exact hs.rel.obj id i hi
        · rw [e]
          by_cases hl : isLive (h.get id) = true
          · have hid : id < nx := by
              rcases Nat.lt_or_ge id nx with h | h
              · exact h
              · rw [hR.dry id h (by omega)] at hl; cases hl
            have hi0 := hback id i hi hid
            rw [hblk _ (hside id i hi0 hn hl)]
            exact (hR.obj id i hi0).mono hs.le
          · cases hg : h.get id with
            | dead => trivial
            | _ => rw [hg] at hl; exact absurd rfl hl
      · have mixed : ∀ a b ia ib, ρ' a = some ia → ρ' b = some ib → ia.blk = ib.blk → isLive (h1.get a) = true → isLive (h.get b) = true → (∀ o, (b, o) ∉ E.pre) → b < 16384 → a = b := by
          intro a b ia ib ha hb hab hla hlb hn hb16
          have hid : b < nx := by
            rcases Nat.lt_or_ge b nx with h | h
            · exact h
            · rw [hR.dry b h hb16] at hlb; cases hlb
          have hb0 := hback b ib hb hid
          have hp := hside b ib hb0 hn hlb
          rcases Nat.lt_or_ge a 10 with h10 | h10
          · have hold := hs.old a (by omega) (.inl h10)
            rw [hold] at hla
            have ha16 : a < 16384 := by omega
            rw [hsame a ha16 hla] at hla
            have hia : ia = ⟨a, 0, 0⟩ := by have := hs.rel.glob a h10; rw [ha] at this; exact Option.some.inj this
            exact hR.inj a b ia ib (by rw [hia]; exact hR.glob a h10) hb0 hab hla hlb
          · exact absurd (by rw [hab]; exact hp) (hs.rel.own a ia ha h10 hla)
        intro a b ia ib ha hb hab hla hlb
        have hda := hs.rel.dom a ia ha
        have hdb := hs.rel.dom b ib hb
        rcases hcls a (by omega) with ea | ⟨ea, hna, _⟩
        · rw [ea] at hla
          rcases hcls b (by omega) with eb | ⟨eb, hnb, _⟩
          · rw [eb] at hlb
            exact hs.rel.inj a b ia ib ha hb hab hla hlb
          · rw [eb] at hlb
            exact mixed a b ia ib ha hb hab hla hlb hnb (by omega)
        · rw [ea] at hla
          rcases hcls b (by omega) with eb | ⟨eb, hnb, _⟩
          · rw [eb] at hlb
            exact (mixed b a ib ia hb ha hab.symm hlb hla hna (by omega)).symm
          · rw [eb] at hlb
            have hid : ∀ c, c < 16384 → isLive (h.get c) = true → c < nx := fun c hc hl => by
              rcases Nat.lt_or_ge c nx with h | h
              · exact h
              · rw [hR.dry c h hc] at hl; cases hl
            exact hR.inj a b ia ib (hback a ia ha (hid a (by omega) hla)) (hback b ib hb (hid b (by omega) hlb)) hab hla hlb
      · intro id i hi h10 hl hp
        have hd := hs.rel.dom id i hi
        rw [hlo] at h10
        rcases hcls id (by omega) with e | ⟨e, hn, _⟩
        · rw [e] at hl
          exact hs.rel.own id i hi h10 hl (hprot _ hp)
        · rw [e] at hl
          have hid : id < nx := by
            rcases Nat.lt_or_ge id nx with h | h
            · exact h
            · rw [hR.dry id h (by omega)] at hl; cases hl
          exact hR.own id i (hback id i hi hid) (by omega) hl hp
      · have hb := hs.rel.below
        exact hR.below.trans ⟨hb.os, hb.tape, hb.output, hb.size, fun k hk => hb.block k (hprot k hk)⟩
      · intro id h2 h3
        rcases get_putObjs E.post h hR.full hpo id h3 with ⟨o, hm, ho⟩ | ⟨hn, ho⟩
        · have := (hpost id o hm).1; omega
        · rw [ho]; exact hR.dry id (by omega) h3
      · intro id hid hc
        rcases get_putObjs E.post h hR.full hpo id (by omega) with ⟨o, hm, ho⟩ | ⟨hn, ho⟩
        · obtain ⟨_, hin, hg⟩ := hpost id o hm
          rcases hin with hin | ⟨o', hin⟩
          · omega
          · have := hs.old id hid hc
            rw [ho, ← hg, this]
            rcases get_putObjs E.pre _ hfc hpl id (by omega) with ⟨o2, hm2, ho2⟩ | ⟨hn2, _⟩
            · rw [ho2, (hpre id o2 hm2).2.2]
            · exact absurd hin (hn2 o')
        · exact ho
      · intro id i hid h10 hi hl
        by_cases hn : ∃ o, (id, o) ∈ E.pre
        · obtain ⟨o, hm⟩ := hn
          refine hs.keep id i hid h10 hi ?_
          rcases get_putObjs E.pre _ hfc hpl id (by omega) with ⟨o2, hm2, ho2⟩ | ⟨hn2, _⟩
          · rw [ho2]; exact (hpre id o2 hm2).2.1
          · exact absurd hm (hn2 o)
        · exact hblk _ (hside id i hi (fun o hm => hn ⟨o, hm⟩) hl)
    exact ⟨ρ', u, w', hstep, hv, hrun⟩
  · cases hc
end Go.Ev

namespace Go.Ev
open Go Go.RowKit
variable {P : Program} {B : Tab}

/-! a closed call at the top -/
def ctx0 (σ : TypeId → Nat) (w : World) : Ctx := ⟨w, fun k => k < w.heap.size, 10, σ⟩
def rho0 : Rho := fun id => if id < 10 then some ⟨id, 0, 0⟩ else none

theorem rho0_some {id : Nat} {i : Info} (h : rho0 id = some i) : id < 10 ∧ i = ⟨id, 0, 0⟩ := by
  unfold rho0 at h
  split at h
  · rename_i h'; exact ⟨h', (Option.some.inj h).symm⟩
  · cases h

theorem rel0 {σ : TypeId → Nat} {h0 : T AObj} {w : World} (hf : T.full 14 h0) (hd : ∀ id, 10 ≤ id → id < 16384 → h0.get id = .dead)
    (hg : ∀ g, g < 10 → ORel σ rho0 ⟨g, 0, 0⟩ (h0.get g) w.heap[g]?) (h10 : 10 ≤ w.heap.size) : Rel (ctx0 σ w) rho0 h0 10 w := by
  refine ⟨hf, by decide, ?_, ?_, ?_, fun g hg => by unfold rho0; rw [if_pos hg], ?_, .refl _ _, Nat.le_refl _, Nat.le_refl _, fun k hk => hk, hd⟩
  · intro id i hi
    obtain ⟨h1, rfl⟩ := rho0_some hi
    exact ⟨h1, by show id < w.heap.size; omega⟩
  · intro id i hi
    obtain ⟨h1, rfl⟩ := rho0_some hi
    exact hg id h1
  · intro id id' i i' hi hi' hb _ _
    obtain ⟨_, rfl⟩ := rho0_some hi
    obtain ⟨_, rfl⟩ := rho0_some hi'
    exact hb
  · intro id i hi hlo _ _
    obtain ⟨h1, _⟩ := rho0_some hi
    have : 10 ≤ id := hlo
    omega

def valOf : R → Option Value
  | .ret o => some o.v
  | _ => none
def retK : KV := fun v h nx => .ret ⟨v, h, nx⟩
theorem valOf_all {r : R} {v : Value} (h : valOf r = some v) : All (fun o => o.v = v) r := by
  cases r with
  | fail s => cases h
  | ret o => exact Option.some.inj h
  | ask n k => cases h

theorem top_ok {σ : TypeId → Nat} (hB : TabOk B P) (hext : ∀ K : Ctx, K.es = σ → ExtOk K P B) (hM : ∀ K : Ctx, K.es = σ → MemoOk K B P) {rc : RC} (hrc : ∀ K : Ctx, K.es = σ → RCOk K P rc)
    {f : FuncId} {args : List Value} {v : Value} (hv : clo v = true) (ha : args.all Ev.atom = true) {h0 : T AObj} {w : World} (hf : T.full 14 h0) (hd : ∀ id, 10 ≤ id → id < 16384 → h0.get id = .dead)
    (hg : ∀ g, g < 10 → ORel σ rho0 ⟨g, 0, 0⟩ (h0.get g) w.heap[g]?) (h10 : 10 ≤ w.heap.size) (hr : valOf (callK 10 B rc f args h0 10 retK) = some v) :
    ∃ w', Runs P f args w v w' ∧ Below w.heap.size w w' := by
  obtain ⟨v', h', nx', ρ', u, w', hs, hvu, hq, hrun⟩ := call_ok (K := ctx0 σ w) (lo := 10) hB (hext _ rfl) (hM _ rfl) (hrc _ rfl) (Nat.le_refl _) (valOf_all hr) (rel0 hf hd hg h10) (VRels.of_atoms ha)
  have hq : v' = v := hq
  subst hq
  have := VRel.clo hv hvu
  subst this
  exact ⟨w', hrun, hs.rel.below.below⟩

/-- a run of a function with a body, as the kit's contract -/
theorem calls_of_runs {f : FuncId} {fn : Func} {c : Code} {args : List Value} {w w' : World} {v : Value} (hf : P.funcs[f]? = some fn) (hb : fn.body = some c) (hn : (fn.name == "runtime.NumGoroutine") = false)
    (h : Runs P f args w v w') : Calls P f ⟨args⟩ w fun e w'' => e = .returned v ∧ w'' = w' := by
  rcases h with h | ⟨_, h⟩
  · rw [run_callFunc_body hf hn hb] at h
    cases h
  · intro cs
    obtain ⟨fr, h1, h2, h3⟩ := h cs
    exact ⟨.returned v, w', fr, ⟨rfl, rfl⟩, h1, h2, h3⟩
end Go.Ev

namespace Go.Ev
open Go Go.RowKit
variable {P : Program}

/-! the tables out of the program -/
def zeroOk (i : TypeInfo) : Bool := match i.zero with | none => true | some v => clo v && Nat.beq v.cells.size i.size
def byteOk (d : TypeDesc) (n : Nat) : Bool := match d with | .int .u8 => Nat.beq n 1 | _ => true
def fieldsOf (P : Program) : List Field → Option (List (Nat × Nat))
  | [] => some []
  | f :: fs => match P.info? f.type, fieldsOf P fs with | some i, some r => some ((f.offset, i.size) :: r) | _, _ => none
def subOf (P : Program) (d : TypeDesc) : Option (List (Nat × Nat)) :=
  match d with
  | .struct fs => fieldsOf P fs.toList
  | .slice e => match P.info? e with | some i => some [(0, i.size)] | none => none
  | .array _ e => match P.info? e with | some i => some [(0, i.size)] | none => none
  | .map _ e => match P.info? e with | some i => some [(0, i.size)] | none => none
  | _ => some []
def rowOf (P : Program) (t : Nat) : TRow :=
  if t < P.types.size then match P.underlying t, P.info? t with
    | some d, some i => match subOf P d with
      | some sub => if zeroOk i && Nat.ble i.bytes 1000000 && byteOk d i.size then .row d i.size i.zero sub else .none
      | none => .none
    | _, _ => .none
  else .none

theorem rowOf_spec {t : Nat} {d : TypeDesc} {n : Nat} {z : Option Value} {sub : List (Nat × Nat)} (h : rowOf P t = .row d n z sub) :
    P.underlying t = some d ∧ subOf P d = some sub ∧ ∃ i, P.info? t = some i ∧ i.size = n ∧ i.zero = z ∧ zeroOk i = true ∧ i.bytes ≤ 1000000 ∧ byteOk d n = true := by
  unfold rowOf at h
  split at h
  · split at h
    · rename_i d' i hu hi
      split at h
      · rename_i sub' hs
        split at h
        · rename_i hc
          simp only [Bool.and_eq_true, Nat.ble_eq] at hc
          cases h
          exact ⟨hu, hs, i, hi, rfl, rfl, hc.1.1, hc.1.2, hc.2⟩
        · cases h
      · cases h
    · cases h
  · cases h

theorem fieldsOf_spec : ∀ (fs : List Field) (r : List (Nat × Nat)), fieldsOf P fs = some r → r.length = fs.length ∧ ∀ (k : Nat) f, fs[k]? = some f → ∃ j, P.info? f.type = some j ∧ r[k]? = some (f.offset, j.size)
  | [], r, h => by cases h; exact ⟨rfl, fun k f h => by simp at h⟩
  | f :: fs, r, h => by
    unfold fieldsOf at h
    split at h
    · rename_i i r' hi hr
      cases h
      obtain ⟨h1, h2⟩ := fieldsOf_spec fs r' hr
      refine ⟨by simp [h1], fun k g hg => ?_⟩
      cases k with
      | zero => simp at hg; subst hg; exact ⟨i, hi, rfl⟩
      | succ k => simpa using h2 k g (by simpa using hg)
    · cases h

/-! structs of whole numbers -/
def intFields (P : Program) : List Field → Nat → Bool
  | [], _ => true
  | f :: fs, k => !(decide (f.name = "_")) && Nat.beq f.offset k && (match P.underlying f.type with | some (.int _) => true | _ => false) && intFields P fs (Nat.succ k)
def intStruct (P : Program) (t n : Nat) : Bool :=
  match P.underlying t with
  | some (.struct fs) => Nat.beq fs.toList.length n && !(P.stoodInHeld t) && !(P.eqGuardType P.depth t) && intFields P fs.toList 0
  | _ => false

theorem eqInts_length : ∀ {xs ys : List Value} {r : Bool}, eqInts xs ys = some r → ys.length = xs.length
  | [], [], _, _ => rfl
  | [], _ :: _, _, h => by simp [eqInts] at h
  | _ :: _, [], _, h => by simp [eqInts] at h
  | x :: xs, y :: ys, r, h => by
    unfold eqInts at h
    split at h
    · rename_i h1 h2; cases h1
    · rename_i k a xs' l b ys' h1 h2
      cases h1; cases h2
      split at h
      · rename_i r' hr
        simp [eqInts_length hr]
      · cases h
    · cases h

theorem run_part_int {t : TypeId} {q : IntKind} (hu : P.underlying t = some (.int q)) (cs : Array Value) (off : Nat) (v : Value) (hv : cs[off]? = some v) (w : World) : (part t cs off).run P w = .ok v w := by
  have h1 : (isAgg t).run P w = .ok false w := by
    unfold isAgg
    rw [Sem.run_bind, Go.run_underlying hu, Result.andThen_ok]
    rfl
  simp [part, h1, hv]

theorem eqFields_ints (d : Nat) (w : World) (X Y : Array Value) : ∀ (fs : List Field) (k : Nat) (xs ys : List Value) (r : Bool), intFields P fs k = true → xs.length = fs.length → (∀ j v, xs[j]? = some v → X[k + j]? = some v) → (∀ j v, ys[j]? = some v → Y[k + j]? = some v) →
    eqInts xs ys = some r → (Op.eqFields (d + 1) X Y fs).run P w = .ok r w
  | [], k, xs, ys, r, _, hl, _, _, he => by
    have : xs = [] := List.eq_nil_of_length_eq_zero (by simpa using hl)
    subst this
    have hy : ys = [] := List.eq_nil_of_length_eq_zero (by simpa using eqInts_length he)
    subst hy
    simp [eqInts] at he
    subst he
    rfl
  | f :: fs, k, x :: xs, ys, r, hf, hl, hX, hY, he => by
    unfold intFields at hf
    simp only [Bool.and_eq_true, Bool.not_eq_true', decide_eq_false_iff_not] at hf
    obtain ⟨⟨⟨hname, hoff⟩, hint⟩, hrest⟩ := hf
    have hoff := Nat.eq_of_beq_eq_true hoff
    obtain ⟨q, hq⟩ : ∃ q, P.underlying f.type = some (.int q) := by
      split at hint
      · rename_i q hq; exact ⟨q, hq⟩
      · cases hint
    cases ys with
    | nil => simp [eqInts] at he
    | cons y ys =>
      unfold eqInts at he
      split at he
      · rename_i h1 _; cases h1
      · rename_i kx a xs1 ky b ys1 h1 h2
        cases h1; cases h2
        split at he
        · rename_i r' hr
          split at he
          · rename_i hk
            have hk : kx = ky := by simpa using hk
            subst hk
            cases he
            have h3 := run_part_int (P := P) hq X f.offset (.int kx a) (by rw [hoff]; exact hX 0 _ rfl) w
            have h4 := run_part_int (P := P) hq Y f.offset (.int kx b) (by rw [hoff]; exact hY 0 _ rfl) w
            have h5 := run_equalIn_int (P := P) w d f.type kx q a b hq
            have ih := eqFields_ints d w X Y fs (k + 1) _ _ r' hrest (by simpa using hl) (fun j v hj => by have := hX (j + 1) v (by simpa using hj); rw [← this]; congr 1; omega) (fun j v hj => by have := hY (j + 1) v (by simpa using hj); rw [← this]; congr 1; omega) hr
            unfold Op.eqFields
            rw [if_pos (by simpa using hname)]
            simp only [Sem.run_bind, h3, h4, h5, Result.andThen_ok]
            rw [← eqK_eq]
            cases hb : eqK a b with
            | true => simpa using ih
            | false => simp
          · cases he
        · cases he
      · cases he
  | f :: fs, k, [], ys, r, _, hl, _, _, _ => by simp at hl

theorem eqs_ok {t n : Nat} (h : intStruct P t n = true) : P.eqGuardType P.depth t = false ∧ ∀ (w : World) xs ys r, xs.length = n → eqInts xs ys = some r → (Op.equal t (.agg ⟨xs⟩) (.agg ⟨ys⟩)).run P w = .ok r w := by
  unfold intStruct at h
  split at h
  · rename_i fs hu
    simp only [Bool.and_eq_true, Bool.not_eq_true'] at h
    obtain ⟨⟨⟨h1, h2⟩, h3⟩, h4⟩ := h
    have h1 := Nat.eq_of_beq_eq_true h1
    refine ⟨h3, fun w xs ys r hl he => ?_⟩
    have hfs : P.fieldsOf t = fs := by unfold Program.fieldsOf; rw [hu]
    have hs := run_equalIn_struct (P := P) w 9999 t ⟨xs⟩ ⟨ys⟩ (by rw [hfs]; exact hu) h2
    rw [hfs] at hs
    have hm : Op.equal t (.agg ⟨xs⟩) (.agg ⟨ys⟩) = Op.equalIn (9999 + 1) t (.agg ⟨xs⟩) (.agg ⟨ys⟩) := rfl
    rw [hm, hs]
    exact eqFields_ints 9998 w ⟨xs⟩ ⟨ys⟩ fs.toList 0 xs ys r h4 (by rw [hl, h1]) (fun j v hj => by simpa using hj) (fun j v hj => by simpa using hj) he
  · cases h

theorem forFields_ok (em : Bool) (m : Nat) (w : World) (X : Array Value) : ∀ (fs : List Field) (k : Nat) (xs : List Value), intFields P fs k = true → xs.length = fs.length → (∀ j v, xs[j]? = some v → X[k + j]? = some v) →
    (forIn fs PUnit.unit (fun f _ => (if f.name ≠ "_" then do
        let a ← part f.type X f.offset
        Instr.checkKey em (m + 1) f.type a
        pure (ForInStep.yield PUnit.unit)
      else pure (ForInStep.yield PUnit.unit) : Sem (ForInStep PUnit)))).run P w = .ok PUnit.unit w
  | [], _, _, _, _, _ => rfl
  | f :: fs, k, [], _, hl, _ => by simp at hl
  | f :: fs, k, x :: xs, hf, hl, hX => by
    unfold intFields at hf
    simp only [Bool.and_eq_true, Bool.not_eq_true', decide_eq_false_iff_not] at hf
    obtain ⟨⟨⟨hname, hoff⟩, hint⟩, hrest⟩ := hf
    have hoff := Nat.eq_of_beq_eq_true hoff
    obtain ⟨q, hq⟩ : ∃ q, P.underlying f.type = some (.int q) := by
      split at hint
      · rename_i q hq; exact ⟨q, hq⟩
      · cases hint
    have h3 := run_part_int (P := P) hq X f.offset x (by rw [hoff]; exact hX 0 _ rfl) w
    have h4 : (Instr.checkKey em (m + 1) f.type x).run P w = .ok () w := by
      simp only [Instr.checkKey, Sem.run_bind, Go.run_underlying hq, Result.andThen_ok]
      cases x <;> rfl
    have ih := forFields_ok em m w X fs (k + 1) xs hrest (by simpa using hl) (fun j v hj => by have := hX (j + 1) v (by simpa using hj); rw [← this]; congr 1; omega)
    rw [List.forIn_cons]
    have hn : (f.name ≠ "_") := hname
    simp only [Sem.run_bind, if_pos hn, h3, h4, Result.andThen_ok, Sem.run_pure]
    exact ih

theorem keys_ok {t n : Nat} (h : intStruct P t n = true) (em : Bool) (w : World) (xs : List Value) (hl : xs.length = n) : (Instr.checkKey em 10000 t (.agg ⟨xs⟩)).run P w = .ok () w := by
  unfold intStruct at h
  split at h
  · rename_i fs hu
    simp only [Bool.and_eq_true, Bool.not_eq_true'] at h
    obtain ⟨⟨⟨h1, h2⟩, h3⟩, h4⟩ := h
    have h1 := Nat.eq_of_beq_eq_true h1
    have := forFields_ok em 9998 w ⟨xs⟩ fs.toList 0 xs h4 (by rw [hl, h1]) (fun j v hj => by simpa using hj)
    show (Instr.checkKey em (9999 + 1) t (.agg ⟨xs⟩)).run P w = .ok () w
    unfold Instr.checkKey
    rw [Sem.run_bind, Go.run_underlying hu, Result.andThen_ok]
    simp only
    rw [← Array.forIn_toList, Sem.run_bind]
    have h5 := this
    show Result.andThen (Sem.run P (forIn fs.toList PUnit.unit (fun f _ => (if f.name ≠ "_" then do
        let a ← part f.type ⟨xs⟩ f.offset
        Instr.checkKey em (9998 + 1) f.type a
        pure (ForInStep.yield PUnit.unit)
      else pure (ForInStep.yield PUnit.unit) : Sem (ForInStep PUnit)))) w) _ = _
    rw [h5]
    rfl
  · cases h

/-! structs of whole numbers and of such structs -/
def nestFields (P : Program) : List Field → Nat → Nat → Bool
  | [], k, n => Nat.beq k n
  | f :: fs, k, n => !(decide (f.name = "_")) && Nat.beq f.offset k && (match P.underlying f.type with
    | some (.int _) => nestFields P fs (Nat.succ k) n
    | some (.struct _) => (match P.info? f.type with | some i => intStruct P f.type i.size && nestFields P fs (Nat.add k i.size) n | none => false)
    | _ => false)
def nestStruct (P : Program) (t n : Nat) : Bool :=
  match P.underlying t with
  | some (.struct fs) => !(P.stoodInHeld t) && !(P.eqGuardType P.depth t) && nestFields P fs.toList 0 n
  | _ => false

theorem eqInts_split : ∀ (s : Nat) (xs ys : List Value) (r : Bool), eqInts xs ys = some r → ∃ r1 r2, eqInts (xs.take s) (ys.take s) = some r1 ∧ eqInts (xs.drop s) (ys.drop s) = some r2 ∧ r = (r1 && r2)
  | 0, xs, ys, r, h => ⟨true, r, by simp [eqInts], by simpa using h, by simp⟩
  | s + 1, [], ys, r, h => by
    have hy : ys = [] := List.eq_nil_of_length_eq_zero (by simpa using eqInts_length h)
    subst hy
    simp [eqInts] at h
    subst h
    exact ⟨true, true, by simp [eqInts], by simp [eqInts], rfl⟩
  | s + 1, x :: xs, [], r, h => by simp [eqInts] at h
  | s + 1, x :: xs, y :: ys, r, h => by
    unfold eqInts at h
    split at h
    · rename_i h1 _; cases h1
    · rename_i kx a xs1 ky b ys1 h1 h2
      cases h1; cases h2
      split at h
      · rename_i r' hr
        split at h
        · rename_i hk
          cases h
          obtain ⟨r1, r2, h3, h4, h5⟩ := eqInts_split s _ _ r' hr
          refine ⟨eqK a b && r1, r2, ?_, by simpa using h4, by rw [h5, Bool.and_assoc]⟩
          rw [List.take_succ_cons, List.take_succ_cons]
          unfold eqInts
          rw [h3]
          simp only
          rw [if_pos hk]
        · cases h
      · cases h
    · cases h

theorem eqs_at {t n : Nat} (h : intStruct P t n = true) (d : Nat) (w : World) (xs ys : List Value) (r : Bool) (hl : xs.length = n) (he : eqInts xs ys = some r) : (Op.equalIn (d + 1 + 1) t (.agg ⟨xs⟩) (.agg ⟨ys⟩)).run P w = .ok r w := by
  unfold intStruct at h
  split at h
  · rename_i fs hu
    simp only [Bool.and_eq_true, Bool.not_eq_true'] at h
    obtain ⟨⟨⟨h1, h2⟩, h3⟩, h4⟩ := h
    have h1 := Nat.eq_of_beq_eq_true h1
    have hfs : P.fieldsOf t = fs := by unfold Program.fieldsOf; rw [hu]
    have hs := run_equalIn_struct (P := P) w (d + 1) t ⟨xs⟩ ⟨ys⟩ (by rw [hfs]; exact hu) h2
    rw [hfs] at hs
    rw [hs]
    exact eqFields_ints d w ⟨xs⟩ ⟨ys⟩ fs.toList 0 xs ys r h4 (by rw [hl, h1]) (fun j v hj => by simpa using hj) (fun j v hj => by simpa using hj) he
  · cases h

theorem run_part_agg {t : TypeId} {fs : Array Field} {i : TypeInfo} (hu : P.underlying t = some (.struct fs)) (hi : P.info? t = some i) (xs : List Value) (off : Nat) (w : World) : (part t ⟨xs⟩ off).run P w = .ok (.agg ⟨(xs.drop off).take i.size⟩) w := by
  have h1 : (isAgg t).run P w = .ok true w := by
    unfold isAgg
    rw [Sem.run_bind, Go.run_underlying hu, Result.andThen_ok]
    rfl
  simp [part, h1, sizeOf, typeInfo, hi]

theorem eqFields_nest (d : Nat) (w : World) (xs ys : List Value) (hxy : ys.length = xs.length) : ∀ (fs : List Field) (k : Nat) (r : Bool), nestFields P fs k xs.length = true → eqInts (xs.drop k) (ys.drop k) = some r → (Op.eqFields (d + 1 + 1) ⟨xs⟩ ⟨ys⟩ fs).run P w = .ok r w
  | [], k, r, hf, he => by
    have hk : k = xs.length := Nat.eq_of_beq_eq_true hf
    have h1 : xs.drop k = [] := by rw [hk]; simp
    have h2 : ys.drop k = [] := by rw [hk, ← hxy]; simp
    rw [h1, h2] at he
    simp [eqInts] at he
    subst he
    rfl
  | f :: fs, k, r, hf, he => by
    unfold nestFields at hf
    simp only [Bool.and_eq_true, Bool.not_eq_true', decide_eq_false_iff_not] at hf
    obtain ⟨⟨hname, hoff⟩, hint⟩ := hf
    have hoff := Nat.eq_of_beq_eq_true hoff
    have fin : ∀ (s : Nat) (a b : Value) (r1 r2 : Bool), r = (r1 && r2) → (part f.type ⟨xs⟩ f.offset).run P w = .ok a w → (part f.type ⟨ys⟩ f.offset).run P w = .ok b w → (Op.equalIn (d + 1 + 1) f.type a b).run P w = .ok r1 w →
        (Op.eqFields (d + 1 + 1) ⟨xs⟩ ⟨ys⟩ fs).run P w = .ok r2 w → (Op.eqFields (d + 1 + 1) ⟨xs⟩ ⟨ys⟩ (f :: fs)).run P w = .ok r w := by
      intro s a b r1 r2 hr h3 h4 h5 h6
      unfold Op.eqFields
      rw [if_pos (by simpa using hname)]
      simp only [Sem.run_bind, h3, h4, h5, Result.andThen_ok]
      rw [hr]
      cases r1 with
      | true => simpa using h6
      | false => simp
    split at hint
    · rename_i q hq
      obtain ⟨r1, r2, h1, h2, h3⟩ := eqInts_split 1 _ _ r he
      rw [List.drop_drop, List.drop_drop] at h2
      have ih := eqFields_nest d w xs ys hxy fs (k + 1) r2 hint h2
      cases hx : xs.drop k with
      | nil =>
        have hl := eqInts_length he
        rw [hx] at h1 hl
        exfalso
        have hk : xs.length ≤ k := by have h7 := congrArg List.length hx; simp at h7; omega
        have hend : ∀ (gs : List Field) (m : Nat), k < m → nestFields P gs m xs.length = true → False := by
          intro gs
          induction gs with
          | nil =>
            intro m hm hg
            have := Nat.eq_of_beq_eq_true hg
            omega
          | cons g gs ih =>
            intro m hm hg
            unfold nestFields at hg
            simp only [Bool.and_eq_true] at hg
            have h7 := hg.2
            split at h7
            · exact ih _ (by simp only [Nat.succ_eq_add_one]; omega) h7
            · split at h7
              · simp only [Bool.and_eq_true] at h7
                exact ih _ (Nat.lt_of_lt_of_le hm (Nat.le_add_right _ _)) h7.2
              · cases h7
            · cases h7
        exact hend fs (k + 1) (by omega) hint
      | cons x xr =>
        cases hy : ys.drop k with
        | nil => have hl := eqInts_length he; rw [hx, hy] at hl; simp at hl
        | cons y yr =>
          rw [hx, hy] at h1
          simp only [List.take_succ_cons, List.take_zero] at h1
          have gx : (⟨xs⟩ : Array Value)[f.offset]? = some x := by
            rw [hoff]
            have : (xs.drop k)[0]? = some x := by rw [hx]; rfl
            simpa using this
          have gy : (⟨ys⟩ : Array Value)[f.offset]? = some y := by
            rw [hoff]
            have : (ys.drop k)[0]? = some y := by rw [hy]; rfl
            simpa using this
          unfold eqInts at h1
          split at h1
          · rename_i h8 _; cases h8
          · rename_i kx a xs1 ky b ys1 h8 h9
            cases h8; cases h9
            simp only [eqInts] at h1
            split at h1
            · rename_i hk
              have hk : kx = ky := by simpa using hk
              subst hk
              cases h1
              have h5 := run_equalIn_int (P := P) w (d + 1) f.type kx q a b hq
              rw [← eqK_eq] at h5
              exact fin 1 _ _ _ r2 (by rw [h3]; simp) (run_part_int hq _ _ _ gx w) (run_part_int hq _ _ _ gy w) h5 ih
            · cases h1
          · cases h1
    · rename_i gs hq
      split at hint
      · rename_i i hi
        simp only [Bool.and_eq_true] at hint
        obtain ⟨r1, r2, h1, h2, h3⟩ := eqInts_split i.size _ _ r he
        rw [List.drop_drop, List.drop_drop] at h2
        have ih := eqFields_nest d w xs ys hxy fs (k + i.size) r2 hint.2 h2
        have hlen : ((xs.drop k).take i.size).length = i.size := by
          rw [List.length_take, List.length_drop]
          -- what follows ends at the struct's end
          have hend : ∀ (gs : List Field) (m : Nat), nestFields P gs m xs.length = true → m ≤ xs.length := by
            intro gs
            induction gs with
            | nil =>
              intro m hg
              have := Nat.eq_of_beq_eq_true hg
              omega
            | cons g gs ih =>
              intro m hg
              unfold nestFields at hg
              simp only [Bool.and_eq_true] at hg
              have h7 := hg.2
              split at h7
              · have := ih _ h7; simp only [Nat.succ_eq_add_one] at this; omega
              · split at h7
                · simp only [Bool.and_eq_true] at h7
                  exact Nat.le_trans (Nat.le_add_right _ _) (ih _ h7.2)
                · cases h7
              · cases h7
          have h8 : k + i.size ≤ xs.length := hend fs _ hint.2
          omega
        have h5 := eqs_at hint.1 d w _ _ r1 hlen h1
        have px := run_part_agg hq hi xs f.offset w
        have py := run_part_agg hq hi ys f.offset w
        rw [hoff] at px py
        exact fin i.size _ _ r1 r2 h3 (by rw [hoff]; exact px) (by rw [hoff]; exact py) h5 ih
      · cases hint
    · cases hint

theorem nest_ok {t n : Nat} (h : nestStruct P t n = true) : P.eqGuardType P.depth t = false ∧ ∀ (w : World) xs ys r, xs.length = n → eqInts xs ys = some r → (Op.equal t (.agg ⟨xs⟩) (.agg ⟨ys⟩)).run P w = .ok r w := by
  unfold nestStruct at h
  split at h
  · rename_i fs hu
    simp only [Bool.and_eq_true, Bool.not_eq_true'] at h
    obtain ⟨⟨h2, h3⟩, h4⟩ := h
    refine ⟨h3, fun w xs ys r hl he => ?_⟩
    have hfs : P.fieldsOf t = fs := by unfold Program.fieldsOf; rw [hu]
    have hs := run_equalIn_struct (P := P) w 9999 t ⟨xs⟩ ⟨ys⟩ (by rw [hfs]; exact hu) h2
    rw [hfs] at hs
    have hm : Op.equal t (.agg ⟨xs⟩) (.agg ⟨ys⟩) = Op.equalIn (9999 + 1) t (.agg ⟨xs⟩) (.agg ⟨ys⟩) := rfl
    rw [hm, hs]
    exact eqFields_nest 9997 w xs ys (eqInts_length he) fs.toList 0 r (by rw [hl]; exact h4) (by simpa using he)
  · cases h

/-- so many bytes lie in a row of bytes -/
theorem lies_bytes {e : TypeId} (hc : P.cellsOf e = 1) (count off n : Nat) (h : off + n ≤ count) : liesAt P P.depth e count off e n = true := by
  have hd : P.depth = (2 * (P.types.size + Made.depth) + 1) + 1 := rfl
  rw [hd]
  simp only [liesAt, Bool.or_eq_true]
  left
  rw [hd]
  simp [rowAt, hc, h, sameLayout, Nat.mod_one]

/-- sizes of elements -/
def esOf (P : Program) (t : TypeId) : Nat := match P.info? t with | some i => i.size | none => 0
theorem esOf_ok : ∀ t i, P.info? t = some i → esOf P t = i.size := fun t i h => by unfold esOf; rw [h]

def typesOk (P : Program) : List Nat → Bool
  | [] => true
  | t :: r => (P.underlying t).isSome && typesOk P r
theorem typesOk_spec : ∀ (l : List Nat), typesOk P l = true → ∀ t ∈ l, ∃ d, P.underlying t = some d
  | [], _, t, ht => by cases ht
  | a :: l, h, t, ht => by
    unfold typesOk at h
    simp only [Bool.and_eq_true] at h
    rcases List.mem_cons.1 ht with rfl | ht
    · exact Option.isSome_iff_exists.1 h.1
    · exact typesOk_spec l h.2 t ht

/-- the tables are the program's -/
theorem tab_ok {B : Tab} (hty : T.list B.ty 1024 0 = (List.range 1024).map (rowOf P)) (hfn : T.list B.fn 1024 0 = (List.range 1024).map fun f => P.funcs[f]?)
    (hnm : (P.funcs.toList.all fun fn => !(fn.name == "runtime.NumGoroutine")) = true) (hnt : typesOk P (List.range B.nt) = true) (heq : ∀ t, 0 < B.eqs t → (intStruct P t (B.eqs t) || nestStruct P t (B.eqs t)) = true) (heq2 : ∀ t, B.eqs t = 2 → intStruct P t 2 = true)
    (hself : ∀ t, B.self t = true → (match rowOf P t with | .row _ n _ _ => Nat.blt 0 n && liesAt P P.depth t (n / P.cellsOf t) 0 t 1 | .none => true) = true) (hc1 : P.cellsOf B.u8 = 1) : TabOk B P := by
  have ty : ∀ t, t < 1024 → B.ty.get t = rowOf P t := by
    intro t ht
    have h1 := congrArg (fun l => l[t]?) hty
    simp only [T.getElem?_list, if_pos ht, Nat.zero_add, List.getElem?_map, List.getElem?_range ht, Option.map_some] at h1
    exact Option.some.inj h1
  have fn : ∀ f, f < 1024 → B.fn.get f = P.funcs[f]? := by
    intro f hf
    have h1 := congrArg (fun l => l[f]?) hfn
    simp only [T.getElem?_list, if_pos hf, Nat.zero_add, List.getElem?_map, List.getElem?_range hf, Option.map_some] at h1
    exact Option.some.inj h1
  have spec : ∀ {t d n z sub}, t < 1024 → B.ty.get t = .row d n z sub → P.underlying t = some d ∧ subOf P d = some sub ∧ ∃ i, P.info? t = some i ∧ i.size = n ∧ i.zero = z ∧ zeroOk i = true ∧ i.bytes ≤ 1000000 ∧ byteOk d n = true :=
    fun ht h => rowOf_spec ((ty _ ht).symm.trans h)
  refine ⟨fun t d n z sub ht h => ?_, fun t fs n z sub ht h => ?_, fun t el n z sub ht h => ?_, fun t m el n z sub ht h => ?_, fun f fnc hf h => ?_, fun t d n z sub ht h i hi => ?_, fun t ht => typesOk_spec _ hnt t (List.mem_range.2 ht), fun t ht => ?_, fun t ht em w xs hl _ => keys_ok (heq2 t ht) em w xs (by rw [hl, ht]), fun t d n z sub hs ht h => ?_, fun t n z sub ht h => ?_, hc1, fun count off n h => lies_bytes hc1 count off n h⟩
  · obtain ⟨h1, _, i, h2, h3, h4, h5, _⟩ := spec ht h
    refine ⟨h1, i, h2, h3, h4, fun v hv => ?_⟩
    unfold zeroOk at h5
    rw [h4, hv] at h5
    simp only [Bool.and_eq_true] at h5
    exact ⟨h5.1, (Nat.eq_of_beq_eq_true h5.2).trans h3⟩
  · obtain ⟨_, h2, _⟩ := spec ht h
    have := fieldsOf_spec fs.toList sub h2
    exact ⟨by simpa using this.1, fun k f hk => this.2 k f (by rw [Array.getElem?_toList]; exact hk)⟩
  · obtain ⟨_, h2, _⟩ := spec ht h
    unfold subOf at h2
    simp only at h2
    split at h2
    · rename_i i hi; exact ⟨i, hi, (Option.some.inj h2).symm⟩
    · cases h2
  · obtain ⟨_, h2, _⟩ := spec ht h
    unfold subOf at h2
    simp only at h2
    split at h2
    · rename_i i hi; exact ⟨i, hi, (Option.some.inj h2).symm⟩
    · cases h2
  · rw [fn f hf] at h
    refine ⟨h, ?_⟩
    rw [List.all_eq_true] at hnm
    have hm : fnc ∈ P.funcs.toList := List.mem_of_getElem? (by rw [Array.getElem?_toList]; exact h)
    simpa using hnm fnc hm
  · obtain ⟨_, _, i', h2, _, _, _, h6, _⟩ := spec ht h
    rw [hi] at h2
    cases h2
    exact h6
  · have h1 := heq t ht
    rw [Bool.or_eq_true] at h1
    rcases h1 with h1 | h1
    · exact eqs_ok h1
    · exact nest_ok h1
  · have h1 := hself t hs
    rw [← ty t ht, h] at h1
    simp only [Bool.and_eq_true, Nat.blt_eq] at h1
    exact h1
  · obtain ⟨_, _, i, _, h3, _, _, _, h7⟩ := spec ht h
    exact Nat.eq_of_beq_eq_true h7
end Go.Ev
