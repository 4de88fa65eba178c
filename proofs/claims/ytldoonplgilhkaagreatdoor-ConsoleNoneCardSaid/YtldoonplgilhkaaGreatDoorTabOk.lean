/-
THE TABLES are the program's: by the kernel. No condition.
-/
import Derived.Test.YtldoonplgilhkaaGreatDoorTab
set_option maxRecDepth 100000
namespace Go.Proofs
open Go.Ev
theorem Tryz.tyOk : T.list Tryz.tyT 1024 0 = (List.range 1024).map (rowOf Tryz.prog) := by kernel_rfl
theorem Tryz.fnOk : T.list Tryz.fnT 1024 0 = (List.range 1024).map fun f => Tryz.prog.funcs[f]? := by kernel_rfl
theorem Tryz.nmOk : (Tryz.prog.funcs.toList.all fun fn => !(fn.name == "runtime.NumGoroutine")) = true := by kernel_rfl
theorem Tryz.ntOk : typesOk Tryz.prog (List.range 672) = true := by kernel_rfl
def Tryz.eqsF (t : Nat) : Nat := if Nat.beq t 181 then 2 else if Nat.beq t 183 then 6 else 0
theorem Tryz.eq181 : intStruct Tryz.prog 181 2 = true := by kernel_rfl
theorem Tryz.eq183 : nestStruct Tryz.prog 183 6 = true := by kernel_rfl
theorem Tryz.self176 : (match rowOf Tryz.prog 176 with | .row _ n _ _ => Nat.blt 0 n && Go.liesAt Tryz.prog Tryz.prog.depth 176 (n / Tryz.prog.cellsOf 176) 0 176 1 | .none => true) = true := by kernel_rfl
theorem Tryz.c1 : Tryz.prog.cellsOf 5 = 1 := by kernel_rfl
def Tryz.extF (f : Nat) : Nat := if Nat.beq f 249 then 1 else if Nat.beq f 145 then 2 else if Nat.beq f 253 then 3 else if Nat.beq f 304 then 4 else if Nat.beq f 215 then 5 else 0
noncomputable def Tryz.tab (memo : Nat → Option Go.Value) (iso : Nat → Bool) (orac : Nat → Nat → Option Entry) : Tab := { ty := Tryz.tyT, fn := Tryz.fnT, memo := memo, iso := iso, eqs := Tryz.eqsF, self := fun t => Nat.beq t 176, u8 := 5, nt := 672, ext := Tryz.extF, orac := orac }
theorem Tryz.tabOk (memo : Nat → Option Go.Value) (iso : Nat → Bool) (orac : Nat → Nat → Option Entry) : TabOk (Tryz.tab memo iso orac) Tryz.prog := by
  refine tab_ok Tryz.tyOk Tryz.fnOk Tryz.nmOk Tryz.ntOk (fun t ht => ?_) (fun t ht => ?_) (fun t ht => ?_) Tryz.c1
  · have ht : 0 < Tryz.eqsF t := ht
    show (intStruct Tryz.prog t (Tryz.eqsF t) || nestStruct Tryz.prog t (Tryz.eqsF t)) = true
    unfold Tryz.eqsF at ht ⊢
    split at ht
    · rename_i h; rw [if_pos h, Nat.eq_of_beq_eq_true h, Tryz.eq181]; rfl
    · rename_i h1
      split at ht
      · rename_i h; rw [if_neg h1, if_pos h, Nat.eq_of_beq_eq_true h, Tryz.eq183, Bool.or_true]
      · omega
  · have ht : Tryz.eqsF t = 2 := ht
    unfold Tryz.eqsF at ht
    split at ht
    · rename_i h; rw [Nat.eq_of_beq_eq_true h]; exact Tryz.eq181
    · split at ht <;> omega
  · have ht : Nat.beq t 176 = true := ht
    rw [Nat.eq_of_beq_eq_true ht]
    exact Tryz.self176
theorem Tryz.mixed : Tryz.prog.follows .mixedOrders = true := by kernel_rfl
end Go.Proofs
