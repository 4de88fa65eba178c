/-
AN EVALUATOR over the model's own code, with an abstract memory: the definitions. No condition.
-/
import GoSem.Dispatch
import GoSem.Machine.Frame
namespace Go.Ev
noncomputable section
open Go
inductive T (α : Type) where
  | leaf (v : α)
  | node (l r : T α)
/-! trees: kernel's make -/
def T.get {α : Type} (t : T α) : Nat → α :=
  T.rec (motive := fun _ => Nat → α) (fun v _ => v)
    (fun _ _ gl gr k => Nat.rec (motive := fun _ => (Nat → α) → (Nat → α) → Nat → α) (fun x _ h => x h) (fun _ _ _ y h => y h) (Nat.mod k 2) gl gr (Nat.div k 2)) t
def T.set {α : Type} (v : α) (t : T α) : Nat → T α :=
  T.rec (motive := fun _ => Nat → T α) (fun _ _ => .leaf v)
    (fun l r gl gr k => Nat.rec (motive := fun _ => T α → T α → (Nat → T α) → (Nat → T α) → Nat → T α) (fun _ r x _ h => .node (x h) r) (fun _ _ l _ _ y h => .node l (y h)) (Nat.mod k 2) l r gl gr (Nat.div k 2)) t
def T.const {α : Type} (v : α) (d : Nat) : T α := Nat.rec (motive := fun _ => T α) (.leaf v) (fun _ t => .node t t) d
def T.putList {α : Type} (vs : List α) : T α → Nat → T α :=
  List.rec (motive := fun _ => T α → Nat → T α) (fun t _ => t) (fun v _ ih t k => ih (T.set v t k) (Nat.succ k)) vs
def T.list {α : Type} (t : T α) (n : Nat) : Nat → List α :=
  Nat.rec (motive := fun _ => Nat → List α) (fun _ => []) (fun _ ih k => t.get k :: ih (Nat.succ k)) n

/-! choices by constructor -/
@[simp] def selOp {γ : Type} (t : Go.Op) (m_move : (Go.Operand) → γ) (m_assign : (Go.Operand) → γ) (m_pick : (Go.Operand) → (Go.Operand) → (Go.Operand) → γ) (m_alloc : (Go.TypeId) → γ) (m_box : (Go.TypeId) → (Go.Operand) → γ) (m_build : (Go.TypeId) → (Array (Nat × Go.Operand)) → γ) (m_buildSlice : (Go.TypeId) → (Nat) → (Array (Nat × Go.Operand)) → γ) (m_insert : (Go.TypeId) → (Go.Operand) → (Go.Operand) → (Go.Operand) → γ) (m_load : (Go.TypeId) → (Go.Operand) → γ) (m_store : (Go.TypeId) → (Go.Operand) → (Go.Operand) → γ) (m_ready : (Nat) → γ) (m_waits : (Nat) → γ) (m_nilCheck : (Go.Operand) → γ) (m_binOp : (Go.BinOp) → (Go.TypeId) → (Go.Operand) → (Go.Operand) → (Go.TypeId) → γ) (m_unOp : (Go.UnOp) → (Go.TypeId) → (Go.Operand) → γ) (m_convert : (Go.TypeId) → (Go.TypeId) → (Go.Operand) → γ) (m_sliceToArrayPointer : (Go.TypeId) → (Go.Operand) → γ) (m_makeInterface : (Go.TypeId) → (Go.Operand) → γ) (m_makeFunc : (Go.Fn) → (Array Go.Operand) → (Array Go.Operand) → γ) (m_makeMap : (Go.TypeId) → (Option Go.Operand) → γ) (m_makeChan : (Go.TypeId) → (Go.Operand) → γ) (m_makeSlice : (Go.TypeId) → (Go.Operand) → (Go.Operand) → γ) (m_slice : (Go.TypeId) → (Go.Operand) → (Option Go.Operand) → (Option Go.Operand) → (Option Go.Operand) → γ) (m_fieldAddr : (Go.TypeId) → (Go.Operand) → (Nat) → γ) (m_field : (Go.TypeId) → (Go.Operand) → (Nat) → γ) (m_indexAddr : (Go.TypeId) → (Go.Operand) → (Go.Operand) → γ) (m_index : (Go.TypeId) → (Go.Operand) → (Go.Operand) → γ) (m_lookup : (Go.TypeId) → (Go.Operand) → (Go.Operand) → (Bool) → γ) (m_mapUpdate : (Go.TypeId) → (Go.Operand) → (Go.Operand) → (Go.Operand) → γ) (m_mapEntry : (Go.TypeId) → (Go.Operand) → (Go.Operand) → γ) (m_entryStore : (Go.TypeId) → (Go.Operand) → (Go.Operand) → (Go.Operand) → γ) (m_range : (Go.TypeId) → (Go.Operand) → γ) (m_next : (Go.Operand) → (Bool) → γ) (m_entry : (Go.Operand) → γ) (m_typeAssert : (Go.Operand) → (Go.TypeId) → (Go.TypeId) → (Bool) → γ) (m_extract : (Go.Operand) → (Nat) → γ) (m_call : (Go.Call) → γ) (m_go : (Go.Call) → γ) (m_defer : (Go.Call) → γ) (m_panic : (Go.Operand) → γ) (m_send : (Go.Operand) → (Go.Operand) → γ) (m_recv : (Go.TypeId) → (Go.Operand) → (Bool) → γ) (m_select : (Array Go.SelectCase) → (Bool) → γ) : γ := @Go.Op.rec (fun _ => γ) m_move m_assign m_pick m_alloc m_box m_build m_buildSlice m_insert m_load m_store m_ready m_waits m_nilCheck m_binOp m_unOp m_convert m_sliceToArrayPointer m_makeInterface m_makeFunc m_makeMap m_makeChan m_makeSlice m_slice m_fieldAddr m_field m_indexAddr m_index m_lookup m_mapUpdate m_mapEntry m_entryStore m_range m_next m_entry m_typeAssert m_extract m_call m_go m_defer m_panic m_send m_recv m_select t
@[simp] def selCode {γ : Type} (t : Go.Code) (m_skip : γ) (m_region : (Nat) → (Array Go.Oper) → (Bool) → γ) (m_seq : (Go.Code) → (Go.Code) → γ) (m_cond : (Go.Operand) → (Go.Code) → (Go.Code) → γ) (m_block : (Nat) → (Go.Code) → γ) (m_loop : (Go.Code) → γ) (m_rangeFunc : (Go.Operand) → (Array Go.Tmp) → (Go.Code) → (Go.Code) → γ) (m_exit : (Nat) → γ) (m_scope : (Go.Code) → γ) (m_label : (Nat) → γ) (m_goto : (Nat) → γ) (m_ret : γ) (m_refuse : (String) → γ) : γ := @Go.Code.rec (fun _ => γ) m_skip m_region (fun a b _ _ => m_seq a b) (fun c x y _ _ => m_cond c x y) (fun id x _ => m_block id x) (fun x _ => m_loop x) (fun f ps s b _ _ => m_rangeFunc f ps s b) m_exit (fun x _ => m_scope x) m_label m_goto m_ret m_refuse t
@[simp] def selBuiltin {γ : Type} (t : Go.Builtin) (m_append : γ) (m_cap : γ) (m_clear : γ) (m_close : γ) (m_complex : γ) (m_copy : γ) (m_delete : γ) (m_imag : γ) (m_len : γ) (m_make : γ) (m_max : γ) (m_min : γ) (m_new : γ) (m_panic : γ) (m_print : γ) (m_println : γ) (m_real : γ) (m_recover : γ) (m_unsafeAdd : γ) (m_unsafeSlice : γ) (m_unsafeSliceData : γ) (m_unsafeString : γ) (m_unsafeStringData : γ) (m_unsafeSizeof : γ) (m_unsafeAlignof : γ) (m_unsafeOffsetof : γ) : γ := @Go.Builtin.rec (fun _ => γ) m_append m_cap m_clear m_close m_complex m_copy m_delete m_imag m_len m_make m_max m_min m_new m_panic m_print m_println m_real m_recover m_unsafeAdd m_unsafeSlice m_unsafeSliceData m_unsafeString m_unsafeStringData m_unsafeSizeof m_unsafeAlignof m_unsafeOffsetof t
@[simp] def selBinOp {γ : Type} (t : Go.BinOp) (m_add : γ) (m_sub : γ) (m_mul : γ) (m_quo : γ) (m_rem : γ) (m_and : γ) (m_or : γ) (m_xor : γ) (m_shl : γ) (m_shr : γ) (m_andNot : γ) (m_eql : γ) (m_neq : γ) (m_lss : γ) (m_leq : γ) (m_gtr : γ) (m_geq : γ) : γ := @Go.BinOp.rec (fun _ => γ) m_add m_sub m_mul m_quo m_rem m_and m_or m_xor m_shl m_shr m_andNot m_eql m_neq m_lss m_leq m_gtr m_geq t
@[simp] def selDesc {γ : Type} (t : Go.TypeDesc) (m_invalid : γ) (m_bool : γ) (m_int : (Go.IntKind) → γ) (m_float : (Go.FloatKind) → γ) (m_complex : (Go.FloatKind) → γ) (m_string : γ) (m_unsafePointer : γ) (m_pointer : (Go.TypeId) → γ) (m_slice : (Go.TypeId) → γ) (m_array : (Nat) → (Go.TypeId) → γ) (m_map : (Go.TypeId) → (Go.TypeId) → γ) (m_chan : (Go.ChanDir) → (Go.TypeId) → γ) (m_struct : (Array Go.Field) → γ) (m_func : (Array Go.TypeId) → (Array Go.TypeId) → (Bool) → γ) (m_interface : (Array (String × Go.TypeId)) → γ) (m_tuple : (Array Go.TypeId) → γ) (m_named : (String) → (Go.TypeId) → γ) : γ := @Go.TypeDesc.rec (fun _ => γ) m_invalid m_bool m_int m_float m_complex m_string m_unsafePointer m_pointer m_slice m_array m_map m_chan m_struct m_func m_interface m_tuple m_named t
@[simp] def selValue {γ : Type} (t : Go.Value) (m_bool : (Bool) → γ) (m_int : (Go.IntKind) → (Int) → γ) (m_float : (Go.FloatKind) → (Nat) → γ) (m_complex : (Go.FloatKind) → (Nat) → (Nat) → γ) (m_string : (ByteArray) → γ) (m_pointer : (Option Go.Addr) → γ) (m_slice : (Option Go.Addr) → (Nat) → (Nat) → γ) (m_map : (Option Nat) → γ) (m_chan : (Option Nat) → γ) (m_func : (Go.Fn) → (Array Go.Value) → (Array Go.Value) → γ) (m_nilFunc : γ) (m_iface : (Go.TypeId) → (Go.Value) → γ) (m_nilIface : γ) (m_agg : (Array Go.Value) → γ) (m_tuple : (Array Go.Value) → γ) : γ := @Go.Value.rec (fun _ => γ) (fun _ => PUnit) (fun _ => PUnit) m_bool m_int m_float m_complex m_string m_pointer m_slice m_map m_chan (fun f a c _ _ => m_func f a c) m_nilFunc (fun t v _ => m_iface t v) m_nilIface (fun c _ => m_agg c) (fun c _ => m_tuple c) (fun _ _ => ⟨⟩) ⟨⟩ (fun _ _ _ _ => ⟨⟩) t
@[simp] def selOperand {γ : Type} (t : Go.Operand) (m_tmp : (Go.Tmp) → γ) (m_const : (Go.Value) → γ) (m_global : (Nat) → γ) (m_func : (Go.FuncId) → γ) : γ := @Go.Operand.rec (fun _ => γ) m_tmp m_const m_global m_func t
def kindNo (k : IntKind) : Nat := @IntKind.rec (fun _ => Nat) 0 1 2 3 4 5 6 7 k
def leafB {α : Type} (f : α → Bool) (u : T α) : Bool := T.rec (motive := fun _ => Bool) (fun w => f w) (fun _ _ _ _ => false) u
def nodeB {α : Type} (f g : T α → Bool) (u : T α) : Bool := T.rec (motive := fun _ => (T α → Bool) → (T α → Bool) → Bool) (fun _ _ _ => false) (fun c d _ _ f g => Bool.and (f c) (g d)) u f g
def beqTG {α : Type} (f : α → α → Bool) (t : T α) : T α → Bool := T.rec (motive := fun _ => T α → Bool) (fun v u => leafB (f v) u) (fun _ _ gl gr u => nodeB gl gr u) t

/-! whole numbers -/
def full : IntKind → Nat
  | .i8 => 256 | .u8 => 256 | .i16 => 65536 | .u16 => 65536 | .i32 => 4294967296 | .u32 => 4294967296 | .i64 => 18446744073709551616 | .u64 => 18446744073709551616
def half : IntKind → Nat
  | .i8 => 128 | .u8 => 256 | .i16 => 32768 | .u16 => 65536 | .i32 => 2147483648 | .u32 => 4294967296 | .i64 => 9223372036854775808 | .u64 => 18446744073709551616
/-- a number from 0 to below `full`, as one of the kind -/
def down (f h m : Nat) : Int := Bool.rec (Int.negSucc (Nat.sub (Nat.sub f m) 1)) (Int.ofNat m) (Nat.blt m h)
def wrapK (k : IntKind) (n : Int) : Int :=
  Int.casesOn n (fun a => down (full k) (half k) (Nat.mod a (full k))) (fun a => down (full k) (half k) (Nat.sub (Nat.sub (full k) 1) (Nat.mod a (full k))))
def ltK (x y : Int) : Bool :=
  Int.casesOn x (fun a => Int.casesOn y (fun b => Nat.blt a b) (fun _ => false)) (fun a => Int.casesOn y (fun _ => true) (fun b => Nat.blt b a))
def leK (x y : Int) : Bool :=
  Int.casesOn x (fun a => Int.casesOn y (fun b => Nat.ble a b) (fun _ => false)) (fun a => Int.casesOn y (fun _ => true) (fun b => Nat.ble b a))
def eqK (x y : Int) : Bool :=
  Int.casesOn x (fun a => Int.casesOn y (fun b => Nat.beq a b) (fun _ => false)) (fun a => Int.casesOn y (fun _ => false) (fun b => Nat.beq a b))
def bitK (k : IntKind) (f : Nat → Nat → Nat) (x y : Int) : Option Value :=
  Int.casesOn x (fun a => Int.casesOn y (fun b => Bool.rec none (Bool.rec none (some (.int k (Int.ofNat (f a b)))) (Nat.blt b (half k))) (Nat.blt a (half k))) (fun _ => none)) (fun _ => none)
def bare (a b : Nat) : Nat := Nat.xor a (Nat.land a b)
/-- bits of numbers below zero: as the model has them -/
def bitS (k : IntKind) (op : BinOp) (x y : Int) : Option Value :=
  match op with
  | .and => some (.int k (k.wrap (BitVec.ofInt k.bits x &&& BitVec.ofInt k.bits y).toNat))
  | .or => some (.int k (k.wrap (BitVec.ofInt k.bits x ||| BitVec.ofInt k.bits y).toNat))
  | .xor => some (.int k (k.wrap (BitVec.ofInt k.bits x ^^^ BitVec.ofInt k.bits y).toNat))
  | .andNot => some (.int k (k.wrap (BitVec.ofInt k.bits x &&& ~~~(BitVec.ofInt k.bits y)).toNat))
  | _ => none
def orElseO (a b : Option Value) : Option Value := Option.casesOn a b some
def addK (x y : Int) : Int := Int.casesOn x (fun a => Int.casesOn y (fun b => Int.ofNat (Nat.add a b)) (fun b => Int.add (Int.ofNat a) (Int.negSucc b))) (fun a => Int.add (Int.negSucc a) y)
def subK (x y : Int) : Int := Int.casesOn x (fun a => Int.casesOn y (fun b => Bool.rec (Int.sub (Int.ofNat a) (Int.ofNat b)) (Int.ofNat (Nat.sub a b)) (Nat.ble b a)) (fun b => Int.sub (Int.ofNat a) (Int.negSucc b))) (fun a => Int.sub (Int.negSucc a) y)
def mulK (x y : Int) : Int := Int.mul x y
def negK (y : Int) : Int := Int.neg y
def divN (k : IntKind) (x y : Int) : Option Value :=
  Int.casesOn x (fun a => Int.casesOn y (fun b => Bool.rec (some (.int k (wrapK k (Int.ofNat (Nat.div a b))))) none (Nat.beq b 0)) (fun _ => none)) (fun _ => none)
def modN (k : IntKind) (x y : Int) : Option Value :=
  Int.casesOn x (fun a => Int.casesOn y (fun b => Bool.rec (some (.int k (Int.ofNat (Nat.mod a b)))) none (Nat.beq b 0)) (fun _ => none)) (fun _ => none)
def bitsOf : IntKind → Nat
  | .i8 => 8 | .u8 => 8 | .i16 => 16 | .u16 => 16 | .i32 => 32 | .u32 => 32 | .i64 => 64 | .u64 => 64
def minN (a b : Nat) : Nat := Bool.rec b a (Nat.ble a b)
def shlN (k : IntKind) (x y : Int) : Option Value :=
  Int.casesOn x (fun a => Int.casesOn y (fun b => some (.int k (wrapK k (Int.ofNat (Nat.shiftLeft a (minN b (bitsOf k))))))) (fun _ => none)) (fun _ => none)
def shrN (k : IntKind) (x y : Int) : Option Value :=
  Int.casesOn x (fun a => Int.casesOn y (fun b => some (.int k (Int.ofNat (Nat.shiftRight a (minN b (bitsOf k)))))) (fun _ => none)) (fun _ => none)
def binI (op : BinOp) : IntKind → Int → Int → Option Value :=
  selBinOp (γ := IntKind → Int → Int → Option Value) op (fun k x y => some (.int k (wrapK k (addK x y)))) (fun k x y => some (.int k (wrapK k (subK x y)))) (fun k x y => some (.int k (wrapK k (Int.mul x y))))
    (fun k x y => divN k x y) (fun k x y => modN k x y)
    (fun k x y => orElseO (bitK k Nat.land x y) (bitS k .and x y)) (fun k x y => orElseO (bitK k Nat.lor x y) (bitS k .or x y)) (fun k x y => orElseO (bitK k Nat.xor x y) (bitS k .xor x y))
    (fun k x y => shlN k x y) (fun k x y => shrN k x y)
    (fun k x y => orElseO (bitK k bare x y) (bitS k .andNot x y))
    (fun _ x y => some (.bool (eqK x y))) (fun _ x y => some (.bool (Bool.not (eqK x y)))) (fun _ x y => some (.bool (ltK x y))) (fun _ x y => some (.bool (leK x y))) (fun _ x y => some (.bool (ltK y x))) (fun _ x y => some (.bool (leK y x)))

/-! results with demonic choice; the kernel's run is in continuation passing -/
inductive Res (α : Type) where
  | fail (why : String)
  | ret (a : α)
  | ask (n : Nat) (k : Nat → Res α)

inductive AObj where
  | dead
  | cells (t : T Value) (d n : Nat) (elem : TypeId) (lo hi : Nat) (sl : Bool)
  | map (es : List MapEntry) (clock : Nat)
  | str (s : ByteArray) (pos : Nat)
  | iter (m : Option Nat) (since : Nat) (seen : List Nat) (last : Nat)
  | loop (st : LoopState) (pending : Option Code) (n : Nat) (env : T Value) (params : List Tmp) (assign body : Code) (defers : Nat)
  | defers (ds : Option (List Deferred))

/-- what a call is known to do: its arguments, the objects that it looks at, its value, the objects that it turns or lays, and the next number -/
structure Entry where
  args : List Value
  pre : List (Nat × AObj)
  v : Value
  post : List (Nat × AObj)
  nx : Nat

structure Out where
  v : Value
  h : T AObj
  nx : Nat

abbrev R := Res Out

inductive TRow where
  | none
  | row (d : TypeDesc) (size : Nat) (zero : Option Value) (sub : List (Nat × Nat))

structure Tab where
  ty : T TRow
  fn : T (Option Func)
  memo : FuncId → Option Value
  iso : FuncId → Bool
  eqs : TypeId → Nat
  self : TypeId → Bool
  u8 : TypeId
  nt : Nat
  ext : FuncId → Nat
  orac : FuncId → Nat → Option Entry

/-- what stays in an activation -/
structure Act0 where
  n : Nat
  round : Option Nat
  ded : Bool
  lo : Nat

abbrev KV := Value → T AObj → Nat → R
abbrev KF := T Value → List Deferred → T AObj → Nat → R

inductive AExit where
  | normal | ret | exit (id : Nat)
abbrev KE := AExit → T Value → List Deferred → T AObj → Nat → R

def failR (s : String) : R := .fail s

/-! forcing -/
def forceN (n : Nat) (k : Nat → R) : R := Nat.casesOn n (k 0) (fun m => k (Nat.succ m))
def forceI (i : Int) (k : Int → R) : R := Int.casesOn i (fun n => forceN n fun n => k (Int.ofNat n)) (fun n => forceN n fun n => k (Int.negSucc n))
def forceB (b : Bool) (k : Bool → R) : R := Bool.casesOn b (k false) (k true)
/-- a value's number or truth laid plain -/
def forceV (v : Value) : (Value → R) → R := selValue (γ := (Value → R) → R) v (fun (b : Bool) (k : Value → R) => forceB b fun b => k (Value.bool b)) (fun (q : IntKind) (i : Int) (k : Value → R) => forceI i fun i => k (Value.int q i)) (fun (q : FloatKind) (i : Nat) (k : Value → R) => k (Value.float q i)) (fun (q : FloatKind) (i j : Nat) (k : Value → R) => k (Value.complex q i j)) (fun (s : ByteArray) (k : Value → R) => k (Value.string s)) (fun (a : Option Addr) (k : Value → R) => k (Value.pointer a)) (fun (a : Option Addr) (l c : Nat) (k : Value → R) => k (Value.slice a l c)) (fun (r : Option Nat) (k : Value → R) => k (Value.map r)) (fun (r : Option Nat) (k : Value → R) => k (Value.chan r)) (fun (f : Fn) (x y : Array Value) (k : Value → R) => k (Value.func f x y)) (fun  (k : Value → R) => k (Value.nilFunc )) (fun (t : TypeId) (u : Value) (k : Value → R) => k (Value.iface t u)) (fun  (k : Value → R) => k (Value.nilIface )) (fun (cs : Array Value) (k : Value → R) => k (Value.agg cs)) (fun (vs : Array Value) (k : Value → R) => k (Value.tuple vs))

def iteR (b : Bool) (x y : R) : R := Bool.rec y x b
def onO {α : Type} (o : Option α) (w : String) (k : α → R) : R := Option.casesOn o (failR w) k

def onTy (B : Tab) (t : TypeId) (k : R) : R := iteR (Nat.blt t B.nt) k (failR "type")
def onRow (B : Tab) (t : TypeId) (k : TypeDesc → Nat → Option Value → List (Nat × Nat) → R) : R :=
  iteR (Nat.blt t 1024) (TRow.casesOn (B.ty.get t) (failR "type") k) (failR "type")

def atom : Value → Bool
  | .bool _ => true | .int _ _ => true | .string _ => true | .pointer none => true | .slice none _ _ => true | .map none => true | .nilFunc => true | .nilIface => true
  | _ => false
def allAtom (l : List Value) : Bool := List.all l atom
def clo : Value → Bool
  | .agg cs => allAtom cs.toList
  | .tuple cs => allAtom cs.toList
  | .iface _ v => atom v
  | v => atom v

def ptrTo (id : Nat) : Value := .pointer (some ⟨id, 0, none⟩)

def onTmp (n : Nat) (e : T Value) (t : Nat) (k : Value → R) : R := iteR (Nat.blt t n) (k (e.get t)) (failR "tmp")
def evalK (n : Nat) (e : T Value) (o : Operand) (k : Value → R) : R :=
  selOperand (γ := Nat → T Value → (Value → R) → R) o (fun t n e k => onTmp n e t k) (fun v _ _ k => iteR (clo v) (k v) (failR "const")) (fun g _ _ k => iteR (Nat.blt g 10) (k (ptrTo g)) (failR "global")) (fun f _ _ k => k (.func (.func f) #[] #[])) n e k
def evalsK (n : Nat) (e : T Value) : List Operand → (List Value → R) → R
  | [], k => k []
  | o :: r, k => evalK n e o fun v => evalsK n e r fun vs => k (v :: vs)
def evalOptK (n : Nat) (e : T Value) (o : Option Operand) (k : Option Value → R) : R :=
  Option.casesOn o (k none) fun o => evalK n e o fun v => k (some v)

def put (n : Nat) (e : T Value) (dst : Option Tmp) (v : Value) (k : T Value → R) : R :=
  Option.casesOn dst (k e) fun d => iteR (Nat.blt d n) (k (T.set v e d)) (failR "put")

/-! what a value is -/
def onInt (v : Value) : (IntKind → Int → R) → R := selValue (γ := (IntKind → Int → R) → R) v (fun _ _ => failR "int") (fun q i k => k q i) (fun _ _ _ => failR "int") (fun _ _ _ _ => failR "int") (fun _ _ => failR "int") (fun _ _ => failR "int") (fun _ _ _ _ => failR "int") (fun _ _ => failR "int") (fun _ _ => failR "int") (fun _ _ _ _ => failR "int") (fun _ => failR "int") (fun _ _ _ => failR "int") (fun _ => failR "int") (fun _ _ => failR "int") (fun _ _ => failR "int")
def onIx (v : Value) : (Nat → R) → R := selValue (γ := (Nat → R) → R) v (fun _ _ => failR "index") (fun _ i k => Int.casesOn i k (fun _ => failR "index")) (fun _ _ _ => failR "index") (fun _ _ _ _ => failR "index") (fun _ _ => failR "index") (fun _ _ => failR "index") (fun _ _ _ _ => failR "index") (fun _ _ => failR "index") (fun _ _ => failR "index") (fun _ _ _ _ => failR "index") (fun _ => failR "index") (fun _ _ _ => failR "index") (fun _ => failR "index") (fun _ _ => failR "index") (fun _ _ => failR "index")
def onBool (v : Value) : R → R → R := selValue (γ := R → R → R) v (fun b x y => iteR b x y) (fun _ _ _ _ => failR "bool") (fun _ _ _ _ => failR "bool") (fun _ _ _ _ _ => failR "bool") (fun _ _ _ => failR "bool") (fun _ _ _ => failR "bool") (fun _ _ _ _ _ => failR "bool") (fun _ _ _ => failR "bool") (fun _ _ _ => failR "bool") (fun _ _ _ _ _ => failR "bool") (fun _ _ => failR "bool") (fun _ _ _ _ => failR "bool") (fun _ _ => failR "bool") (fun _ _ _ => failR "bool") (fun _ _ _ => failR "bool")
def onStr (v : Value) : (ByteArray → R) → R := selValue (γ := (ByteArray → R) → R) v (fun _ _ => failR "string") (fun _ _ _ => failR "string") (fun _ _ _ => failR "string") (fun _ _ _ _ => failR "string") (fun s k => k s) (fun _ _ => failR "string") (fun _ _ _ _ => failR "string") (fun _ _ => failR "string") (fun _ _ => failR "string") (fun _ _ _ _ => failR "string") (fun _ => failR "string") (fun _ _ _ => failR "string") (fun _ => failR "string") (fun _ _ => failR "string") (fun _ _ => failR "string")
def onAddr (a : Addr) (k : Nat → Nat → R) : R := Addr.casesOn a fun b o s => Option.casesOn s (k b o) (fun _ => failR "pointer")
def onPtr (v : Value) : (Nat → Nat → R) → R := selValue (γ := (Nat → Nat → R) → R) v (fun _ _ => failR "pointer") (fun _ _ _ => failR "pointer") (fun _ _ _ => failR "pointer") (fun _ _ _ _ => failR "pointer") (fun _ _ => failR "pointer") (fun a k => Option.casesOn a (failR "pointer") (fun a => onAddr a k)) (fun _ _ _ _ => failR "pointer") (fun _ _ => failR "pointer") (fun _ _ => failR "pointer") (fun _ _ _ _ => failR "pointer") (fun _ => failR "pointer") (fun _ _ _ => failR "pointer") (fun _ => failR "pointer") (fun _ _ => failR "pointer") (fun _ _ => failR "pointer")
def onAgg (v : Value) : (List Value → R) → R := selValue (γ := (List Value → R) → R) v (fun _ _ => failR "agg") (fun _ _ _ => failR "agg") (fun _ _ _ => failR "agg") (fun _ _ _ _ => failR "agg") (fun _ _ => failR "agg") (fun _ _ => failR "agg") (fun _ _ _ _ => failR "agg") (fun _ _ => failR "agg") (fun _ _ => failR "agg") (fun _ _ _ _ => failR "agg") (fun _ => failR "agg") (fun _ _ _ => failR "agg") (fun _ => failR "agg") (fun cs k => k cs.toList) (fun _ _ => failR "agg")
def onSlice (v : Value) : (Option Addr → Nat → Nat → R) → R := selValue (γ := (Option Addr → Nat → Nat → R) → R) v (fun _ _ => failR "slice") (fun _ _ _ => failR "slice") (fun _ _ _ => failR "slice") (fun _ _ _ _ => failR "slice") (fun _ _ => failR "slice") (fun _ _ => failR "slice") (fun a l c k => k a l c) (fun _ _ => failR "slice") (fun _ _ => failR "slice") (fun _ _ _ _ => failR "slice") (fun _ => failR "slice") (fun _ _ _ => failR "slice") (fun _ => failR "slice") (fun _ _ => failR "slice") (fun _ _ => failR "slice")
def onMap (v : Value) : (Option Nat → R) → R := selValue (γ := (Option Nat → R) → R) v (fun _ _ => failR "map") (fun _ _ _ => failR "map") (fun _ _ _ => failR "map") (fun _ _ _ _ => failR "map") (fun _ _ => failR "map") (fun _ _ => failR "map") (fun _ _ _ _ => failR "map") (fun r k => k r) (fun _ _ => failR "map") (fun _ _ _ _ => failR "map") (fun _ => failR "map") (fun _ _ _ => failR "map") (fun _ => failR "map") (fun _ _ => failR "map") (fun _ _ => failR "map")

def onCells (h : T AObj) (id : Nat) (k : T Value → Nat → Nat → TypeId → Nat → Nat → Bool → R) : R :=
  AObj.casesOn (h.get id) (failR "dead") k (fun _ _ => failR "no cells") (fun _ _ => failR "no cells") (fun _ _ _ _ => failR "no cells") (fun _ _ _ _ _ _ _ _ => failR "no cells") (fun _ => failR "no cells")
def onMapObj (h : T AObj) (id : Nat) (k : List MapEntry → Nat → R) : R :=
  AObj.casesOn (h.get id) (failR "no map") (fun _ _ _ _ _ _ _ => failR "no map") k (fun _ _ => failR "no map") (fun _ _ _ _ => failR "no map") (fun _ _ _ _ _ _ _ _ => failR "no map") (fun _ => failR "no map")

def newK (o : AObj) (h : T AObj) (nx : Nat) (k : Nat → T AObj → Nat → R) : R :=
  iteR (Nat.blt nx 16384) (forceN (Nat.succ nx) fun nx' => k nx (T.set o h nx) nx') (failR "full")
def depthFor (n : Nat) : Nat := Bool.rec (Nat.succ (Nat.log2 (Nat.pred n))) 0 (Nat.ble n 1)
def cellsOf (vs : List Value) (elem : TypeId) (sl : Bool) : AObj :=
  .cells (T.putList vs (T.const undef (depthFor vs.length)) 0) (depthFor vs.length) vs.length elem 0 0 sl
def newCellsK (vs : List Value) (elem : TypeId) (sl : Bool) (h : T AObj) (nx : Nat) (k : Nat → T AObj → Nat → R) : R :=
  forceN vs.length fun n => forceN (depthFor n) fun d =>
  newK (.cells (T.putList vs (T.const undef d) 0) d n elem 0 0 sl) h nx k

def loadK (h : T AObj) (id off n : Nat) (k : List Value → R) : R :=
  Nat.casesOn n (k []) fun m => onCells h id fun t _ sz _ _ _ _ => iteR (Nat.ble (Nat.add off (Nat.succ m)) sz) (k (t.list (Nat.succ m) off)) (failR "load: bounds")
def load1K (h : T AObj) (id off : Nat) (k : Value → R) : R :=
  onCells h id fun t _ sz _ _ _ _ => iteR (Nat.blt off sz) (k (t.get off)) (failR "load: bounds")
def oneCell (v : Value) : Bool := selValue (γ := Bool) v (fun _ => true) (fun _ _ => true) (fun _ _ => true) (fun _ _ _ => true) (fun _ => true) (fun _ => true) (fun _ _ _ => true) (fun _ => true) (fun _ => true) (fun _ _ _ => true) true (fun _ _ => true) true (fun _ => false) (fun _ => false)
def free (lo hi off n : Nat) : Bool := Bool.rec (Nat.ble (Nat.add off n) lo) true (Nat.ble hi off)
def storeK (lo0 : Nat) (h : T AObj) (id off : Nat) (vs : List Value) (k : T AObj → R) : R :=
  List.casesOn vs (k h) fun _ _ => iteR (Nat.blt id lo0) (failR "store: old") <| onCells h id fun t d sz e lo hi sl =>
    iteR (Nat.ble (Nat.add off vs.length) sz) (iteR (free lo hi off vs.length) (iteR (vs.all oneCell) (k (T.set (.cells (T.putList vs t off) d sz e lo hi sl) h id)) (failR "store: cell")) (failR "store: frozen")) (failR "store: bounds")
def store1K (lo0 : Nat) (h : T AObj) (id off : Nat) (v : Value) (k : T AObj → R) : R :=
  iteR (Nat.blt id lo0) (failR "store: old") <| onCells h id fun t d sz e lo hi sl =>
    iteR (Nat.blt off sz) (iteR (free lo hi off 1) (iteR (oneCell v) (k (T.set (.cells (T.set v t off) d sz e lo hi sl) h id)) (failR "store: cell")) (failR "store: frozen")) (failR "store: bounds")

def isAggD (d : TypeDesc) : Bool := selDesc (γ := Bool) d false false (fun _ => false) (fun _ => false) (fun _ => false) false false (fun _ => false) (fun _ => false) (fun _ _ => true) (fun _ _ => false) (fun _ _ => false) (fun _ => true) (fun _ _ _ => false) (fun _ => false) (fun _ => false) (fun _ _ => false)

def beqAddr (a b : Addr) : Bool := match a, b with | ⟨x, y, none⟩, ⟨z, w, none⟩ => Nat.beq x z && Nat.beq y w | _, _ => false
def beqV : Value → Value → Bool
  | .bool a, .bool b => a == b
  | .int k a, .int l b => decide (k = l) && eqK a b
  | .string a, .string b => a.data.toList == b.data.toList
  | .pointer none, .pointer none => true
  | .pointer (some a), .pointer (some b) => beqAddr a b
  | .slice none l c, .slice none l' c' => Nat.beq l l' && Nat.beq c c'
  | .slice (some a) l c, .slice (some b) l' c' => decide (a = b) && Nat.beq l l' && Nat.beq c c'
  | .map none, .map none => true
  | .map (some a), .map (some b) => Nat.beq a b
  | .nilFunc, .nilFunc => true
  | .nilIface, .nilIface => true
  | _, _ => false
def beqVs : List Value → List Value → Bool
  | [], [] => true
  | a :: x, b :: y => beqV a b && beqVs x y
  | _, _ => false
def beqV1 : Value → Value → Bool
  | .agg a, .agg b => beqVs a.toList b.toList
  | .tuple a, .tuple b => beqVs a.toList b.toList
  | .iface t a, .iface u b => Nat.beq t u && beqV a b
  | a, b => beqV a b

/-- both lists are whole numbers, pairwise of one kind: are they equal? -/
def eqInts : List Value → List Value → Option Bool
  | [], [] => some true
  | .int k a :: x, .int l b :: y => match eqInts x y with
    | some r => if decide (k = l) then some (eqK a b && r) else none
    | none => none
  | _, _ => none
/-- '==' of other values than numbers and strings -/
def hasRow (B : Tab) (t : TypeId) : Bool := Bool.rec false (TRow.casesOn (B.ty.get t) false fun _ _ _ _ => true) (Nat.blt t 1024)
def eqVal (B : Tab) (n : Nat) (d : TypeDesc) (x y : Value) : Option Bool :=
  match d, x, y with
  | .bool, .bool a, .bool b => some (a == b)
  | .pointer _, .pointer none, .pointer b => some b.isNone
  | .pointer _, .pointer (some _), .pointer none => some false
  | .pointer el, .pointer (some a), .pointer (some b) => if beqAddr a b && hasRow B el then some true else none
  | .slice _, .slice none _ _, .slice b _ _ => some b.isNone
  | .slice _, .slice (some _) _ _, .slice none _ _ => some false
  | .map _ _, .map none, .map b => some b.isNone
  | .map _ _, .map (some _), .map none => some false
  | .func _ _ _, .nilFunc, .nilFunc => some true
  | .func _ _ _, .nilFunc, .func _ _ _ => some false
  | .func _ _ _, .func _ _ _, .nilFunc => some false
  | .interface _, .nilIface, .iface _ _ => some false
  | .interface _, .iface _ _, .nilIface => some false
  | _, .agg a, .agg b => if Nat.beq a.toList.length n && Nat.blt 0 n then eqInts a.toList b.toList else none
  | _, _, _ => none
def isConstO : Operand → Bool
  | .const _ => true
  | _ => false
def strOp (op : BinOp) (x y : ByteArray) : Option Value :=
  match op with
  | .add => if Nat.blt (Nat.add x.size y.size) 1000000 then some (.string ⟨⟨x.data.toList ++ y.data.toList⟩⟩) else none
  | .eql => some (.bool (x.data.toList == y.data.toList))
  | .neq => some (.bool !(x.data.toList == y.data.toList))
  | _ => none
def isIfaceD : TypeDesc → Bool
  | .interface _ => true
  | _ => false
def eqOp (op : BinOp) (r : Option Bool) : Option Value :=
  match op, r with
  | .eql, some r => some (.bool r)
  | .neq, some r => some (.bool (Bool.not r))
  | _, _ => none
def eqAny (B : Tab) (op : BinOp) (t : TypeId) (c : Bool) (d : TypeDesc) (a b : Value) : Option Value :=
  match a, b with
  | .nilIface, .nilIface => if c && isIfaceD d then eqOp op (some true) else none
  | a, b => eqOp op (eqVal B (B.eqs t) d a b)
def otherOp (B : Tab) (op : BinOp) (t : TypeId) (x y : Operand) (a b : Value) : Option Value :=
  match a, b with
  | .string m, .string n => strOp op m n
  | a, b => TRow.casesOn (B.ty.get t) none fun d _ _ _ => Bool.rec none (eqAny B op t (isConstO x || isConstO y) d a b) (Nat.blt t 1024)
def isShift : BinOp → Bool
  | .shl => true
  | .shr => true
  | _ => false
def isIntV (v : Value) : Bool := selValue (γ := Bool) v (fun _ => false) (fun _ _ => true) (fun _ _ => false) (fun _ _ _ => false) (fun _ => false) (fun _ => false) (fun _ _ _ => false) (fun _ => false) (fun _ => false) (fun _ _ _ => false) false (fun _ _ => false) false (fun _ => false) (fun _ => false)
def binInt2 (b : Value) : BinOp → IntKind → Int → Option Value := selValue (γ := BinOp → IntKind → Int → Option Value) b (fun _ _ _ _ => none) (fun l n op k m => Bool.rec none (binI op k m n) (Bool.or (isShift op) (Nat.beq (kindNo k) (kindNo l)))) (fun _ _ _ _ _ => none) (fun _ _ _ _ _ _ => none) (fun _ _ _ _ => none) (fun _ _ _ _ => none) (fun _ _ _ _ _ _ => none) (fun _ _ _ _ => none) (fun _ _ _ _ => none) (fun _ _ _ _ _ _ => none) (fun _ _ _ => none) (fun _ _ _ _ _ => none) (fun _ _ _ => none) (fun _ _ _ _ => none) (fun _ _ _ _ => none)
def binInt (a : Value) : BinOp → Value → Option Value := selValue (γ := BinOp → Value → Option Value) a (fun _ _ _ => none) (fun k m op b => binInt2 b op k m) (fun _ _ _ _ => none) (fun _ _ _ _ _ => none) (fun _ _ _ => none) (fun _ _ _ => none) (fun _ _ _ _ _ => none) (fun _ _ _ => none) (fun _ _ _ => none) (fun _ _ _ _ _ => none) (fun _ _ => none) (fun _ _ _ _ => none) (fun _ _ => none) (fun _ _ _ => none) (fun _ _ _ => none)
def binV (B : Tab) (op : BinOp) (t : TypeId) (x y : Operand) (a b : Value) : Option Value :=
  Bool.rec (otherOp B op t x y a b) (binInt a op b) (Bool.and (isIntV a) (isIntV b))

def unV (op : UnOp) (x : Value) : Option Value :=
  match op, x with
  | .neg, .int k n => some (.int k (wrapK k (Int.sub 0 n)))
  | .xor, .int k n => some (.int k (k.wrap (BitVec.ofInt k.bits (if k.signed then -1 else k.max) ^^^ BitVec.ofInt k.bits n).toNat))
  | .not, .bool b => some (.bool (Bool.not b))
  | _, _ => none

def partK (B : Tab) (t : TypeId) (cs : List Value) (off : Nat) (k : Value → R) : R :=
  onRow B t fun d n _ _ => iteR (isAggD d) (iteR (Nat.ble (Nat.add off n) cs.length) (k (.agg ⟨(cs.drop off).take n⟩)) (failR "part")) (onO cs[off]? "part" k)

/-- a bound of a slice expression -/
def boundK (v : Option Value) (most dflt : Nat) (k : Nat → R) : R :=
  Option.casesOn v (k dflt) fun v => onIx v fun i => iteR (Nat.ble i most) (k i) (failR "bound")

def blockSl (h : T AObj) (id : Nat) : Bool :=
  match h.get id with
  | .cells _ _ _ _ _ _ sl => sl
  | _ => true

/-- xs[l:h:m] at l, h, m within bounds -/
def cutAt (h : T AObj) (a : Option Addr) (size l hi m : Nat) (three : Bool) : Option Value :=
  match a with
  | none => some (.slice none (Nat.sub hi l) (Nat.sub m l))
  | some ⟨id, off, sp⟩ =>
    match sp with
    | some 1 => if Nat.beq hi 0 && Nat.beq l 0 && !three then some (.slice a 0 0) else none
    | sp =>
      let sp' := if three then some 0 else sp
      if Nat.beq m l then
        if Nat.beq l 0 || sp'.isSome || !(blockSl h id) then some (.slice (some ⟨id, off, sp'⟩) (Nat.sub hi l) (Nat.sub m l))
        else some (.slice (some ⟨id, off, some 1⟩) 0 0)
      else some (.slice (some ⟨id, Nat.add off (Nat.mul l size), sp'⟩) (Nat.sub hi l) (Nat.sub m l))

def intsOf (s : ByteArray) (n : Nat) : List Value := (s.data.toList.take n).map fun x => .int .u8 (Int.ofNat x.toNat)
/-- the first n elements of a slice or a string -/
def srcK (h : T AObj) (size n : Nat) (v : Value) (k : List Value → R) : R :=
  match v with
  | .slice (some ⟨id, off, _⟩) _ _ => loadK h id off (Nat.mul n size) k
  | .slice none _ _ => iteR (Nat.beq n 0) (k []) (failR "src")
  | .string s => k (intsOf s n)
  | _ => failR "src"
def lenK (v : Value) (k : Nat → R) : R :=
  match v with
  | .slice _ n _ => k n
  | .string s => k s.size
  | _ => failR "len"

def manyOf (n : Nat) (l : List Value) : List Value := Nat.rec (motive := fun _ => List Value) [] (fun _ r => l ++ r) n

def appendNew (elem : TypeId) (vs : List Value) (n : Nat) (h : T AObj) (nx : Nat) (k : KV) : R :=
  newCellsK vs elem true h nx fun id h nx => k (.slice (some ⟨id, 0, none⟩) n n) h nx
def appendGrow (lo : Nat) (elem : TypeId) (size : Nat) (base : Option Addr) (sLen sCap : Nat) (new : List Value) (need : Nat) (h : T AObj) (nx : Nat) (k : KV) : R :=
  match base with
  | none => appendNew elem new need h nx k
  | some ⟨_, _, some 1⟩ => failR "append: somewhere"
  | some ⟨id, off, sp⟩ => loadK h id off (Nat.mul sLen size) fun old => onCells h id fun _ _ sz e _ fh sl =>
    iteR (sl && sp.isNone)
      (iteR (Nat.ble lo id && Nat.beq (Nat.add off (Nat.mul sCap size)) sz && Nat.beq e elem && Nat.beq fh 0 && new.all oneCell) (appendNew elem (old ++ new) need (T.set .dead h id) nx k) (failR "append: cap"))
      (appendNew elem (old ++ new) need h nx k)
def appendTo (lo : Nat) (elem : TypeId) (size : Nat) (base : Option Addr) (sLen sCap n : Nat) (new : List Value) (h : T AObj) (nx : Nat) (k : KV) : R :=
  forceN (Nat.add sLen n) fun need =>
  iteR (Nat.beq n 0) (iteR (Nat.ble sLen sCap) (k (.slice base sLen sCap) h nx) (failR "append: length"))
    (iteR (Nat.ble need sCap)
      (match base with
       | some ⟨id, off, none⟩ => storeK lo h id (Nat.add off (Nat.mul sLen size)) new fun h => k (.slice base need sCap) h nx
       | some ⟨id, off, some 0⟩ => storeK lo h id (Nat.add off (Nat.mul sLen size)) new fun h => k (.slice base need sCap) h nx
       | _ => failR "append: in place")
      (iteR (Nat.ble need 1000000 && Nat.blt 0 size && Nat.ble sLen sCap && Nat.beq new.length (Nat.mul n size)) (appendGrow lo elem size base sLen sCap new need h nx k) (failR "append: size")))
def isIntD (d : TypeDesc) : Bool := selDesc (γ := Bool) d false false (fun _ => true) (fun _ => false) (fun _ => false) false false (fun _ => false) (fun _ => false) (fun _ _ => false) (fun _ _ => false) (fun _ _ => false) (fun _ => false) (fun _ _ _ => false) (fun _ => false) (fun _ => false) (fun _ _ => false)
def appendK (lo : Nat) (B : Tab) (argTypes : List TypeId) (x y : Value) (h : T AObj) (nx : Nat) (k : KV) : R :=
  match argTypes with
  | st :: xt :: _ => onRow B st fun d _ _ sub => onRow B xt fun dx _ _ _ => match d, sub with
    | .slice elem, (_, size) :: _ => onSlice x fun base sLen sCap => onRow B elem fun _ _ z _ => onO z "zero" fun z =>
      iteR (isIntD dx)
        (onIx y fun n => iteR (Nat.ble n 1000000) (appendTo lo elem size base sLen sCap n (manyOf n z.cells.toList) h nx k) (failR "append: number"))
        (lenK y fun n => srcK h size n y fun new => appendTo lo elem size base sLen sCap n new h nx k)
    | _, _ => failR "append: type"
  | _ => failR "append"

def keyEq (a b : Value) : Option Bool :=
  match a, b with
  | .int k m, .int l n => if decide (k = l) then some (eqK m n) else none
  | .string m, .string n => some (m.data.toList == n.data.toList)
  | .agg m, .agg n => eqInts m.toList n.toList
  | _, _ => none
def findKey (kv : Value) : List MapEntry → Nat → Option (Option (Nat × Value))
  | [], _ => some none
  | e :: es, i => match keyEq kv e.key with
    | some true => some (some (i, e.val))
    | some false => findKey kv es (Nat.succ i)
    | none => none

def u8s : List Value → Option (List UInt8)
  | [] => some []
  | .int .u8 n :: r => match u8s r with | some l => some (UInt8.ofNat n.toNat :: l) | none => none
  | _ => none
def i32s : List Value → Option (List UInt8)
  | [] => some []
  | .int .i32 n :: r => match i32s r with | some l => some ((Utf8.encode n).data.toList ++ l) | none => none
  | _ => none

def convS (B : Tab) (e : TypeId) (a : Option Addr) (len : Nat) (h : T AObj) (nx : Nat) (k : KV) : R :=
  onRow B e fun d _ _ _ => match d, a with
    | .int .u8, none => k (.string .empty) h nx
    | .int .i32, none => k (.string .empty) h nx
    | .int .u8, some ⟨id, off, _⟩ => loadK h id off len fun cs => onO (u8s cs) "bytes" fun l => k (.string ⟨⟨l⟩⟩) h nx
    | .int .i32, some ⟨id, off, _⟩ => loadK h id off len fun cs => onO (i32s cs) "runes" fun l => k (.string ⟨⟨l⟩⟩) h nx
    | _, _ => failR "convert"
def convK (B : Tab) (src dst : TypeId) (x : Value) (h : T AObj) (nx : Nat) (k : KV) : R :=
  match x with
  | .int _ n => onTy B src <| onRow B dst fun d _ _ _ => match d with
    | .int q => k (.int q (wrapK q n)) h nx
    | _ => failR "convert"
  | .string s => onTy B src <| onRow B dst fun d _ _ _ => match d with
    | .string => k x h nx
    | .slice e => onRow B e fun d _ _ _ => match d with
      | .int .u8 => forceN s.size fun n => forceN (depthFor n) fun d => newK (.cells (T.putList (intsOf s n) (T.const undef d) 0) d n e n (Nat.succ n) true) h nx fun id h nx => k (.slice (some ⟨id, 0, none⟩) n n) h nx
      | _ => failR "convert"
    | _ => failR "convert"
  | .slice a len _ => onRow B dst fun d _ _ _ => match d with
    | .string => onRow B src fun d _ _ _ => match d with
      | .slice e => convS B e a len h nx k
      | _ => failR "convert"
    | _ => failR "convert"
  | .pointer p => onRow B src fun ds _ _ _ => onRow B dst fun dd _ _ _ => match p, ds, dd with
    | none, .pointer _, .unsafePointer => k x h nx
    | none, .unsafePointer, .pointer _ => k x h nx
    | some ⟨id, off, none⟩, .pointer t, .unsafePointer => onRow B t fun _ n _ _ => onCells h id fun _ _ sz _ _ _ _ => iteR (Nat.blt 0 n && Nat.blt off sz) (k x h nx) (failR "convert: pointer")
    | some ⟨id, off, none⟩, .unsafePointer, .pointer u => onRow B u fun _ n _ _ => onCells h id fun _ _ sz e _ _ sl => iteR (Nat.beq e u && B.self u && Nat.beq off 0 && Nat.beq sz n && Bool.not sl) (k x h nx) (failR "convert: pointer")
    | _, _, _ => failR "convert"
  | _ => failR "convert"

/-! building -/
def splice (vc : List Value) (cells : List Value) (off : Nat) : List Value := cells.take off ++ vc ++ cells.drop (Nat.add off vc.length)
def fillK (sub : Nat → Option (Nat × Nat)) (n : Nat) (e : T Value) : List (Nat × Operand) → List Value → (List Value → R) → R
  | [], cells, k => k cells
  | (i, o) :: rest, cells, k => match sub i with
    | none => failR "build"
    | some (off, size) => evalK n e o fun v =>
      iteR (Nat.beq v.cells.toList.length size && Nat.ble (Nat.add off size) cells.length) (fillK sub n e rest (splice v.cells.toList cells off) k) (failR "build: size")
def stride (sub : List (Nat × Nat)) (i : Nat) : Option (Nat × Nat) := match sub with | (_, s) :: _ => some (Nat.mul i s, s) | [] => none

/-! the operations that run no code. Each: what stays of the activation, its temporaries, the memory; and what is done with the value -/
abbrev H := Act0 → T Value → T AObj → Nat → KV → R

def hNone : H := fun _ _ _ _ _ => failR "op"
def hMove (x : Operand) : H := fun a e h nx k => evalK a.n e x fun v => k v h nx
def hPick (c x y : Operand) : H := fun a e h nx k => evalK a.n e c fun c => onBool c (evalK a.n e x fun v => k v h nx) (evalK a.n e y fun v => k v h nx)
def hAlloc (B : Tab) (t : TypeId) : H := fun _ _ h nx k => onRow B t fun _ _ z _ => onO z "zero" fun z => newCellsK z.cells.toList t false h nx fun id h nx => k (ptrTo id) h nx
def hBox (t : TypeId) (x : Operand) : H := fun a e h nx k => evalK a.n e x fun v => newCellsK v.cells.toList t false h nx fun id h nx => k (ptrTo id) h nx
def hBuild (B : Tab) (t : TypeId) (ps : Array (Nat × Operand)) : H := fun a e h nx k => onRow B t fun d _ z sub => onO z "zero" fun z => match d with
  | .struct _ => fillK (fun i => sub[i]?) a.n e ps.toList z.cells.toList fun l => k (.agg ⟨l⟩) h nx
  | .array _ _ => fillK (stride sub) a.n e ps.toList z.cells.toList fun l => k (.agg ⟨l⟩) h nx
  | _ => failR "build"
def hBuildSlice (B : Tab) (t : TypeId) (len : Nat) (ps : Array (Nat × Operand)) : H := fun a e h nx k => onRow B t fun d _ _ sub => match d with
  | .slice el => onRow B el fun _ n z _ => onO z "zero" fun z => iteR (Nat.ble (Nat.mul len n) 1000000) (fillK (stride sub) a.n e ps.toList (manyOf len z.cells.toList) fun l =>
    newCellsK l el false h nx fun id h nx => k (.slice (some ⟨id, 0, none⟩) len len) h nx) (failR "buildSlice")
  | _ => failR "buildSlice"
def hLoad (B : Tab) (t : TypeId) (x : Operand) : H := fun a e h nx k => evalK a.n e x fun p => onPtr p fun id off => onRow B t fun d n _ _ =>
  iteR (isAggD d) (loadK h id off n fun l => k (.agg ⟨l⟩) h nx) (load1K h id off fun v => k v h nx)
def nilOk (v : Value) : Bool := selValue (γ := Bool) v (fun _ => false) (fun _ _ => false) (fun _ _ => false) (fun _ _ _ => false) (fun _ => false) (fun a => Option.casesOn a false (fun _ => true)) (fun _ _ _ => false) (fun _ => false) (fun _ => false) (fun _ _ _ => false) false (fun _ _ => false) false (fun _ => false) (fun _ => false)
def hNilCheck (x : Operand) : H := fun a e h nx k => evalK a.n e x fun v => iteR (nilOk v) (k v h nx) (failR "nil")
def hBin (B : Tab) (op : BinOp) (t : TypeId) (x y : Operand) : H := fun a e h nx k => evalK a.n e x fun v => evalK a.n e y fun u => onO (binV B op t x y v u) "binOp" fun r => forceV r fun r => k r h nx
def hUn (op : UnOp) (x : Operand) : H := fun a e h nx k => evalK a.n e x fun v => onO (unV op v) "unOp" fun r => forceV r fun r => k r h nx
def hConvert (B : Tab) (src dst : TypeId) (x : Operand) : H := fun a e h nx k => evalK a.n e x fun v => convK B src dst v h nx fun r h nx => forceV r fun r => k r h nx
def notIface (d : TypeDesc) : Bool := selDesc (γ := Bool) d true true (fun _ => true) (fun _ => true) (fun _ => true) true true (fun _ => true) (fun _ => true) (fun _ _ => true) (fun _ _ => true) (fun _ _ => true) (fun _ => true) (fun _ _ _ => true) (fun _ => false) (fun _ => true) (fun _ _ => true)
def hMakeInterface (B : Tab) (t : TypeId) (x : Operand) : H := fun a e h nx k => evalK a.n e x fun v => onRow B t fun d _ _ _ => iteR (notIface d) (k (.iface t v) h nx) (failR "makeInterface")
def plainFn : Fn → Bool
  | .yield _ => false
  | _ => true
def hMakeFunc (fn : Fn) (xs ys : Array Operand) : H := fun a e h nx k => iteR (plainFn fn) (evalsK a.n e xs.toList fun vs => evalsK a.n e ys.toList fun us => k (.func fn ⟨vs⟩ ⟨us⟩) h nx) (failR "makeFunc")
def hMakeMap (r : Option Operand) : H := fun _ _ h nx k => Option.casesOn r (newK (.map [] 0) h nx fun id h nx => k (.map (some id)) h nx) (fun _ => failR "makeMap")
def hMakeSlice (B : Tab) (t : TypeId) (l c : Operand) : H := fun a e h nx k => onRow B t fun d _ _ _ => match d with
  | .slice el => evalK a.n e l fun lv => evalK a.n e c fun cv => onIx lv fun l => onIx cv fun c => iteR (Nat.ble l c && Nat.ble c 100000)
      (onRow B el fun _ _ z _ => onO z "zero" fun z => newCellsK (manyOf c z.cells.toList) el false h nx fun id h nx => k (.slice (some ⟨id, 0, none⟩) l c) h nx) (failR "makeSlice")
  | _ => failR "makeSlice"
def sliceStr (s : ByteArray) (lo hi : Option Value) (h : T AObj) (nx : Nat) (k : KV) : R :=
  boundK hi s.size s.size fun u => boundK lo u 0 fun l => k (.string (s.extract l u)) h nx
def sliceSl (size : Nat) (a : Option Addr) (len cap : Nat) (lo hi mx : Option Value) (h : T AObj) (nx : Nat) (k : KV) : R :=
  boundK mx cap cap fun m => boundK hi (if mx.isSome then m else cap) len fun u => boundK lo u 0 fun l => iteR (Nat.ble u m && (hi.isSome || mx.isNone)) (onO (cutAt h a size l u m mx.isSome) "slice" fun v => k v h nx) (failR "slice")
def sliceArr (n size id off : Nat) (lo hi : Option Value) (h : T AObj) (nx : Nat) (k : KV) : R :=
  boundK hi n n fun u => boundK lo u 0 fun l => k (.slice (some ⟨id, if Nat.beq n l then off else Nat.add off (Nat.mul l size), some 0⟩) (Nat.sub u l) (Nat.sub n l)) h nx
def sliceV (d : TypeDesc) (sub : List (Nat × Nat)) (v : Value) (lo hi mx : Option Value) (h : T AObj) (nx : Nat) (k : KV) : R :=
  match d, sub with
  | .string, _ => onStr v fun s => iteR mx.isSome (failR "slice") (sliceStr s lo hi h nx k)
  | .slice _, (_, size) :: _ => onSlice v fun a len cap => sliceSl size a len cap lo hi mx h nx k
  | .array n _, (_, size) :: _ => onPtr v fun id off => iteR mx.isSome (failR "slice") (sliceArr n size id off lo hi h nx k)
  | _, _ => failR "slice"
def hSlice (B : Tab) (t : TypeId) (x : Operand) (lo hi mx : Option Operand) : H := fun a e h nx k =>
  evalK a.n e x fun v => evalOptK a.n e lo fun lo => evalOptK a.n e hi fun hi => evalOptK a.n e mx fun mx => onRow B t fun d _ _ sub => sliceV d sub v lo hi mx h nx k
def hFieldAddr (B : Tab) (t : TypeId) (x : Operand) (i : Nat) : H := fun a e h nx k => evalK a.n e x fun p => onPtr p fun id off => onRow B t fun d _ _ sub => match d with
  | .struct _ => onO sub[i]? "field" fun q => Prod.casesOn q fun o s => iteR (Nat.beq s 0) (failR "field: no cells") (forceN (Nat.add off o) fun off => k (.pointer (some ⟨id, off, none⟩)) h nx)
  | _ => failR "fieldAddr"
def hField (B : Tab) (t : TypeId) (x : Operand) (i : Nat) : H := fun a e h nx k => evalK a.n e x fun v => onAgg v fun cs => onRow B t fun d _ _ _ => match d with
  | .struct fs => onO fs[i]? "field" fun f => partK B f.type cs f.offset fun v => k v h nx
  | _ => failR "field"
def hIndexAddr (B : Tab) (t : TypeId) (x y : Operand) : H := fun a e h nx k => evalK a.n e x fun v => evalK a.n e y fun iv => onIx iv fun i => onRow B t fun d _ _ sub => match d, sub with
  | .array n _, (_, size) :: _ => onPtr v fun id off => iteR (Nat.blt i n) (forceN (Nat.add off (Nat.mul i size)) fun off => k (.pointer (some ⟨id, off, none⟩)) h nx) (failR "index")
  | .slice _, (_, size) :: _ => onSlice v fun b len _ => match b with
    | some ⟨_, _, some 1⟩ => failR "index"
    | some ⟨id, off, _⟩ => iteR (Nat.blt i len) (forceN (Nat.add off (Nat.mul i size)) fun off => k (.pointer (some ⟨id, off, none⟩)) h nx) (failR "index")
    | none => failR "index"
  | _, _ => failR "indexAddr"
def hIndex (B : Tab) (t : TypeId) (x y : Operand) : H := fun a e h nx k => evalK a.n e x fun v => evalK a.n e y fun iv => onIx iv fun i => onRow B t fun d _ _ sub => match d, sub with
  | .array n el, (_, size) :: _ => onAgg v fun cs => iteR (Nat.blt i n) (partK B el cs (Nat.mul i size) fun v => k v h nx) (failR "index")
  | .string, _ => onStr v fun s => onO s.data.toList[i]? "index" fun c => k (.int .u8 (Int.ofNat c.toNat)) h nx
  | _, _ => failR "index"
def allInt : List Value → Bool
  | [] => true
  | .int _ _ :: r => allInt r
  | _ => false
/-- keys whose comparison runs no code -/
def keyD (B : Tab) (t : TypeId) : TypeDesc → Value → Bool
  | .int _, .int _ _ => true
  | .string, .string _ => true
  | .struct _, .agg cs => Nat.blt 0 (B.eqs t) && Nat.beq cs.toList.length (B.eqs t) && (allInt cs.toList && Nat.beq (B.eqs t) 2)
  | _, _ => false
/-- a key of a map -/
def keyK (B : Tab) (t : TypeId) (kv : Value) (k : R) : R := onRow B t fun d _ _ _ => iteR (keyD B t d kv && clo kv) k (failR "key")
def entriesK (h : T AObj) (m : Option Nat) (k : List MapEntry → R) : R := Option.casesOn m (k []) fun id => onMapObj h id fun es _ => k es
def foundK (B : Tab) (el : TypeId) (kv : Value) (es : List MapEntry) (k : Value → Bool → R) : R :=
  onO (findKey kv es 0) "keys" fun r => match r with
  | some (_, v) => k v true
  | none => onRow B el fun _ _ z _ => onO z "zero" fun z => k z false
def hLookup (B : Tab) (t : TypeId) (x y : Operand) (ok : Bool) : H := fun a e h nx k => evalK a.n e x fun v => evalK a.n e y fun kv => onMap v fun m => onRow B t fun d _ _ _ => match d with
  | .map kt el => keyK B kt kv (entriesK h m fun es => foundK B el kv es fun v b => k (if ok then .tuple #[v, .bool b] else v) h nx)
  | _ => failR "lookup"
def hRange (B : Tab) (t : TypeId) (x : Operand) : H := fun a e h nx k => evalK a.n e x fun v => onRow B t fun d _ _ _ => match d, v with
  | .string, .string s => newK (.str s 0) h nx fun id h nx => k (ptrTo id) h nx
  | .map _ _, .map none => newK (.iter none 0 [] 0) h nx fun id h nx => k (ptrTo id) h nx
  | .map _ _, .map (some m) => onMapObj h m fun _ clock => newK (.iter (some m) clock [] clock) h nx fun id h nx => k (ptrTo id) h nx
  | _, _ => failR "range"
def entryOf (stamp : Nat) : List MapEntry → Option MapEntry
  | [] => none
  | e :: r => if Nat.beq e.born stamp then some e else entryOf stamp r
def hEntry (x : Operand) : H := fun a e h nx k => evalK a.n e x fun p => onPtr p fun id off => iteR (Nat.beq off 0) (match h.get id with
  | .iter (some m) _ (stamp :: _) last => onMapObj h m fun es clock => iteR (Nat.beq clock last) (onO (entryOf stamp es) "entry" fun e => k (.tuple #[e.key, e.val]) h nx) (failR "entry: changed")
  | _ => failR "entry") (failR "entry")
def hTypeAssert (B : Tab) (x : Operand) (u : TypeId) (ok : Bool) : H := fun a e h nx k => evalK a.n e x fun v => onRow B u fun d _ _ _ => match v with
  | .iface t v => iteR (notIface d && Nat.beq t u) (k (if ok then .tuple #[v, .bool true] else v) h nx) (failR "typeAssert")
  | _ => failR "typeAssert"
def hExtract (x : Operand) (i : Nat) : H := fun a e h nx k => evalK a.n e x fun v => match v with
  | .tuple vs => onO vs.toList[i]? "extract" fun v => k v h nx
  | _ => failR "extract"

/-! built-in functions -/
def bLen (B : Tab) (c : Call) : H := fun a e h nx k => match c.args.toList, c.argTypes.toList with
  | x :: _, t :: _ => evalK a.n e x fun v => onRow B t fun d _ _ _ => match d, v with
    | .string, .string s => forceN s.size fun n => k (.int .i64 (Int.ofNat n)) h nx
    | .slice _, .slice _ n _ => forceN n fun n => k (.int .i64 (Int.ofNat n)) h nx
    | .map _ _, .map none => k (.int .i64 (Int.ofNat 0)) h nx
    | .map _ _, .map (some id) => onMapObj h id fun es _ => forceN es.length fun n => k (.int .i64 (Int.ofNat n)) h nx
    | _, _ => failR "len"
  | _, _ => failR "len"
def bCap (B : Tab) (c : Call) : H := fun a e h nx k => match c.args.toList, c.argTypes.toList with
  | x :: _, t :: _ => evalK a.n e x fun v => onRow B t fun d _ _ _ => match d, v with
    | .slice _, .slice none _ n => k (.int .i64 (Int.ofNat n)) h nx
    | _, _ => failR "cap"
  | _, _ => failR "cap"
def bMin (c : Call) : H := fun a e h nx k => match c.args.toList with
  | [x, y] => evalK a.n e x fun v => evalK a.n e y fun u => onInt v fun q i => onInt u fun _ j => k (.int q (if ltK j i then j else i)) h nx
  | _ => failR "min"
def bMax (c : Call) : H := fun a e h nx k => match c.args.toList with
  | [x, y] => evalK a.n e x fun v => evalK a.n e y fun u => onInt v fun q i => onInt u fun _ j => k (.int q (if ltK i j then j else i)) h nx
  | _ => failR "max"
def bSliceData (c : Call) : H := fun a e h nx k => match c.args.toList with
  | [x] => evalK a.n e x fun v => match v with
    | .slice (some ⟨_, _, some 1⟩) _ _ => failR "sliceData"
    | .slice (some ⟨id, off, _⟩) _ (_ + 1) => k (.pointer (some ⟨id, off, none⟩)) h nx
    | .slice none _ _ => k (.pointer none) h nx
    | _ => failR "sliceData"
  | _ => failR "sliceData"
def bRecover : H := fun a _ h nx k => iteR a.ded (k .nilIface h nx) (failR "recover")
def bAppend (B : Tab) (c : Call) : H := fun a e h nx k => match c.args.toList with
  | [x, y] => evalK a.n e x fun v => evalK a.n e y fun u => appendK a.lo B c.argTypes.toList v u h nx k
  | _ => failR "append"
def copyTo (lo : Nat) (base : Option Addr) (cs : List Value) (h : T AObj) (k : T AObj → R) : R :=
  match base with
  | none => match cs with | [] => k h | _ => failR "copy"
  | some ⟨_, _, some 1⟩ => match cs with | [] => k h | _ => failR "copy"
  | some ⟨id, off, _⟩ => storeK lo h id off cs k
def bCopy (B : Tab) (c : Call) : H := fun a e h nx k => match c.args.toList, c.argTypes.toList with
  | [x, y], t :: _ => evalK a.n e x fun v => evalK a.n e y fun u => onSlice v fun base dLen _ => lenK u fun n => onRow B t fun d _ _ sub => match d, sub with
    | .slice _, (_, size) :: _ => forceN (minN n dLen) fun m => srcK h size m u fun cs => copyTo a.lo base cs h fun h => k (.int .i64 (Int.ofNat m)) h nx
    | _, _ => failR "copy"
  | _, _ => failR "copy"
def bClear (B : Tab) (c : Call) : H := fun a e h nx k => match c.args.toList, c.argTypes.toList with
  | [x], t :: _ => evalK a.n e x fun v => onSlice v fun base n _ => onRow B t fun d _ _ _ => match d with
    | .slice el => onRow B el fun _ _ z _ => onO z "zero" fun z => copyTo a.lo base (manyOf n z.cells.toList) h fun h => k (.tuple #[]) h nx
    | _ => failR "clear"
  | _, _ => failR "clear"
def maxN (a b : Nat) : Nat := Bool.rec a b (Nat.ble a b)
def freezeK (lo0 : Nat) (h : T AObj) (id off n : Nat) (k : T AObj → R) : R := iteR (Nat.blt id lo0) (failR "old") <| onCells h id fun t d sz e lo hi sl => iteR (Nat.ble hi sz)
  (k (T.set (.cells t d sz e (Bool.rec (minN lo off) off (Nat.beq lo hi)) (Bool.rec (maxN hi (Nat.add off n)) (Nat.add off n) (Nat.beq lo hi)) sl) h id)) (failR "freeze")
def bUnsafeString (B : Tab) (c : Call) : H := fun a e h nx k => match c.args.toList, c.argTypes.toList with
  | [x, y], pt :: _ => evalK a.n e x fun v => evalK a.n e y fun u => onIx u fun n => onRow B pt fun d _ _ _ => match d, v with
    | .pointer el, .pointer p => iteR (Nat.blt n 1000000) (match p with
      | none => iteR (Nat.beq n 0) (k (.string .empty) h nx) (failR "unsafeString")
      | some ⟨id, off, none⟩ => iteR (Nat.beq n 0) (k (.string .empty) h nx) (onCells h id fun _ _ _ ce _ _ _ => iteR (Nat.beq el B.u8 && Nat.beq ce B.u8)
          (loadK h id off n fun cs => onO (u8s cs) "unsafeString" fun l => freezeK a.lo h id off n fun h => k (.string ⟨⟨l⟩⟩) h nx) (failR "unsafeString"))
      | _ => failR "unsafeString") (failR "unsafeString")
    | _, _ => failR "unsafeString"
  | _, _ => failR "unsafeString"
def hBuiltin (B : Tab) (b : Builtin) (c : Call) : H :=
  selBuiltin (γ := Tab → Call → H) b (fun B c => bAppend B c) (fun B c => bCap B c) (fun B c => bClear B c) (fun _ _ => hNone) (fun _ _ => hNone) (fun B c => bCopy B c) (fun _ _ => hNone) (fun _ _ => hNone) (fun B c => bLen B c) (fun _ _ => hNone) (fun _ c => bMax c) (fun _ c => bMin c)
    (fun _ _ => hNone) (fun _ _ => hNone) (fun _ _ => hNone) (fun _ _ => hNone) (fun _ _ => hNone) (fun _ _ => bRecover)
    (fun _ _ => hNone) (fun _ _ => hNone) (fun _ c => bSliceData c) (fun B c => bUnsafeString B c) (fun _ _ => hNone) (fun _ _ => hNone) (fun _ _ => hNone) (fun _ _ => hNone) B c

/-! operations that turn memory -/
def hStore (B : Tab) (t : TypeId) (p x : Operand) : H := fun a e h nx k => evalK a.n e p fun p => evalK a.n e x fun v => onPtr p fun id off => onRow B t fun _ n _ _ =>
  iteR (oneCell v) (iteR (Nat.beq n 1) (store1K a.lo h id off v fun h => k undef h nx) (failR "store: size"))
    (iteR (Nat.beq v.cells.toList.length n) (storeK a.lo h id off v.cells.toList fun h => k undef h nx) (failR "store: size"))
def modEntry (f : MapEntry → MapEntry) : List MapEntry → Nat → List MapEntry
  | [], _ => []
  | e :: r, 0 => f e :: r
  | e :: r, i + 1 => e :: modEntry f r i
def putEntry (kv v : Value) (es : List MapEntry) (clock : Nat) : Option (Nat × Value) → AObj
  | some (i, _) => .map (modEntry (fun e => ⟨kv, v, e.born⟩) es i) clock
  | none => .map (es ++ [⟨kv, v, clock⟩]) (Nat.succ clock)
def hMapUpdate (B : Tab) (t : TypeId) (m y x : Operand) : H := fun a e h nx k => evalK a.n e m fun m => evalK a.n e y fun kv => evalK a.n e x fun v => onMap m fun r => onO r "nil map" fun id =>
  iteR (Nat.blt id a.lo) (failR "old") <| onMapObj h id fun es clock => onRow B t fun d _ _ _ => match d with
    | .map kt _ => keyK B kt kv (onO (findKey kv es 0) "keys" fun r => k undef (T.set (putEntry kv v es clock r) h id) nx)
    | _ => failR "mapUpdate"
def bornAt (es : List MapEntry) (i : Nat) : Nat := match es[i]? with | some e => e.born | none => 0
def hMapEntry (B : Tab) (t : TypeId) (m y : Operand) : H := fun a e h nx k => evalK a.n e m fun m => evalK a.n e y fun kv => onMap m fun r => onO r "nil map" fun id => iteR (Nat.blt id a.lo) (failR "old") <|
  onMapObj h id fun es clock => onRow B t fun d _ _ _ => match d with
    | .map kt el => keyK B kt kv (onO (findKey kv es 0) "keys" fun r => match r with
      | some (i, v) => k (.tuple #[v, .int .i64 (Int.ofNat (bornAt es i))]) (T.set (.map (modEntry (fun e => ⟨kv, e.val, e.born⟩) es i) clock) h id) nx
      | none => onRow B el fun _ _ z _ => onO z "zero" fun z => k (.tuple #[z, .int .i64 (Int.ofNat clock)]) (T.set (.map (es ++ [⟨kv, z, clock⟩]) (Nat.succ clock)) h id) nx)
    | _ => failR "mapEntry"
def stampIx (b : Nat) : List MapEntry → Nat → Option Nat
  | [], _ => none
  | e :: r, i => if Nat.beq e.born b then some i else stampIx b r (Nat.succ i)
def hEntryStore (m st x : Operand) : H := fun a e h nx k => evalK a.n e m fun m => evalK a.n e st fun st => evalK a.n e x fun v => onMap m fun r => onO r "nil map" fun id => onIx st fun b =>
  iteR (Nat.blt id a.lo) (failR "old") <| onMapObj h id fun es clock => onO (stampIx b es 0) "entryStore" fun i => k undef (T.set (.map (modEntry (fun e => ⟨e.key, v, e.born⟩) es i) clock) h id) nx
def notSeen (seen : List Nat) (e : MapEntry) : Bool := !(seen.any fun b => Nat.beq b e.born)
def nextIter (id m since : Nat) (seen : List Nat) (last : Nat) (es : List MapEntry) (clock : Nat) (h : T AObj) (nx : Nat) (k : KV) : R :=
  iteR (Nat.beq clock since && Nat.beq clock last)
    (match es.filter (notSeen seen) with
     | [] => k (.tuple #[.bool false]) h nx
     | [e] => k (.tuple #[.bool true, e.key, e.val]) (T.set (.iter (some m) since (e.born :: seen) clock) h id) nx
     | left => .ask left.length fun j => onO left[j]? "ask" fun e => k (.tuple #[.bool true, e.key, e.val]) (T.set (.iter (some m) since (e.born :: seen) clock) h id) nx)
    (failR "next: changed")
def nextStr (id : Nat) (s : ByteArray) (pos : Nat) (h : T AObj) (nx : Nat) (k : KV) : R :=
  iteR (Nat.blt pos s.size) (match Utf8.decode s pos with | (c, w) => forceN c fun c => forceN w fun w => k (.tuple #[.bool true, .int .i64 (Int.ofNat pos), .int .i32 (Int.ofNat c)]) (T.set (.str s (Nat.add pos w)) h id) nx)
    (k (.tuple #[.bool false]) h nx)
def hNext (it : Operand) (isS : Bool) : H := fun a e h nx k => evalK a.n e it fun p => onPtr p fun id off => iteR (Bool.and (Nat.ble a.lo id) (Nat.beq off 0)) (match h.get id, isS with
  | .str s pos, true => nextStr id s pos h nx k
  | .iter none _ _ _, false => k (.tuple #[.bool false]) h nx
  | .iter (some m) since seen last, false => onMapObj h m fun es clock => nextIter id m since seen last es clock h nx k
  | _, _ => failR "next") (failR "next")

/-! calls -/
abbrev RC := Act0 → Code → T Value → List Deferred → T AObj → Nat → KE → R

def loadVarK (B : Tab) (t : TypeId) (p : Value) (h : T AObj) (k : Value → R) : R := onPtr p fun id off => onRow B t fun d n _ _ =>
  iteR (isAggD d) (loadK h id off n fun l => k (.agg ⟨l⟩)) (load1K h id off k)
def resK (B : Tab) (n : Nat) (e : T Value) (h : T AObj) (r : ResultVar) (k : Value → R) : R :=
  ResultVar.casesOn r (fun t => onTmp n e t k) (fun a t => onTmp n e a fun p => loadVarK B t p h k)
def resultsK (B : Tab) (n : Nat) (e : T Value) (h : T AObj) : List ResultVar → (List Value → R) → R
  | [], k => k []
  | r :: rs, k => resK B n e h r fun v => resultsK B n e h rs fun vs => k (v :: vs)
def oneOf (vs : List Value) : Value := match vs with | [v] => v | vs => .tuple ⟨vs⟩

def indexB (m : Nat) : List UInt8 → Nat → Int
  | [], _ => -1
  | x :: r, i => if Nat.beq x.toNat m then Int.ofNat i else indexB m r (Nat.succ i)
def countB (m : Nat) (l : List UInt8) : Nat := (l.filter fun x => Nat.beq x.toNat m).length
def eSame (args : List Value) (h : T AObj) (nx : Nat) (k : KV) : R := match args with | [x] => k x h nx | _ => failR "extern"
def eIndex (args : List Value) (h : T AObj) (nx : Nat) (k : KV) : R := match args with | [.string s, .int .u8 (.ofNat m)] => iteR (Nat.blt m 256) (k (.int .i64 (indexB m s.data.toList 0)) h nx) (failR "extern") | _ => failR "extern"
def eCount (args : List Value) (h : T AObj) (nx : Nat) (k : KV) : R := match args with | [.string s, .int .u8 (.ofNat m)] => iteR (Nat.blt m 256) (k (.int .i64 (Int.ofNat (countB m s.data.toList))) h nx) (failR "extern") | _ => failR "extern"
def eMake (B : Tab) (fn : Func) (args : List Value) (h : T AObj) (nx : Nat) (k : KV) : R := match args, fn.resultTypes.toList with
  | [.int .i64 (.ofNat n)], [t] => onRow B t fun d _ _ sub => match d, sub with
    | .slice e, (_, size) :: _ => iteR (Nat.beq size 1 && Nat.blt n 1000000) (newCellsK [] e true h nx fun id h nx => k (.slice (some ⟨id, 0, none⟩) n 0) h nx) (failR "extern")
    | _, _ => failR "extern"
  | _, _ => failR "extern"
def eClone (args : List Value) (h : T AObj) (nx : Nat) (k : KV) : R := match args with | [.iface t (.map (some id))] => onMapObj h id fun es clock => newK (.map es clock) h nx fun id h nx => k (.iface t (.map (some id))) h nx | _ => failR "extern"
/-- functions without a body in Go, by their number -/
def externK (B : Tab) (f : FuncId) (fn : Func) (args : List Value) (h : T AObj) (nx : Nat) (k : KV) : R :=
  match B.ext f with
  | 1 => eSame args h nx k
  | 2 => eIndex args h nx k
  | 3 => eCount args h nx k
  | 4 => eMake B fn args h nx k
  | 5 => eClone args h nx k
  | _ => failR "extern"

def onFn (B : Tab) (f : FuncId) (k : Func → R) : R := iteR (Nat.blt f 1024) (onO (B.fn.get f) "no function" k) (failR "no function")
def envFor (n : Nat) (args : List Value) : T Value := T.putList args (T.const undef (depthFor n)) 0
def enterK (lo : Nat) (rc : RC) (fn : Func) (c : Code) (args : List Value) (ded : Bool) (h : T AObj) (nx : Nat) (k : KE) : R :=
  forceN (maxN fn.ntmps args.length) fun n => forceN (depthFor n) fun d => rc ⟨n, none, ded, lo⟩ c (T.putList args (T.const undef d) 0) [] h nx k

/-- what was deferred, in order -/
def defersK (lo : Nat) (B : Tab) (rc : RC) : Nat → List Deferred → T AObj → Nat → (T AObj → Nat → R) → R
  | 0, _, _, _, _ => failR "defers"
  | m + 1, ds, h, nx, k => match ds with
    | [] => k h nx
    | d :: ds => match d.target with
      | .collected b => match h.get b with
        | .defers (some l) => iteR (Nat.blt b lo) (failR "old") <| defersK lo B rc m (l ++ ds) (T.set (.defers none) h b) nx k
        | _ => failR "collected"
      | .fn (.func g) cap => onFn B g fun fg => onO fg.body "deferred extern" fun cg => enterK lo rc fg cg (d.args.toList ++ cap.toList) true h nx fun x e ds' h nx => match x, ds' with
        | .exit _, _ => failR "exit"
        | _, [] => resultsK B (maxN fg.ntmps (d.args.toList ++ cap.toList).length) e h fg.results.toList fun _ => defersK lo B rc m ds h nx k
        | _, _ => failR "defers in a deferred call"
      | _ => failR "deferred target"
def leaveK (lo : Nat) (B : Tab) (rc : RC) (fn : Func) (n : Nat) (e : T Value) (ds : List Deferred) (h : T AObj) (nx : Nat) (k : KV) : R :=
  match ds with
  | [] => resultsK B n e h fn.results.toList fun vs => k (oneOf vs) h nx
  | ds => defersK lo B rc 50 ds h nx fun h nx => resultsK B n e h fn.results.toList fun vs => k (oneOf vs) h nx
def bodyK (lo : Nat) (B : Tab) (rc : RC) (f : FuncId) (args : List Value) (h : T AObj) (nx : Nat) (k : KV) : R :=
  onFn B f fun fn => Option.casesOn fn.body (externK B f fn args h nx k) fun c =>
    forceN (maxN fn.ntmps args.length) fun n => forceN (depthFor n) fun d => rc ⟨n, none, false, lo⟩ c (T.putList args (T.const undef d) 0) [] h nx fun x e ds h nx =>
      AExit.casesOn x (leaveK lo B rc fn n e ds h nx k) (leaveK lo B rc fn n e ds h nx k) (fun _ => failR "exit out of a function")

/-- all outcomes of a tree of choices -/
def outcomes : R → Option (List Out)
  | .fail _ => none
  | .ret a => some [a]
  | .ask n k => List.rec (motive := fun _ => Option (List Out)) (some []) (fun j _ acc => match outcomes (k j), acc with | some l, some m => some (l ++ m) | _, _ => none) (List.range n)

/-- the cells that a result is made of, where it is a slice of its own and a plain value -/
def contentOf (nx : Nat) (o : Out) : Option (TypeId × Nat × List Value × Option Value) :=
  match o.v with
  | .tuple ⟨[.slice (some ⟨id, 0, none⟩) len cap, x]⟩ => match o.h.get id with
    | .cells t _ sz e lo hi true => if Nat.beq len cap && clo x && Nat.ble nx id && Nat.beq lo 0 && Nat.beq hi 0 then some (e, len, t.list sz 0, some x) else none
    | _ => none
  | .slice (some ⟨id, 0, none⟩) len cap => match o.h.get id with
    | .cells t _ sz e lo hi true => if Nat.beq len cap && Nat.ble nx id && Nat.beq lo 0 && Nat.beq hi 0 then some (e, len, t.list sz 0, none) else none
    | _ => none
  | _ => none

def beqO (a b : Option Value) : Bool := match a, b with | none, none => true | some x, some y => beqV x y | _, _ => false
def sameOut (a b : TypeId × Nat × List Value × Option Value) : Bool :=
  match a, b with
  | (e, n, l, x), (f, m, r, y) => Nat.beq e f && Nat.beq n m && beqVs l r && beqO x y
def agreed (nx : Nat) : List Out → Option (TypeId × Nat × List Value × Option Value)
  | [] => none
  | [o] => contentOf nx o
  | o :: r => match contentOf nx o, agreed nx r with
    | some a, some b => if sameOut a b then some b else none
    | _, _ => none
/-- a call whose outcome is laid anew: a slice of plain cells, and a plain value beside it -/
def isoK (B : Tab) (rc : RC) (f : FuncId) (args : List Value) (h : T AObj) (nx : Nat) (k : KV) : R :=
  onO (outcomes (bodyK nx B rc f args h nx fun v h nx => .ret ⟨v, h, nx⟩)) "iso" fun l => onO (agreed nx l) "iso: outcomes" fun q => match q with
    | (e, n, cs, none) => iteR (allAtom cs) (newCellsK cs e true h nx fun id h nx => k (.slice (some ⟨id, 0, none⟩) n n) h nx) (failR "iso: cells")
    | (e, n, cs, some x) => iteR (allAtom cs) (newCellsK cs e true h nx fun id h nx => k (.tuple ⟨[.slice (some ⟨id, 0, none⟩) n n, x]⟩) h nx) (failR "iso: cells")
/-- equality of cells, objects; the post's objects are put into the heap -/
def intB (b : Value) : IntKind → Int → Bool := selValue (γ := IntKind → Int → Bool) b (fun _ _ _ => false) (fun l n k m => Bool.and (Nat.beq (kindNo k) (kindNo l)) (eqK m n)) (fun _ _ _ _ => false) (fun _ _ _ _ _ => false) (fun _ _ _ => false) (fun _ _ _ => false) (fun _ _ _ _ _ => false) (fun _ _ _ => false) (fun _ _ _ => false) (fun _ _ _ _ _ => false) (fun _ _ => false) (fun _ _ _ _ => false) (fun _ _ => false) (fun _ _ _ => false) (fun _ _ _ => false)
def beqV1s : List Value → List Value → Bool
  | [], [] => true
  | a :: x, b :: y => beqV1 a b && beqV1s x y
  | _, _ => false
def beqSlow (a b : Value) : Bool :=
  match a, b with
  | .tuple x, .tuple y => beqV1s x.toList y.toList
  | _, _ => false
def beqC (a : Value) : Value → Bool := selValue (γ := Value → Bool) a (fun x b => beqV (.bool x) b) (fun k m b => intB b k m) (fun _ _ _ => false) (fun _ _ _ _ => false) (fun s b => beqV (.string s) b) (fun p b => beqV (.pointer p) b) (fun p l c b => beqV (.slice p l c) b) (fun m b => beqV (.map m) b) (fun _ _ => false) (fun _ _ _ _ => false) (fun b => beqV .nilFunc b) (fun t v b => beqV1 (.iface t v) b) (fun b => beqV .nilIface b) (fun cs b => beqV1 (.agg cs) b) (fun cs b => beqSlow (.tuple cs) b)
def beqCs : List Value → List Value → Bool
  | [], [] => true
  | a :: x, b :: y => beqC a b && beqCs x y
  | _, _ => false
def beqEs : List MapEntry → List MapEntry → Bool
  | [], [] => true
  | a :: x, b :: y => beqC a.key b.key && beqC a.val b.val && Nat.beq a.born b.born && beqEs x y
  | _, _ => false
def beqB (a b : Bool) : Bool := Bool.rec (Bool.not b) b a
def beqObj (a b : AObj) : Bool :=
  match a, b with
  | .dead, .dead => true
  | .cells t d n e lo hi sl, .cells t' d' n' e' lo' hi' sl' => Nat.beq d d' && Nat.beq n n' && Nat.beq e e' && Nat.beq lo lo' && Nat.beq hi hi' && beqB sl sl' && beqTG beqC t t'
  | .map es c, .map es' c' => Nat.beq c c' && beqEs es es'
  | _, _ => false
def liveB : AObj → Bool
  | .dead => false
  | _ => true
def preB (h : T AObj) : List (Nat × AObj) → Bool
  | [] => true
  | (id, o) :: r => Nat.blt id 16384 && liveB o && beqObj (h.get id) o && preB h r
def inB (id : Nat) : List (Nat × AObj) → Bool
  | [] => false
  | (j, _) :: r => Nat.beq j id || inB id r
def postB (nx nx1 : Nat) (pre : List (Nat × AObj)) (h : T AObj) : List (Nat × AObj) → Bool
  | [] => true
  | (id, o) :: r => Nat.blt id nx1 && (Nat.ble nx id || inB id pre) && beqObj (h.get id) o && postB nx nx1 pre h r
def keepB (post : List (Nat × AObj)) (h : T AObj) : List (Nat × AObj) → Bool
  | [] => true
  | (id, o) :: r => (inB id post || beqObj (h.get id) o) && keepB post h r
def goodOut (nx : Nat) (E : Entry) (o : Out) : Bool := beqC E.v o.v && Nat.beq o.nx E.nx && postB nx o.nx E.pre o.h E.post && keepB E.post o.h E.pre
def putObjs : List (Nat × AObj) → T AObj → T AObj
  | [], h => h
  | (id, o) :: r, h => T.set o (putObjs r h) id
def useK (lo : Nat) (E : Entry) (args : List Value) (h : T AObj) (k : KV) : R :=
  iteR (Nat.beq lo 10 && beqCs E.args args) (iteR (preB h E.pre) (forceN E.nx fun nx => k E.v (putObjs E.post h) nx) (failR "oracle: objects")) (failR "oracle: arguments")
def callK (lo : Nat) (B : Tab) (rc : RC) (f : FuncId) (args : List Value) (h : T AObj) (nx : Nat) (k : KV) : R :=
  Option.casesOn (B.memo f) (Option.casesOn (B.orac f nx) (iteR (B.iso f) (isoK B rc f args h nx k) (bodyK lo B rc f args h nx k)) fun E => useK lo E args h k) fun v => List.casesOn args (k v h nx) (fun _ _ => failR "memo")

/-- does a run give what the entry says? -/
def checkB (B : Tab) (rc : RC) (f : FuncId) (nx : Nat) (E : Entry) : Bool :=
  match outcomes (bodyK 10 B rc f E.args (putObjs E.pre (T.const .dead 14)) nx fun v h nx => .ret ⟨v, h, nx⟩) with
  | some l => l.all (goodOut nx E)
  | none => false

/-- one round of a range over a function -/
def putParams : List Tmp → List Value → Nat → T Value → (T Value → R) → R
  | [], [], _, e, k => k e
  | p :: ps, v :: vs, n, e, k => iteR (Nat.blt p n) (putParams ps vs n (T.set v e p) k) (failR "yield")
  | _, _, _, _, _ => failR "yield"
def jumpOf : AExit → Option Code
  | .normal => none
  | .ret => some .ret
  | .exit id => some (.exit id)
def onLoop (h : T AObj) (l : Nat) (k : LoopState → Option Code → Nat → T Value → List Tmp → Code → Code → Nat → R) : R :=
  AObj.casesOn (h.get l) (failR "loop") (fun _ _ _ _ _ _ _ => failR "loop") (fun _ _ => failR "loop") (fun _ _ => failR "loop") (fun _ _ _ _ => failR "loop") k (fun _ => failR "loop")
def isReady : LoopState → Bool | .ready => true | _ => false
def isBusy : LoopState → Bool | .busy => true | _ => false
def isNormal : AExit → Bool | .normal => true | _ => false
def roundK (lo : Nat) (rc : RC) (l : Nat) (args : List Value) (h : T AObj) (nx : Nat) (k : KV) : R :=
  iteR (Nat.blt l lo) (failR "old") <| onLoop h l fun st _ n env params assign body _ => iteR (isReady st) (putParams params args n env fun e =>
    rc ⟨n, some l, false, lo⟩ assign e [] h nx fun x e ds h nx => iteR (isNormal x && ds.isEmpty) (onLoop h l fun st pend n' env params' assign' body' d => iteR (isReady st)
      (rc ⟨n, some l, false, lo⟩ body e [] (T.set (.loop .busy pend n' env params' assign' body' d) h l) nx fun x _ _ h nx =>
        onLoop h l fun _ _ n env params assign body d => k (.bool (isNormal x)) (T.set (.loop (if isNormal x then .ready else .done) (jumpOf x) n env params assign body d) h l) nx)
      (failR "yield: not ready")) (failR "assign")) (failR "yield: not ready")

/-! an operation -/
abbrev HF := Act0 → T Value → List Deferred → T AObj → Nat → KF → R
abbrev KD := Value → List Deferred → T AObj → Nat → R
abbrev HV := Act0 → T Value → List Deferred → T AObj → Nat → KD → R
def vH (x : H) : HV := fun a e ds h nx k => x a e h nx fun v h nx => k v ds h nx
def vCall (B : Tab) (rc : RC) (c : Call) : HV := fun a e ds h nx k =>
  match c.callee with
  | .value f => evalK a.n e f fun fv => evalsK a.n e c.args.toList fun vs => match fv with
    | .func (.func g) first captured => callK a.lo B rc g (first.toList ++ vs ++ captured.toList) h nx fun v h nx => k v ds h nx
    | .func (.yield l) first _ => roundK a.lo rc l (first.toList ++ vs) h nx fun v h nx => k v ds h nx
    | _ => failR "callee"
  | .builtin b => vH (hBuiltin B b c) a e ds h nx k
  | _ => failR "callee"
def vDefer (c : Call) : HV := fun a e ds h nx k =>
  match c.callee, a.round with
  | .value f, none => evalK a.n e f fun fv => evalsK a.n e c.args.toList fun vs => match fv with
    | .func (.func g) first captured => k undef (⟨.fn (.func g) captured, ⟨first.toList ++ vs⟩⟩ :: ds) h nx
    | _ => failR "defer"
  | _, _ => failR "defer"
def vNone : HV := fun _ _ _ _ _ _ => failR "op"

def opV (B : Tab) (rc : RC) (op : Op) : HV :=
  selOp (γ := Tab → RC → HV) op
    (fun x _ _ => vH (hMove x))
    (fun x _ _ => vH (hMove x))
    (fun c x y _ _ => vH (hPick c x y))
    (fun t B _ => vH (hAlloc B t))
    (fun t x _ _ => vH (hBox t x))
    (fun t ps B _ => vH (hBuild B t ps))
    (fun t l ps B _ => vH (hBuildSlice B t l ps))
    (fun t m y x B _ => vH (hMapUpdate B t m y x))
    (fun t x B _ => vH (hLoad B t x))
    (fun t p x B _ => vH (hStore B t p x))
    (fun _ _ _ => vNone)
    (fun _ _ _ => vNone)
    (fun x _ _ => vH (hNilCheck x))
    (fun o t x y _ B _ => vH (hBin B o t x y))
    (fun o _ x _ _ => vH (hUn o x))
    (fun s d x B _ => vH (hConvert B s d x))
    (fun _ _ _ _ => vNone)
    (fun t x B _ => vH (hMakeInterface B t x))
    (fun f x y _ _ => vH (hMakeFunc f x y))
    (fun _ r _ _ => vH (hMakeMap r))
    (fun _ _ _ _ => vNone)
    (fun t l c B _ => vH (hMakeSlice B t l c))
    (fun t x lo hi mx B _ => vH (hSlice B t x lo hi mx))
    (fun t x i B _ => vH (hFieldAddr B t x i))
    (fun t x i B _ => vH (hField B t x i))
    (fun t x y B _ => vH (hIndexAddr B t x y))
    (fun t x y B _ => vH (hIndex B t x y))
    (fun t x y ok B _ => vH (hLookup B t x y ok))
    (fun t m y x B _ => vH (hMapUpdate B t m y x))
    (fun t m y B _ => vH (hMapEntry B t m y))
    (fun _ m s x _ _ => vH (hEntryStore m s x))
    (fun t x B _ => vH (hRange B t x))
    (fun it s _ _ => vH (hNext it s))
    (fun x _ _ => vH (hEntry x))
    (fun x _ u ok B _ => vH (hTypeAssert B x u ok))
    (fun x i _ _ => vH (hExtract x i))
    (fun c B rc => vCall B rc c)
    (fun _ _ _ => vNone)
    (fun c _ _ => vDefer c)
    (fun _ _ _ => vNone)
    (fun _ _ _ _ => vNone)
    (fun _ _ _ _ _ => vNone)
    (fun _ _ _ _ => vNone) B rc
def opK (B : Tab) (rc : RC) (dst : Option Tmp) (op : Op) : HF := fun a e ds h nx k => opV B rc op a e ds h nx fun v ds h nx => put a.n e dst v fun e => k e ds h nx

/-- is the operation carried out? -/
def guardSome (q : Nat × Bool) (n : Nat) (e : T Value) (ops : Array Oper) (yes no : R) : R := Prod.casesOn q fun j want => onO (ops.toList[j]?) "guard" fun o => onO o.dst "guard" fun t => onTmp n e t fun v => match v with
    | .bool b => iteR (Bool.rec (Bool.not want) want b) yes no
    | _ => no
def guardK (n : Nat) (e : T Value) (ops : Array Oper) (g : Option (Nat × Bool)) (yes no : R) : R :=
  Option.casesOn (motive := fun _ => Nat → T Value → Array Oper → R → R → R) g (fun _ _ _ yes _ => yes) guardSome n e ops yes no
def operK (B : Tab) (rc : RC) (ops : Array Oper) (o : Oper) : HF := fun a e ds h nx k =>
  guardK a.n e ops o.guard (opK B rc o.dst o.op a e ds h nx k) (put a.n e o.dst undef fun e => k e ds h nx)

/-! regions -/
def opsK (B : Tab) (rc : RC) (ops : Array Oper) : List Oper → HF
  | [] => fun _ e ds h nx k => k e ds h nx
  | o :: r => fun a e ds h nx k => operK B rc ops o a e ds h nx fun e ds h nx => opsK B rc ops r a e ds h nx k

/-- an operation, and the reads that are looked at again behind it -/
inductive PStep where
  | step (o : Oper) (again : List Oper)

inductive Kind where | pure | read | heavy
def kindOf (op : Op) : Kind :=
  match op with
  | .move _ => .pure | .assign _ => .pure | .pick .. => .pure | .alloc _ => .pure | .box .. => .pure | .build .. => .pure | .buildSlice .. => .pure
  | .nilCheck _ => .pure | .binOp .. => .pure | .unOp .. => .pure | .makeInterface .. => .pure | .makeFunc .. => .pure | .makeMap .. => .pure | .makeSlice .. => .pure
  | .fieldAddr .. => .pure | .field .. => .pure | .indexAddr .. => .pure | .index .. => .pure | .typeAssert .. => .pure | .extract .. => .pure
  | .load .. => .read | .convert .. => .read | .slice .. => .read | .lookup .. => .read | .entry _ => .read
  | .call c => match c.callee with
    | .builtin .min => .pure
    | .builtin .max => .pure
    | .builtin .cap => .pure
    | .builtin .unsafeSliceData => .pure
    | .builtin .len => .read
    | _ => .heavy
  | _ => .heavy
def isHeavy (o : Oper) : Bool := match kindOf o.op with | .heavy => true | _ => false
def isRead (o : Oper) : Bool := match kindOf o.op with | .read => true | _ => false

def masks : List Oper → List Nat → List Nat
  | [], acc => acc
  | o :: r, acc => masks r (acc ++ [o.after.toList.foldl (fun s e => if Region.binds .any e then Nat.lor (Nat.lor s (Nat.shiftLeft 1 e.on)) (acc[e.on]?.getD 0) else s) 0])
def bitAt (m i : Nat) : Bool := Nat.beq (Nat.mod (Nat.shiftRight m i) 2) 1
def readyO (done : Nat) (o : Oper) : Bool := o.after.toList.all fun e => !(Region.binds .any e) || bitAt done e.on

def memN (t : Nat) (l : List Nat) : Bool := l.any (Nat.beq t)
def tmpsOf (l : List Operand) : List Nat := l.filterMap fun x => match x with | .tmp t => some t | _ => none
/-- the temporaries that an operation looks at -/
def looks (ops : List Oper) (o : Oper) : List Nat := tmpsOf o.op.operands.toList ++ (match o.guard with | some (j, _) => (match (ops[j]?).bind (·.dst) with | some d => [d] | none => []) | none => [])
def isDst (d : Nat) : Option Nat → Bool
  | some t => Nat.beq t d
  | none => false
def maskOf (ms : List Nat) (i : Nat) : Nat := ms[i]?.getD 0
def heavyAt (hs : List Bool) (i : Nat) : Bool := hs[i]?.getD true
/-- an operation that is carried out in its turn alone: heavy, or one that writes what an earlier one looks at -/
def lateOp (l : List (Nat × Oper)) (ops : List Oper) (ms : List Nat) (q : Nat × Oper) : Bool :=
  isHeavy q.2 || (match q.2.dst with | none => false | some d => l.any fun r => !(Nat.beq r.1 q.1) && bitAt (maskOf ms q.1) r.1 && memN d (looks ops r.2))
/-- may the two be carried out in either order, or are they ordered? -/
def apartB (ms : List Nat) (hs : List Bool) (look : List Nat) (i : Nat) (o : Oper) (j : Nat) (p : Oper) : Bool :=
  match p.dst with
  | none => true
  | some d => if Nat.beq i j then heavyAt hs i || !(memN d look) else !(isDst d o.dst) && (!(memN d look) || bitAt (maskOf ms i) j || (heavyAt hs j && bitAt (maskOf ms j) i))
def regOk (l : List (Nat × Oper)) (ops : List Oper) (ms : List Nat) (hs : List Bool) : Bool :=
  l.all (fun q => (q.2.after.toList.all fun e => !(Region.binds .any e) || Nat.blt e.on q.1) && (heavyAt hs q.1 || !(isHeavy q.2)) && (match looks ops q.2 with | look => l.all fun r => apartB ms hs look q.1 q.2 r.1 r.2))

def isFresh (o : Oper) : Bool :=
  match o.op with
  | .alloc _ => true | .box .. => true | .buildSlice .. => true | .makeMap .. => true | .makeSlice .. => true | .convert .. => true
  | _ => false
def opers (l : List (Nat × Oper)) : List Oper := l.map fun p => p.2
def lightsP (hs : List Bool) : List (Nat × Oper) → Nat → List (Nat × Oper) → List PStep × Nat × List (Nat × Oper)
  | [], done, watch => ([], done, watch)
  | (i, o) :: r, done, watch => if !(bitAt done i) && !(heavyAt hs i) && readyO done o then
      match lightsP hs r (Nat.lor done (Nat.shiftLeft 1 i)) (if isRead o then (i, o) :: watch else watch) with | (l, d, w) => (PStep.step o (if isFresh o then opers watch else []) :: l, d, w)
    else lightsP hs r done watch
def planGo (hs : List Bool) (l : List (Nat × Oper)) (ms : List Nat) : Nat → Nat → List (Nat × Oper) → Option (List PStep)
  | 0, _, _ => none
  | m + 1, done, watch => match lightsP hs l done watch with
    | (pre, done, watch) =>
      match l.filter fun p => !(bitAt done p.1) && readyO done p.2 with
      | [] => if Nat.beq done (Nat.pred (Nat.shiftLeft 1 l.length)) then some pre else none
      | [(i, o)] =>
        match watch.filter fun p => !(bitAt (maskOf ms i) p.1) with
        | watch => match planGo hs l ms m (Nat.lor done (Nat.shiftLeft 1 i)) watch with
          | some r => some (pre ++ PStep.step o (opers watch) :: r)
          | none => none
      | _ => none
def numbered : List Oper → Nat → List (Nat × Oper)
  | [], _ => []
  | o :: r, i => (i, o) :: numbered r (Nat.succ i)
def planOf (ops : Array Oper) : Option (List PStep) :=
  match numbered ops.toList 0, masks ops.toList [] with
  | l, ms => match l.map (lateOp l ops.toList ms) with
    | hs => if regOk l ops.toList ms hs then planGo hs l ms (Nat.succ ops.toList.length) 0 [] else none

/-- a conversion that lays nothing anew -/
def hConvR (B : Tab) (src dst : TypeId) (x : Operand) : H := fun a e h nx k => evalK a.n e x fun v => match v with
  | .string s => onTy B src <| onRow B dst fun d _ _ _ => match d with
    | .string => k (.string s) h nx
    | _ => failR "convert"
  | v => convK B src dst v h nx fun r h nx => k r h nx
def hRead (B : Tab) (op : Op) : H :=
  match op with
  | .load t x => hLoad B t x
  | .convert s d x => hConvR B s d x
  | .slice t x lo hi mx => hSlice B t x lo hi mx
  | .lookup t x y ok => hLookup B t x y ok
  | .entry x => hEntry x
  | .call c => bLen B c
  | _ => hNone
def againK (B : Tab) (ops : Array Oper) (a : Act0) (e : T Value) (h : T AObj) (nx : Nat) : List Oper → R → R
  | [], k => k
  | o :: r, k => guardK a.n e ops o.guard (hRead B o.op a e h nx fun v _ _ => onO o.dst "again" fun d => onTmp a.n e d fun u => iteR (beqV1 v u) (againK B ops a e h nx r k) (failR "a value has turned"))
      (againK B ops a e h nx r k)
def stepsK (B : Tab) (rc : RC) (ops : Array Oper) : List PStep → HF
  | [] => fun _ e ds h nx k => k e ds h nx
  | .step o again :: r => fun a e ds h nx k => operK B rc ops o a e ds h nx fun e ds h nx => againK B ops a e h nx again (stepsK B rc ops r a e ds h nx k)

/-! code -/
def cRegion (B : Tab) (rc : RC) (ops : Array Oper) (draw : Bool) : Act0 → T Value → List Deferred → T AObj → Nat → KE → R := fun a e ds h nx k =>
  iteR draw (onO (planOf ops) "plan" fun p => stepsK B rc ops p a e ds h nx (k .normal)) (opsK B rc ops ops.toList a e ds h nx (k .normal))
def cSeq (rc : RC) (x y : Code) (a : Act0) (e : T Value) (ds : List Deferred) (h : T AObj) (nx : Nat) (k : KE) : R :=
  rc a x e ds h nx fun z e ds h nx => AExit.casesOn z (rc a y e ds h nx k) (k .ret e ds h nx) (fun id => k (.exit id) e ds h nx)
def cCond (rc : RC) (c : Operand) (x y : Code) (a : Act0) (e : T Value) (ds : List Deferred) (h : T AObj) (nx : Nat) (k : KE) : R :=
  evalK a.n e c fun v => onBool v (rc a x e ds h nx k) (rc a y e ds h nx k)
def cBlock (rc : RC) (id : Nat) (x : Code) (a : Act0) (e : T Value) (ds : List Deferred) (h : T AObj) (nx : Nat) (k : KE) : R :=
  rc a x e ds h nx fun z e ds h nx => AExit.casesOn z (k .normal e ds h nx) (k .ret e ds h nx) (fun j => iteR (Nat.beq j id) (k .normal e ds h nx) (k (.exit j) e ds h nx))
def cLoop (rc : RC) (x : Code) (a : Act0) (e : T Value) (ds : List Deferred) (h : T AObj) (nx : Nat) (k : KE) : R :=
  rc a x e ds h nx fun z e ds h nx => AExit.casesOn z (rc a (.loop x) e ds h nx k) (k .ret e ds h nx) (fun id => k (.exit id) e ds h nx)
def loopMark (a : Act0) (h : T AObj) (nx : Nat) (k : Nat → List Deferred → T AObj → Nat → R) : R :=
  Option.casesOn a.round (newK (.defers (some [])) h nx fun b h nx => k b [⟨.collected b, #[]⟩] h nx) fun l => onLoop h l fun _ _ _ _ _ _ _ d => k d [] h nx
def cRange (B : Tab) (rc : RC) (f : Operand) (params : Array Tmp) (assign body : Code) (a : Act0) (e : T Value) (ds : List Deferred) (h : T AObj) (nx : Nat) (k : KE) : R :=
  loopMark a h nx fun d mark h nx => newK (.loop .ready none a.n e params.toList assign body d) h nx fun l h nx => evalK a.n e f fun fv => match fv with
    | .func (.func g) first captured => callK a.lo B rc g (first.toList ++ [.func (.yield l) #[] #[]] ++ captured.toList) h nx fun _ h nx =>
      iteR (Nat.blt l a.lo) (failR "old") <| onLoop h l fun st pend n env params assign body d => iteR (isBusy st) (failR "busy")
        (Option.casesOn pend (k .normal e (mark ++ ds) (T.set (.loop .exhausted pend n env params assign body d) h l) nx)
          fun c => rc a c e (mark ++ ds) (T.set (.loop .exhausted pend n env params assign body d) h l) nx k)
    | _ => failR "range: callee"
def cBad : Act0 → T Value → List Deferred → T AObj → Nat → KE → R := fun _ _ _ _ _ _ => failR "code"
def codeK (B : Tab) (rc : RC) (a : Act0) (c : Code) : T Value → List Deferred → T AObj → Nat → KE → R :=
  selCode (γ := Tab → RC → Act0 → T Value → List Deferred → T AObj → Nat → KE → R) c
    (fun _ _ _ e ds h nx k => k .normal e ds h nx) (fun _ ops draw B rc a => cRegion B rc ops draw a) (fun x y _ rc a => cSeq rc x y a) (fun c x y _ rc a => cCond rc c x y a) (fun id x _ rc a => cBlock rc id x a) (fun x _ rc a => cLoop rc x a)
    (fun f ps s b B rc a => cRange B rc f ps s b a) (fun id _ _ _ e ds h nx k => k (.exit id) e ds h nx) (fun x _ rc a => rc a x) (fun _ _ _ _ e ds h nx k => k .normal e ds h nx) (fun _ _ _ a => cBad a) (fun _ _ _ e ds h nx k => k .ret e ds h nx) (fun _ _ _ a => cBad a) B rc a

def runC (B : Tab) (n : Nat) : RC := Nat.rec (motive := fun _ => RC) (fun _ _ _ _ _ _ _ => failR "fuel") (fun _ ih => codeK B ih) n
end
end Go.Ev
