/- The abstract machine: values as trees, memory of the call's own as numbered objects, a small code that Go's code is lowered to, and what a piece of that code owes. Definitions only. -/
import Derived.Orders
import Derived.Tactics
set_option linter.unusedVariables false
set_option linter.unusedSimpArgs false
namespace Go.Avm

/-- A value as a tree: memory that is never written again is part of the tree; memory of the call's own is named by its number. -/
inductive AV where
  | int (k : IntKind) (n : Int)
  | bool (b : Bool)
  | str (s : List UInt8)
  | nilp
  | ptr (cells : List AV) (off : Nat)
  | nils
  | sl (len : Nat) (cells : List AV)
  | own (id off : Nat)
  | osl (id off len : Nat)
  | agg (cells : List AV)
  | tup (vs : List AV)
  | fn (f : FuncId) (cap : List AV)
  | raw (v : Value)
  | mref (id : Nat)
  | junk
  deriving Inhabited

inductive IA where
  | t (i : Nat)
  | v (x : AV)
  deriving Inhabited

inductive IOp where
  | mov (x : IA)
  | pick (c a b : IA)
  | bin (op : BinOp) (x y : IA)
  | eqb (n : Bool) (x y : IA)
  | eqpn (n : Bool) (x : IA)
  | eqsn (n : Bool) (x : IA)
  | not (x : IA)
  | neg (x : IA)
  | conv (k : IntKind) (x : IA)
  | b2s (x : IA)
  | nilck (x : IA)
  | fld (off : Nat) (x : IA)
  | idxA (sz : Nat) (x i : IA)
  | idxP (n sz : Nat) (x i : IA)
  | idxS (x i : IA)
  | load (n : Option Nat) (x : IA)
  | store (sz : Nat) (x v : IA)
  | len (x : IA)
  | lenS (x : IA)
  | max (x y : IA)
  | min (x y : IA)
  | slc (sz : Nat) (x : IA) (lo hi : Option IA)
  | slcS (x : IA) (lo hi : Option IA)
  | ext (x : IA) (i : Nat)
  | alloc (t : TypeId) (zero : List AV)
  | box (t : TypeId) (sz : Nat) (x : IA)
  | build (zero : List AV) (parts : List (Nat × Nat × IA))
  | bslice (t : TypeId) (sz len : Nat) (zero : List AV) (parts : List (Nat × Nat × IA))
  | mk (t : TypeId) (sz bytes : Nat) (zero : List AV) (l c : IA)
  | app (t : TypeId) (sz bytes : Nat) (s x : IA)
  | call (f : FuncId) (args : List IA)
  | callv (g : IA) (args : List IA)
  | mkfn (f : FuncId) (cap : List IA)
  | eqin (n : Bool) (x : IA)
  | mkmap (k : IntKind)
  | lkup (zero : AV) (x k : IA)
  | mapup (x k v : IA)
  deriving Inhabited

structure IStep where
  dst : Option Nat
  op : IOp
  g : Option (Nat × Bool)     -- the slot of the guard's value, and what it is to be
  deriving Inhabited

inductive IC where
  | skip
  | reg (ops : List IStep)
  | regD (ops : List (IStep × Nat))
  | seq (a b : IC)
  | cond (c : IA) (a b : IC)
  | block (id : Nat) (b : IC)
  | loop (b : IC)
  | exit (id : Nat)
  | ret
  deriving Inhabited

/-! ### Lowering -/

def constAV (v : Value) : AV := match v with
  | .int k n => .int k n
  | .bool b => .bool b
  | .string s => .str s.data.toList
  | .pointer a => match a with
    | none => .nilp
    | some _ => .raw v
  | .slice a n c => match a with
    | none => if n = 0 ∧ c = 0 then .nils else .raw v
    | some _ => .raw v
  | .float _ _ => .raw v
  | .complex _ _ _ => .raw v
  | .map _ => .raw v
  | .chan _ => .raw v
  | .func _ _ _ => .raw v
  | .nilFunc => .raw v
  | .iface _ _ => .raw v
  | .nilIface => .raw v
  | .agg _ => .raw v
  | .tuple _ => .raw v

def lowA : Operand → Option IA
  | .tmp t => some (.t t)
  | .const (.tuple _) => none
  | .const v => some (.v (constAV v))
  | .func f => some (.v (.fn f []))
  | .global _ => none

def zeroOf (P : Program) (t : TypeId) : Option (List AV) :=
  match P.info? t with
  | some i => i.zero.map fun z => z.cells.toList.map constAV
  | none => none

def zero1 (P : Program) (t : TypeId) : Option AV :=
  match P.info? t with
  | some i => match i.zero with
    | some v => match v with
      | .bool b => some (.bool b)
      | .int k n => some (.int k n)
      | _ => none
    | none => none
  | none => none

def szOf (P : Program) (t : TypeId) : Option Nat := (P.info? t).map (·.size)
def bytesOf (P : Program) (t : TypeId) : Option Nat := (P.info? t).map (·.bytes)

def isAggT (P : Program) (t : TypeId) : Option Bool :=
  match P.underlying t with
  | some (.struct _) | some (.array _ _) => some true
  | some _ => some false
  | none => none

def lowAs (xs : Array Operand) : Option (List IA) := xs.toList.mapM lowA

def lowO (x : Option Operand) : Option (Option IA) :=
  match x with
  | none => some none
  | some y => (lowA y).map some

def sliceT (P : Program) (t : TypeId) : Option TypeId :=
  match P.underlying t with
  | some d => match d with
    | .slice e => some e
    | _ => none
  | none => none
def arrayT (P : Program) (t : TypeId) : Option (Nat × TypeId) :=
  match P.underlying t with
  | some d => match d with
    | .array n e => some (n, e)
    | _ => none
  | none => none
def intT (P : Program) (t : TypeId) : Option IntKind :=
  match P.underlying t with
  | some d => match d with
    | .int k => some k
    | _ => none
  | none => none
def stringT (P : Program) (t : TypeId) : Option Unit :=
  match P.underlying t with
  | some d => match d with
    | .string => some ()
    | _ => none
  | none => none
def boolT (P : Program) (t : TypeId) : Option Unit :=
  match P.underlying t with
  | some d => match d with
    | .bool => some ()
    | _ => none
  | none => none
def ptrT (P : Program) (t : TypeId) : Option TypeId :=
  match P.underlying t with
  | some d => match d with
    | .pointer e => some e
    | _ => none
  | none => none
def ifaceT (P : Program) (t : TypeId) : Option Unit :=
  match P.underlying t with
  | some d => match d with
    | .interface _ => some ()
    | _ => none
  | none => none
def mapT (P : Program) (t : TypeId) : Option (TypeId × TypeId) :=
  match P.underlying t with
  | some d => match d with
    | .map k e => some (k, e)
    | _ => none
  | none => none
def structT (P : Program) (t : TypeId) : Option (Array Field) :=
  match P.underlying t with
  | some d => match d with
    | .struct fs => some fs
    | _ => none
  | none => none

def isNilP : Operand → Bool
  | .const v => match v with
    | .pointer a => a.isNone
    | _ => false
  | _ => false
def isNilS : Operand → Bool
  | .const v => match v with
    | .slice a n c => a.isNone && n == 0 && c == 0
    | _ => false
  | _ => false
def isNilI : Operand → Bool
  | .const v => match v with
    | .nilIface => true
    | _ => false
  | _ => false
def ok (b : Bool) : Option Unit := if b = true then some () else none

def lowEq (P : Program) (n : Bool) (op : BinOp) (t : TypeId) (x y : Operand) : Option IOp :=
  if (intT P t).isSome || (stringT P t).isSome then do pure (.bin op (← lowA x) (← lowA y))
  else if (boolT P t).isSome then do pure (.eqb n (← lowA x) (← lowA y))
  else if (ptrT P t).isSome then do
    let _ ← ok (isNilP y)
    pure (.eqpn n (← lowA x))
  else if (sliceT P t).isSome then do
    let _ ← ok (isNilS y)
    pure (.eqsn n (← lowA x))
  else if (ifaceT P t).isSome then do
    let _ ← ok (isNilI y)
    pure (.eqin n (← lowA x))
  else none
def lowBin (P : Program) (op : BinOp) (t : TypeId) (x y : Operand) : Option IOp :=
  match op with
  | .eql => lowEq P false .eql t x y
  | .neq => lowEq P true .neq t x y
  | _ => do pure (.bin op (← lowA x) (← lowA y))
def lowUn (u : UnOp) (x : Operand) : Option IOp :=
  match u with
  | .not => do pure (.not (← lowA x))
  | .neg => do pure (.neg (← lowA x))
  | _ => none
def lowConv (P : Program) (src dst : TypeId) (x : Operand) : Option IOp := do
  let x ← lowA x
  match intT P src with
  | some _ => do
    let k ← intT P dst
    pure (.conv k x)
  | none => do
    let e ← sliceT P src
    let k ← intT P e
    let _ ← ok (k == .u8)
    let _ ← stringT P dst
    pure (.b2s x)
def lowFld (P : Program) (s : TypeId) (x : Operand) (i : Nat) : Option IOp := do
  let x ← lowA x
  let fs ← structT P s
  let f ← fs[i]?
  let sz ← szOf P f.type
  let _ ← ok (sz != 0)
  pure (.fld f.offset x)
def lowIdx (P : Program) (t : TypeId) (x i : Operand) : Option IOp := do
  let x ← lowA x
  let i ← lowA i
  match sliceT P t with
  | some e => do
    let sz ← szOf P e
    pure (.idxA sz x i)
  | none => do
    let ne ← arrayT P t
    let _ ← ok (1 < ne.1)
    let sz ← szOf P ne.2
    pure (.idxP ne.1 sz x i)
def lowLoad (P : Program) (t : TypeId) (x : Operand) : Option IOp := do
  let x ← lowA x
  let b ← isAggT P t
  if b = true then do
    let sz ← szOf P t
    pure (.load (some sz) x)
  else pure (.load none x)
def lowSlice (P : Program) (t : TypeId) (x : Operand) (lo hi mx : Option Operand) : Option IOp := do
  let x ← lowA x
  let lo ← lowO lo
  let hi ← lowO hi
  let _ ← ok mx.isNone
  match sliceT P t with
  | some e => do
    let sz ← szOf P e
    pure (.slc sz x lo hi)
  | none => do
    let _ ← stringT P t
    pure (.slcS x lo hi)
def lowParts (place : Nat → Option (Nat × Nat)) (parts : Array (Nat × Operand)) : Option (List (Nat × Nat × IA)) :=
  parts.toList.mapM fun (p : Nat × Operand) => (place p.1).bind fun q => (lowA p.2).map fun x => (q.1, q.2, x)
def lowBuild (P : Program) (t : TypeId) (parts : Array (Nat × Operand)) : Option IOp := do
  let fs ← structT P t
  let places ← fs.toList.mapM fun f => (P.info? f.type).map fun i => (f.offset, i.size)
  let ps ← lowParts (places.toArray[·]?) parts
  let z ← zeroOf P t
  pure (.build z ps)
def lowBslice (P : Program) (t : TypeId) (len : Nat) (parts : Array (Nat × Operand)) : Option IOp := do
  let e ← sliceT P t
  let sz ← szOf P e
  let z ← zeroOf P e
  let _ ← ok (z.length == sz && len * sz ≤ 16777216 && len ≤ 16777216)
  let ps ← lowParts (fun i => some (i * sz, sz)) parts
  pure (.bslice e sz len z ps)
def lowMake (P : Program) (t : TypeId) (l c : Operand) : Option IOp := do
  let e ← sliceT P t
  let sz ← szOf P e
  let by_ ← bytesOf P e
  let z ← zeroOf P e
  let _ ← ok (by_ != 0 && z.length == sz)
  let l ← lowA l
  let c ← lowA c
  pure (.mk e sz by_ z l c)
def one? (xs : Array Operand) : Option Operand := match xs.toList with
  | [x] => some x
  | _ => none
def two? (xs : Array Operand) : Option (Operand × Operand) := match xs.toList with
  | [x, y] => some (x, y)
  | _ => none
def lowLen (P : Program) (args : Array Operand) (ts : Array TypeId) : Option IOp := do
  let x ← one? args
  let t ← ts[0]?
  let _ ← ok (ts.size == 1)
  let x ← lowA x
  match sliceT P t with
  | some _ => pure (.len x)
  | none => do
    let _ ← stringT P t
    pure (.lenS x)
def lowApp (P : Program) (args : Array Operand) (ts : Array TypeId) : Option IOp := do
  let xy ← two? args
  let t ← ts[0]?
  let _ ← ok (ts == #[t, t])
  let e ← sliceT P t
  let sz ← szOf P e
  let by_ ← bytesOf P e
  let z ← zeroOf P e
  let _ ← ok (by_ != 0 && z.length == sz)
  let s ← lowA xy.1
  let x ← lowA xy.2
  pure (.app e sz by_ s x)
def lowBuiltin (P : Program) (b : Builtin) (args : Array Operand) (ts : Array TypeId) : Option IOp :=
  match b with
  | .len => lowLen P args ts
  | .append => lowApp P args ts
  | .max => do
    let xy ← two? args
    let x ← lowA xy.1
    let y ← lowA xy.2
    pure (.max x y)
  | .min => do
    let xy ← two? args
    let x ← lowA xy.1
    let y ← lowA xy.2
    pure (.min x y)
  | _ => none
def lowCallee (P : Program) (f : Operand) (args : Array Operand) : Option IOp :=
  match f with
  | .func f => do
    let fn ← P.funcs[f]?
    let _ ← ok (!(fn.name == "runtime.NumGoroutine") && !fn.body.isNone)
    let as ← lowAs args
    pure (.call f as)
  | .tmp t => do
    let as ← lowAs args
    pure (.callv (.t t) as)
  | _ => none
def lowCall (P : Program) (c : Call) : Option IOp :=
  match c.callee with
  | .builtin b => lowBuiltin P b c.args c.argTypes
  | .value f => lowCallee P f c.args
  | .invoke _ _ => none
def lowFn (fn : Fn) (first cap : Array Operand) : Option IOp :=
  match fn with
  | .func f => do
    let _ ← ok (first.size == 0)
    let cs ← lowAs cap
    pure (.mkfn f cs)
  | _ => none

def lowMkmap (P : Program) (t : TypeId) (r : Option Operand) : Option IOp := do
  let _ ← ok r.isNone
  let ke ← mapT P t
  let k ← intT P ke.1
  pure (.mkmap k)
def lowLkup (P : Program) (t : TypeId) (x k : Operand) (c : Bool) : Option IOp := do
  let x ← lowA x
  let k ← lowA k
  let _ ← ok (!c)
  let ke ← mapT P t
  let _ ← intT P ke.1
  let z ← zero1 P ke.2
  pure (.lkup z x k)
def lowMapup (P : Program) (t : TypeId) (x k v : Operand) : Option IOp := do
  let x ← lowA x
  let k ← lowA k
  let v ← lowA v
  let ke ← mapT P t
  let _ ← intT P ke.1
  pure (.mapup x k v)
def lowOp (P : Program) (o : Op) : Option IOp :=
  match o with
  | .move x => do
    let x ← lowA x
    pure (.mov x)
  | .assign x => do
    let x ← lowA x
    pure (.mov x)
  | .pick c a b => do
    let c ← lowA c
    let a ← lowA a
    let b ← lowA b
    pure (.pick c a b)
  | .binOp op t x y _ => lowBin P op t x y
  | .unOp u _ x => lowUn u x
  | .convert src dst x => lowConv P src dst x
  | .nilCheck x => do
    let x ← lowA x
    pure (.nilck x)
  | .fieldAddr s x f => lowFld P s x f
  | .indexAddr t x i => lowIdx P t x i
  | .index t x i => do
    let x ← lowA x
    let i ← lowA i
    let _ ← stringT P t
    pure (.idxS x i)
  | .load t x => lowLoad P t x
  | .store t x v => do
    let x ← lowA x
    let v ← lowA v
    let sz ← szOf P t
    pure (.store sz x v)
  | .slice t x lo hi mx => lowSlice P t x lo hi mx
  | .extract x i => do
    let x ← lowA x
    pure (.ext x i)
  | .alloc t => do
    let z ← zeroOf P t
    pure (.alloc t z)
  | .box t x => do
    let sz ← szOf P t
    let x ← lowA x
    pure (.box t sz x)
  | .build t parts => lowBuild P t parts
  | .buildSlice t len parts => lowBslice P t len parts
  | .makeSlice t l c => lowMake P t l c
  | .call c => lowCall P c
  | .makeFunc fn first cap => lowFn fn first cap
  | .makeMap t r => lowMkmap P t r
  | .lookup t x k c => lowLkup P t x k c
  | .mapUpdate t x k v => lowMapup P t x k v
  | _ => none

def lowOper (P : Program) (ops : Array Oper) (o : Oper) : Option IStep := do
  let op ← lowOp P o.op
  match o.guard with
  | none => pure { dst := o.dst, op, g := none }
  | some (j, b) => do pure { dst := o.dst, op, g := some (← (ops[j]?).bind (·.dst), b) }

/-! ### Regions whose order is drawn: one order that is told, and why the others tell the same -/
def IA.rd : IA → List Nat
  | .t i => [i]
  | .v _ => []
def rdO : Option IA → List Nat
  | none => []
  | some x => x.rd
/-- The slots that an operation reads. -/
def IOp.rds : IOp → List Nat
  | .mov x => x.rd
  | .pick c a b => c.rd ++ a.rd ++ b.rd
  | .bin _ x y => x.rd ++ y.rd
  | .eqb _ x y => x.rd ++ y.rd
  | .eqpn _ x => x.rd
  | .eqsn _ x => x.rd
  | .not x => x.rd
  | .neg x => x.rd
  | .conv _ x => x.rd
  | .b2s x => x.rd
  | .nilck x => x.rd
  | .fld _ x => x.rd
  | .idxA _ x i => x.rd ++ i.rd
  | .idxP _ _ x i => x.rd ++ i.rd
  | .idxS x i => x.rd ++ i.rd
  | .load _ x => x.rd
  | .store _ x v => x.rd ++ v.rd
  | .len x => x.rd
  | .lenS x => x.rd
  | .max x y => x.rd ++ y.rd
  | .min x y => x.rd ++ y.rd
  | .slc _ x lo hi => x.rd ++ rdO lo ++ rdO hi
  | .slcS x lo hi => x.rd ++ rdO lo ++ rdO hi
  | .ext x _ => x.rd
  | .alloc _ _ => []
  | .box _ _ x => x.rd
  | .build _ ps => ps.flatMap fun p => p.2.2.rd
  | .bslice _ _ _ _ ps => ps.flatMap fun p => p.2.2.rd
  | .mk _ _ _ _ l c => l.rd ++ c.rd
  | .app _ _ _ s x => s.rd ++ x.rd
  | .call _ args => args.flatMap IA.rd
  | .callv g args => g.rd ++ args.flatMap IA.rd
  | .mkfn _ cap => cap.flatMap IA.rd
  | .eqin _ x => x.rd
  | .mkmap _ => []
  | .lkup _ x k => x.rd ++ k.rd
  | .mapup x k v => x.rd ++ k.rd ++ v.rd
def IStep.rds (o : IStep) : List Nat := (match o.g with
  | none => []
  | some g => [g.1]) ++ o.op.rds
/-- 0: hangs on no memory of the call's own; 1: reads; 2: makes; 3: writes. -/
def kindOf (loud : Bool) : IOp → Nat
  | .call _ _ => if loud = true then 3 else 0
  | .bslice _ _ _ _ _ => 0
  | .alloc _ _ => 2
  | .box _ _ _ => 2
  | .mk _ _ _ _ _ _ => 2
  | .store _ _ _ => 3
  | .app _ _ _ _ _ => 3
  | .callv _ _ => 0
  | .mkmap _ => 4
  | .mapup _ _ _ => 4
  | .lkup _ _ _ => 4
  | _ => 1
def loudF (P : Program) (f : FuncId) : Bool := match P.funcs[f]? with
  | some fn => fn.name == ("victualler".push (Char.ofNat 47)) ++ "mat.reduced"
  | none => true
def loudOp (P : Program) : IOp → Bool
  | .call f _ => loudF P f
  | _ => false
def edgesOf (ops : Array Oper) : List (List Nat) := ops.toList.map fun o => (o.after.toList.filter fun e => Region.binds .any e).map (·.on)

/-! Numbers and lists of them, reckoned out before what follows. -/
def frcN {α : Type} (n : Nat) (k : Nat → α) : α := match n with
  | 0 => k 0
  | m + 1 => k (m + 1)
def frcB {α : Type} (b : Bool) (k : Bool → α) : α := match b with
  | true => k true
  | false => k false
def frcL {α : Type} : List Nat → (List Nat → α) → α
  | [], k => k []
  | x :: l, k => frcN x fun x => frcL l fun l => k (x :: l)
def frcLL {α : Type} : List (List Nat) → (List (List Nat) → α) → α
  | [], k => k []
  | x :: l, k => frcL x fun x => frcLL l fun l => k (x :: l)
def frcO {α : Type} (o : Option Nat) (k : Option Nat → α) : α := match o with
  | none => k none
  | some n => frcN n fun n => k (some n)
theorem frcN_eq {α : Type} (n : Nat) (k : Nat → α) : frcN n k = k n := by cases n <;> rfl
theorem frcB_eq {α : Type} (n : Bool) (k : Bool → α) : frcB n k = k n := by cases n <;> rfl
theorem frcO_eq {α : Type} (n : Option Nat) (k : Option Nat → α) : frcO n k = k n := by cases n <;> simp [frcO, frcN_eq]
theorem frcL_eq {α : Type} : ∀ (l : List Nat) (k : List Nat → α), frcL l k = k l
  | [], _ => rfl
  | x :: l, k => by simp only [frcL, frcN_eq, frcL_eq l]
theorem frcLL_eq {α : Type} : ∀ (l : List (List Nat)) (k : List (List Nat) → α), frcLL l k = k l
  | [], _ => rfl
  | x :: l, k => by simp only [frcLL, frcL_eq, frcLL_eq l]

def memN (a : Nat) : List Nat → Bool
  | [] => false
  | b :: l => match Nat.beq a b with
    | true => true
    | false => memN a l
theorem memN_iff {a : Nat} : ∀ {l : List Nat}, memN a l = true ↔ a ∈ l
  | [] => by simp [memN]
  | b :: l => by
    simp only [memN, List.mem_cons]
    cases h : Nat.beq a b with
    | true => simp [Nat.beq_eq.mp h]
    | false =>
      have : a ≠ b := fun e => by subst e; rw [Nat.beq_refl] at h; cases h
      simp [this, memN_iff]
def addAll : List Nat → List Nat → List Nat
  | [], out => out
  | x :: l, out => match memN x out with
    | true => addAll l out
    | false => addAll l (x :: out)
def ancOf (acc : List (List Nat)) : List Nat → List Nat → List Nat
  | [], out => out
  | e :: es, out => ancOf acc es (addAll (e :: acc.getD e []) out)
def ancs {α : Type} : List (List Nat) → List (List Nat) → (List (List Nat) → α) → α
  | [], acc, k => k acc
  | es :: rest, acc, k => frcL (ancOf acc es []) fun a => ancs rest (acc ++ [a]) k

/-- What of an operation matters here: its class, where its value goes, what it reads, whether it makes. -/
structure Inf where
  c : Nat
  d : Option Nat
  r : List Nat
  m : Bool
def frcI {α : Type} : List Inf → (List Inf → α) → α
  | [], k => k []
  | ⟨c, d, r, m⟩ :: l, k => frcN c fun c => frcO d fun d => frcL r fun r => frcB m fun m => frcI l fun l => k (⟨c, d, r, m⟩ :: l)
theorem frcI_eq {α : Type} : ∀ (l : List Inf) (k : List Inf → α), frcI l k = k l
  | [], _ => rfl
  | ⟨c, d, r, m⟩ :: l, k => by simp only [frcI, frcN_eq, frcO_eq, frcL_eq, frcB_eq, frcI_eq l]
def unord (an : List (List Nat)) (i j : Nat) : Bool := !memN j (an.getD i []) && !memN i (an.getD j [])
def anyUpTo (p : Nat → Bool) : Nat → Bool
  | 0 => false
  | n + 1 => match p n with
    | true => true
    | false => anyUpTo p n
def classOf (an : List (List Nat)) (ks : List Nat) (n i : Nat) : Nat :=
  match Nat.beq (ks.getD i 4) 1 with
  | true => match anyUpTo (fun j => (Nat.beq (ks.getD j 4) 3 || (Nat.beq (ks.getD j 4) 2 && Nat.blt j i)) && unord an i j) n with
    | true => 0
    | false => 1
  | false => ks.getD i 4
def classes (an : List (List Nat)) (ks : List Nat) : List Nat := (List.range ks.length).map fun i => classOf an ks ks.length i
def nextI (es : List (List Nat)) (cl : List Nat) (done : List Nat) (c : Nat) : List Nat → Option Nat
  | [] => none
  | i :: l => match Nat.beq (cl.getD i 4) c && !memN i done && (es.getD i []).all fun e => memN e done with
    | true => some i
    | false => nextI es cl done c l
def canon (es : List (List Nat)) (cl : List Nat) (all : List Nat) : Nat → List Nat → List Nat
  | 0, done => done
  | n + 1, done => match nextI es cl done 0 all with
    | some i => frcN i fun i => canon es cl all n (done ++ [i])
    | none => match nextI es cl done 1 all with
      | some i => frcN i fun i => canon es cl all n (done ++ [i])
      | none => match nextI es cl done 2 all with
        | some i => frcN i fun i => canon es cl all n (done ++ [i])
        | none => match nextI es cl done 3 all with
          | some i => frcN i fun i => canon es cl all n (done ++ [i])
          | none => done
def hits (d : Option Nat) (l : List Nat) : Bool := match d with
  | none => false
  | some d => memN d l
def sameDst (a b : Option Nat) : Bool := match a with
  | none => false
  | some a => match b with
    | none => false
    | some b => Nat.beq a b
def apartI (a b : Inf) : Bool := !hits a.d b.r && !hits b.d a.r && !sameDst a.d b.d
def isMaker : IOp → Bool
  | .alloc _ _ => true
  | .box _ _ _ => true
  | .mk _ _ _ _ _ _ => true
  | _ => false
def infOf (os : List IStep) (cl : List Nat) (i : Nat) : Inf := ⟨cl.getD i 4, (os.getD i default).dst, (os.getD i default).rds, isMaker (os.getD i default).op⟩
def compat (a b : Inf) : Bool := (Nat.beq a.c 0 || (Nat.beq a.c 1 && (Nat.ble b.c 1 || (Nat.beq b.c 2 && b.m)))) && apartI a b
def noInf : Inf := ⟨4, none, [], false⟩
/-- The order is one; each pair that is not bound may change places. -/
def chkOrd (es an : List (List Nat)) (inf : List Inf) (n : Nat) : List Nat → List Nat → Bool
  | _, [] => true
  | pre, i :: rest => !memN i pre && Nat.blt i n && (es.getD i []).all (fun e => memN e pre) &&
      rest.all (fun j => memN i (an.getD j []) || compat (inf.getD i noInf) (inf.getD j noInf)) && chkOrd es an inf n (pre ++ [i]) rest
def chkAnc (es an : List (List Nat)) : Bool := (List.range es.length).all fun j =>
  (es.getD j []).all (fun e => Nat.blt e j) && (an.getD j []).all fun a => memN a (es.getD j []) || (es.getD j []).any fun e => memN a (an.getD e [])
def chkDraw (es an : List (List Nat)) (inf : List Inf) (n : Nat) (od : List Nat) : Bool :=
  Nat.beq es.length n && Nat.beq od.length n && chkAnc es an && chkOrd es an inf n [] od
def drawIC (es : List (List Nat)) (ks : List Nat) (os : List IStep) : Option IC :=
  frcLL es fun es => frcL ks fun ks => ancs es [] fun an => frcL (classes an ks) fun cl =>
    frcI ((List.range os.length).map (infOf os cl)) fun inf => frcL (canon es cl (List.range os.length) os.length []) fun od =>
      match chkDraw es an inf os.length od with
      | true => some (.regD (od.map fun i => (os.getD i default, cl.getD i 4)))
      | false => none

def lower (P : Program) : Code → Option IC
  | .skip => some .skip
  | .region id ops draw => do
    let os ← ops.toList.mapM (lowOper P ops)
    if draw then drawIC (edgesOf ops) (os.map fun o => kindOf (loudOp P o.op) o.op) os else pure (.reg os)
  | .seq a b => do pure (.seq (← lower P a) (← lower P b))
  | .cond c a b => do pure (.cond (← lowA c) (← lower P a) (← lower P b))
  | .block id b => do pure (.block id (← lower P b))
  | .loop b => do pure (.loop (← lower P b))
  | .exit id => some (.exit id)
  | .ret => some .ret
  | _ => none

end Go.Avm
