/- Joined texts. -/
import Derived.Orders
import Derived.Tactics
/- The abstract machine: values as trees, memory of the call's own as numbered objects, a small code that Go's code is lowered to, and what a piece of that code owes. Definitions only. -/
set_option linter.unusedVariables false
set_option linter.unusedSimpArgs false
namespace Go.Avm

/-- A value as a tree: memory that is never written again is part of the tree; memory of the call's own is named by its number. -/
inductive AV where
  | int (k : IntKind) (n : Int)
  | bool (b : Bool)
  | str (s : List UInt8)
  | nilp
  | ptr (cells : List AV) (off : Nat)
  | nils
  | sl (len : Nat) (cells : List AV)
  | own (id off : Nat)
  | osl (id off len : Nat)
  | agg (cells : List AV)
  | tup (vs : List AV)
  | fn (f : FuncId) (cap : List AV)
  | raw (v : Value)
  | mref (id : Nat)
  | junk
  deriving Inhabited

inductive IA where
  | t (i : Nat)
  | v (x : AV)
  deriving Inhabited

inductive IOp where
  | mov (x : IA)
  | pick (c a b : IA)
  | bin (op : BinOp) (x y : IA)
  | eqb (n : Bool) (x y : IA)
  | eqpn (n : Bool) (x : IA)
  | eqsn (n : Bool) (x : IA)
  | not (x : IA)
  | neg (x : IA)
  | conv (k : IntKind) (x : IA)
  | b2s (x : IA)
  | nilck (x : IA)
  | fld (off : Nat) (x : IA)
  | idxA (sz : Nat) (x i : IA)
  | idxP (n sz : Nat) (x i : IA)
  | idxS (x i : IA)
  | load (n : Option Nat) (x : IA)
  | store (sz : Nat) (x v : IA)
  | len (x : IA)
  | lenS (x : IA)
  | max (x y : IA)
  | min (x y : IA)
  | slc (sz : Nat) (x : IA) (lo hi : Option IA)
  | slcS (x : IA) (lo hi : Option IA)
  | ext (x : IA) (i : Nat)
  | alloc (t : TypeId) (zero : List AV)
  | box (t : TypeId) (sz : Nat) (x : IA)
  | build (zero : List AV) (parts : List (Nat × Nat × IA))
  | bslice (t : TypeId) (sz len : Nat) (zero : List AV) (parts : List (Nat × Nat × IA))
  | mk (t : TypeId) (sz bytes : Nat) (zero : List AV) (l c : IA)
  | app (t : TypeId) (sz bytes : Nat) (s x : IA)
  | call (f : FuncId) (args : List IA)
  | callv (g : IA) (args : List IA)
  | mkfn (f : FuncId) (cap : List IA)
  | eqin (n : Bool) (x : IA)
  | mkmap (k : IntKind)
  | lkup (zero : AV) (x k : IA)
  | mapup (x k v : IA)
  deriving Inhabited

structure IStep where
  dst : Option Nat
  op : IOp
  g : Option (Nat × Bool)     -- the slot of the guard's value, and what it is to be
  deriving Inhabited

inductive IC where
  | skip
  | reg (ops : List IStep)
  | regD (ops : List (IStep × Nat))
  | seq (a b : IC)
  | cond (c : IA) (a b : IC)
  | block (id : Nat) (b : IC)
  | loop (b : IC)
  | exit (id : Nat)
  | ret
  deriving Inhabited

/-! ### Lowering -/

def constAV (v : Value) : AV := match v with
  | .int k n => .int k n
  | .bool b => .bool b
  | .string s => .str s.data.toList
  | .pointer a => match a with
    | none => .nilp
    | some _ => .raw v
  | .slice a n c => match a with
    | none => if n = 0 ∧ c = 0 then .nils else .raw v
    | some _ => .raw v
  | .float _ _ => .raw v
  | .complex _ _ _ => .raw v
  | .map _ => .raw v
  | .chan _ => .raw v
  | .func _ _ _ => .raw v
  | .nilFunc => .raw v
  | .iface _ _ => .raw v
  | .nilIface => .raw v
  | .agg _ => .raw v
  | .tuple _ => .raw v

def lowA : Operand → Option IA
  | .tmp t => some (.t t)
  | .const (.tuple _) => none
  | .const v => some (.v (constAV v))
  | .func f => some (.v (.fn f []))
  | .global _ => none

def zeroOf (P : Program) (t : TypeId) : Option (List AV) :=
  match P.info? t with
  | some i => i.zero.map fun z => z.cells.toList.map constAV
  | none => none

def zero1 (P : Program) (t : TypeId) : Option AV :=
  match P.info? t with
  | some i => match i.zero with
    | some v => match v with
      | .bool b => some (.bool b)
      | .int k n => some (.int k n)
      | _ => none
    | none => none
  | none => none

def szOf (P : Program) (t : TypeId) : Option Nat := (P.info? t).map (·.size)
def bytesOf (P : Program) (t : TypeId) : Option Nat := (P.info? t).map (·.bytes)

def isAggT (P : Program) (t : TypeId) : Option Bool :=
  match P.underlying t with
  | some (.struct _) | some (.array _ _) => some true
  | some _ => some false
  | none => none

def lowAs (xs : Array Operand) : Option (List IA) := xs.toList.mapM lowA

def lowO (x : Option Operand) : Option (Option IA) :=
  match x with
  | none => some none
  | some y => (lowA y).map some

def sliceT (P : Program) (t : TypeId) : Option TypeId :=
  match P.underlying t with
  | some d => match d with
    | .slice e => some e
    | _ => none
  | none => none
def arrayT (P : Program) (t : TypeId) : Option (Nat × TypeId) :=
  match P.underlying t with
  | some d => match d with
    | .array n e => some (n, e)
    | _ => none
  | none => none
def intT (P : Program) (t : TypeId) : Option IntKind :=
  match P.underlying t with
  | some d => match d with
    | .int k => some k
    | _ => none
  | none => none
def stringT (P : Program) (t : TypeId) : Option Unit :=
  match P.underlying t with
  | some d => match d with
    | .string => some ()
    | _ => none
  | none => none
def boolT (P : Program) (t : TypeId) : Option Unit :=
  match P.underlying t with
  | some d => match d with
    | .bool => some ()
    | _ => none
  | none => none
def ptrT (P : Program) (t : TypeId) : Option TypeId :=
  match P.underlying t with
  | some d => match d with
    | .pointer e => some e
    | _ => none
  | none => none
def ifaceT (P : Program) (t : TypeId) : Option Unit :=
  match P.underlying t with
  | some d => match d with
    | .interface _ => some ()
    | _ => none
  | none => none
def mapT (P : Program) (t : TypeId) : Option (TypeId × TypeId) :=
  match P.underlying t with
  | some d => match d with
    | .map k e => some (k, e)
    | _ => none
  | none => none
def structT (P : Program) (t : TypeId) : Option (Array Field) :=
  match P.underlying t with
  | some d => match d with
    | .struct fs => some fs
    | _ => none
  | none => none

def isNilP : Operand → Bool
  | .const v => match v with
    | .pointer a => a.isNone
    | _ => false
  | _ => false
def isNilS : Operand → Bool
  | .const v => match v with
    | .slice a n c => a.isNone && n == 0 && c == 0
    | _ => false
  | _ => false
def isNilI : Operand → Bool
  | .const v => match v with
    | .nilIface => true
    | _ => false
  | _ => false
def ok (b : Bool) : Option Unit := if b = true then some () else none

def lowEq (P : Program) (n : Bool) (op : BinOp) (t : TypeId) (x y : Operand) : Option IOp :=
  if (intT P t).isSome || (stringT P t).isSome then do pure (.bin op (← lowA x) (← lowA y))
  else if (boolT P t).isSome then do pure (.eqb n (← lowA x) (← lowA y))
  else if (ptrT P t).isSome then do
    let _ ← ok (isNilP y)
    pure (.eqpn n (← lowA x))
  else if (sliceT P t).isSome then do
    let _ ← ok (isNilS y)
    pure (.eqsn n (← lowA x))
  else if (ifaceT P t).isSome then do
    let _ ← ok (isNilI y)
    pure (.eqin n (← lowA x))
  else none
def lowBin (P : Program) (op : BinOp) (t : TypeId) (x y : Operand) : Option IOp :=
  match op with
  | .eql => lowEq P false .eql t x y
  | .neq => lowEq P true .neq t x y
  | _ => do pure (.bin op (← lowA x) (← lowA y))
def lowUn (u : UnOp) (x : Operand) : Option IOp :=
  match u with
  | .not => do pure (.not (← lowA x))
  | .neg => do pure (.neg (← lowA x))
  | _ => none
def lowConv (P : Program) (src dst : TypeId) (x : Operand) : Option IOp := do
  let x ← lowA x
  match intT P src with
  | some _ => do
    let k ← intT P dst
    pure (.conv k x)
  | none => do
    let e ← sliceT P src
    let k ← intT P e
    let _ ← ok (k == .u8)
    let _ ← stringT P dst
    pure (.b2s x)
def lowFld (P : Program) (s : TypeId) (x : Operand) (i : Nat) : Option IOp := do
  let x ← lowA x
  let fs ← structT P s
  let f ← fs[i]?
  let sz ← szOf P f.type
  let _ ← ok (sz != 0)
  pure (.fld f.offset x)
def lowIdx (P : Program) (t : TypeId) (x i : Operand) : Option IOp := do
  let x ← lowA x
  let i ← lowA i
  match sliceT P t with
  | some e => do
    let sz ← szOf P e
    pure (.idxA sz x i)
  | none => do
    let ne ← arrayT P t
    let _ ← ok (1 < ne.1)
    let sz ← szOf P ne.2
    pure (.idxP ne.1 sz x i)
def lowLoad (P : Program) (t : TypeId) (x : Operand) : Option IOp := do
  let x ← lowA x
  let b ← isAggT P t
  if b = true then do
    let sz ← szOf P t
    pure (.load (some sz) x)
  else pure (.load none x)
def lowSlice (P : Program) (t : TypeId) (x : Operand) (lo hi mx : Option Operand) : Option IOp := do
  let x ← lowA x
  let lo ← lowO lo
  let hi ← lowO hi
  let _ ← ok mx.isNone
  match sliceT P t with
  | some e => do
    let sz ← szOf P e
    pure (.slc sz x lo hi)
  | none => do
    let _ ← stringT P t
    pure (.slcS x lo hi)
def lowParts (place : Nat → Option (Nat × Nat)) (parts : Array (Nat × Operand)) : Option (List (Nat × Nat × IA)) :=
  parts.toList.mapM fun (p : Nat × Operand) => (place p.1).bind fun q => (lowA p.2).map fun x => (q.1, q.2, x)
def lowBuild (P : Program) (t : TypeId) (parts : Array (Nat × Operand)) : Option IOp := do
  let fs ← structT P t
  let places ← fs.toList.mapM fun f => (P.info? f.type).map fun i => (f.offset, i.size)
  let ps ← lowParts (places.toArray[·]?) parts
  let z ← zeroOf P t
  pure (.build z ps)
def lowBslice (P : Program) (t : TypeId) (len : Nat) (parts : Array (Nat × Operand)) : Option IOp := do
  let e ← sliceT P t
  let sz ← szOf P e
  let z ← zeroOf P e
  let _ ← ok (z.length == sz && len * sz ≤ 16777216 && len ≤ 16777216)
  let ps ← lowParts (fun i => some (i * sz, sz)) parts
  pure (.bslice e sz len z ps)
def lowMake (P : Program) (t : TypeId) (l c : Operand) : Option IOp := do
  let e ← sliceT P t
  let sz ← szOf P e
  let by_ ← bytesOf P e
  let z ← zeroOf P e
  let _ ← ok (by_ != 0 && z.length == sz)
  let l ← lowA l
  let c ← lowA c
  pure (.mk e sz by_ z l c)
def one? (xs : Array Operand) : Option Operand := match xs.toList with
  | [x] => some x
  | _ => none
def two? (xs : Array Operand) : Option (Operand × Operand) := match xs.toList with
  | [x, y] => some (x, y)
  | _ => none
def lowLen (P : Program) (args : Array Operand) (ts : Array TypeId) : Option IOp := do
  let x ← one? args
  let t ← ts[0]?
  let _ ← ok (ts.size == 1)
  let x ← lowA x
  match sliceT P t with
  | some _ => pure (.len x)
  | none => do
    let _ ← stringT P t
    pure (.lenS x)
def lowApp (P : Program) (args : Array Operand) (ts : Array TypeId) : Option IOp := do
  let xy ← two? args
  let t ← ts[0]?
  let _ ← ok (ts == #[t, t])
  let e ← sliceT P t
  let sz ← szOf P e
  let by_ ← bytesOf P e
  let z ← zeroOf P e
  let _ ← ok (by_ != 0 && z.length == sz)
  let s ← lowA xy.1
  let x ← lowA xy.2
  pure (.app e sz by_ s x)
def lowBuiltin (P : Program) (b : Builtin) (args : Array Operand) (ts : Array TypeId) : Option IOp :=
  match b with
  | .len => lowLen P args ts
  | .append => lowApp P args ts
  | .max => do
    let xy ← two? args
    let x ← lowA xy.1
    let y ← lowA xy.2
    pure (.max x y)
  | .min => do
    let xy ← two? args
    let x ← lowA xy.1
    let y ← lowA xy.2
    pure (.min x y)
  | _ => none
def lowCallee (P : Program) (f : Operand) (args : Array Operand) : Option IOp :=
  match f with
  | .func f => do
    let fn ← P.funcs[f]?
    let _ ← ok (!(fn.name == "runtime.NumGoroutine") && !fn.body.isNone)
    let as ← lowAs args
    pure (.call f as)
  | .tmp t => do
    let as ← lowAs args
    pure (.callv (.t t) as)
  | _ => none
def lowCall (P : Program) (c : Call) : Option IOp :=
  match c.callee with
  | .builtin b => lowBuiltin P b c.args c.argTypes
  | .value f => lowCallee P f c.args
  | .invoke _ _ => none
def lowFn (fn : Fn) (first cap : Array Operand) : Option IOp :=
  match fn with
  | .func f => do
    let _ ← ok (first.size == 0)
    let cs ← lowAs cap
    pure (.mkfn f cs)
  | _ => none

def lowMkmap (P : Program) (t : TypeId) (r : Option Operand) : Option IOp := do
  let _ ← ok r.isNone
  let ke ← mapT P t
  let k ← intT P ke.1
  pure (.mkmap k)
def lowLkup (P : Program) (t : TypeId) (x k : Operand) (c : Bool) : Option IOp := do
  let x ← lowA x
  let k ← lowA k
  let _ ← ok (!c)
  let ke ← mapT P t
  let _ ← intT P ke.1
  let z ← zero1 P ke.2
  pure (.lkup z x k)
def lowMapup (P : Program) (t : TypeId) (x k v : Operand) : Option IOp := do
  let x ← lowA x
  let k ← lowA k
  let v ← lowA v
  let ke ← mapT P t
  let _ ← intT P ke.1
  pure (.mapup x k v)
def lowOp (P : Program) (o : Op) : Option IOp :=
  match o with
  | .move x => do
    let x ← lowA x
    pure (.mov x)
  | .assign x => do
    let x ← lowA x
    pure (.mov x)
  | .pick c a b => do
    let c ← lowA c
    let a ← lowA a
    let b ← lowA b
    pure (.pick c a b)
  | .binOp op t x y _ => lowBin P op t x y
  | .unOp u _ x => lowUn u x
  | .convert src dst x => lowConv P src dst x
  | .nilCheck x => do
    let x ← lowA x
    pure (.nilck x)
  | .fieldAddr s x f => lowFld P s x f
  | .indexAddr t x i => lowIdx P t x i
  | .index t x i => do
    let x ← lowA x
    let i ← lowA i
    let _ ← stringT P t
    pure (.idxS x i)
  | .load t x => lowLoad P t x
  | .store t x v => do
    let x ← lowA x
    let v ← lowA v
    let sz ← szOf P t
    pure (.store sz x v)
  | .slice t x lo hi mx => lowSlice P t x lo hi mx
  | .extract x i => do
    let x ← lowA x
    pure (.ext x i)
  | .alloc t => do
    let z ← zeroOf P t
    pure (.alloc t z)
  | .box t x => do
    let sz ← szOf P t
    let x ← lowA x
    pure (.box t sz x)
  | .build t parts => lowBuild P t parts
  | .buildSlice t len parts => lowBslice P t len parts
  | .makeSlice t l c => lowMake P t l c
  | .call c => lowCall P c
  | .makeFunc fn first cap => lowFn fn first cap
  | .makeMap t r => lowMkmap P t r
  | .lookup t x k c => lowLkup P t x k c
  | .mapUpdate t x k v => lowMapup P t x k v
  | _ => none

def lowOper (P : Program) (ops : Array Oper) (o : Oper) : Option IStep := do
  let op ← lowOp P o.op
  match o.guard with
  | none => pure { dst := o.dst, op, g := none }
  | some (j, b) => do pure { dst := o.dst, op, g := some (← (ops[j]?).bind (·.dst), b) }

/-! ### Regions whose order is drawn: one order that is told, and why the others tell the same -/
def IA.rd : IA → List Nat
  | .t i => [i]
  | .v _ => []
def rdO : Option IA → List Nat
  | none => []
  | some x => x.rd
/-- The slots that an operation reads. -/
def IOp.rds : IOp → List Nat
  | .mov x => x.rd
  | .pick c a b => c.rd ++ a.rd ++ b.rd
  | .bin _ x y => x.rd ++ y.rd
  | .eqb _ x y => x.rd ++ y.rd
  | .eqpn _ x => x.rd
  | .eqsn _ x => x.rd
  | .not x => x.rd
  | .neg x => x.rd
  | .conv _ x => x.rd
  | .b2s x => x.rd
  | .nilck x => x.rd
  | .fld _ x => x.rd
  | .idxA _ x i => x.rd ++ i.rd
  | .idxP _ _ x i => x.rd ++ i.rd
  | .idxS x i => x.rd ++ i.rd
  | .load _ x => x.rd
  | .store _ x v => x.rd ++ v.rd
  | .len x => x.rd
  | .lenS x => x.rd
  | .max x y => x.rd ++ y.rd
  | .min x y => x.rd ++ y.rd
  | .slc _ x lo hi => x.rd ++ rdO lo ++ rdO hi
  | .slcS x lo hi => x.rd ++ rdO lo ++ rdO hi
  | .ext x _ => x.rd
  | .alloc _ _ => []
  | .box _ _ x => x.rd
  | .build _ ps => ps.flatMap fun p => p.2.2.rd
  | .bslice _ _ _ _ ps => ps.flatMap fun p => p.2.2.rd
  | .mk _ _ _ _ l c => l.rd ++ c.rd
  | .app _ _ _ s x => s.rd ++ x.rd
  | .call _ args => args.flatMap IA.rd
  | .callv g args => g.rd ++ args.flatMap IA.rd
  | .mkfn _ cap => cap.flatMap IA.rd
  | .eqin _ x => x.rd
  | .mkmap _ => []
  | .lkup _ x k => x.rd ++ k.rd
  | .mapup x k v => x.rd ++ k.rd ++ v.rd
def IStep.rds (o : IStep) : List Nat := (match o.g with
  | none => []
  | some g => [g.1]) ++ o.op.rds
/-- 0: hangs on no memory of the call's own; 1: reads; 2: makes; 3: writes. -/
def kindOf (loud : Bool) : IOp → Nat
  | .call _ _ => if loud = true then 3 else 0
  | .bslice _ _ _ _ _ => 0
  | .alloc _ _ => 2
  | .box _ _ _ => 2
  | .mk _ _ _ _ _ _ => 2
  | .store _ _ _ => 3
  | .app _ _ _ _ _ => 3
  | .callv _ _ => 0
  | .mkmap _ => 4
  | .mapup _ _ _ => 4
  | .lkup _ _ _ => 4
  | _ => 1
def loudF (P : Program) (f : FuncId) : Bool := match P.funcs[f]? with
  | some fn => fn.name == ("victualler".push (Char.ofNat 47)) ++ "mat.reduced"
  | none => true
def loudOp (P : Program) : IOp → Bool
  | .call f _ => loudF P f
  | _ => false
def edgesOf (ops : Array Oper) : List (List Nat) := ops.toList.map fun o => (o.after.toList.filter fun e => Region.binds .any e).map (·.on)

/-! Numbers and lists of them, reckoned out before what follows. -/
def frcN {α : Type} (n : Nat) (k : Nat → α) : α := match n with
  | 0 => k 0
  | m + 1 => k (m + 1)
def frcB {α : Type} (b : Bool) (k : Bool → α) : α := match b with
  | true => k true
  | false => k false
def frcL {α : Type} : List Nat → (List Nat → α) → α
  | [], k => k []
  | x :: l, k => frcN x fun x => frcL l fun l => k (x :: l)
def frcLL {α : Type} : List (List Nat) → (List (List Nat) → α) → α
  | [], k => k []
  | x :: l, k => frcL x fun x => frcLL l fun l => k (x :: l)
def frcO {α : Type} (o : Option Nat) (k : Option Nat → α) : α := match o with
  | none => k none
  | some n => frcN n fun n => k (some n)
theorem frcN_eq {α : Type} (n : Nat) (k : Nat → α) : frcN n k = k n := by cases n <;> rfl
theorem frcB_eq {α : Type} (n : Bool) (k : Bool → α) : frcB n k = k n := by cases n <;> rfl
theorem frcO_eq {α : Type} (n : Option Nat) (k : Option Nat → α) : frcO n k = k n := by cases n <;> simp [frcO, frcN_eq]
theorem frcL_eq {α : Type} : ∀ (l : List Nat) (k : List Nat → α), frcL l k = k l
  | [], _ => rfl
  | x :: l, k => by simp only [frcL, frcN_eq, frcL_eq l]
theorem frcLL_eq {α : Type} : ∀ (l : List (List Nat)) (k : List (List Nat) → α), frcLL l k = k l
  | [], _ => rfl
  | x :: l, k => by simp only [frcLL, frcL_eq, frcLL_eq l]

def memN (a : Nat) : List Nat → Bool
  | [] => false
  | b :: l => match Nat.beq a b with
    | true => true
    | false => memN a l
theorem memN_iff {a : Nat} : ∀ {l : List Nat}, memN a l = true ↔ a ∈ l
  | [] => by simp [memN]
  | b :: l => by
    simp only [memN, List.mem_cons]
    cases h : Nat.beq a b with
    | true => simp [Nat.beq_eq.mp h]
    | false =>
      have : a ≠ b := fun e => by subst e; rw [Nat.beq_refl] at h; cases h
      simp [this, memN_iff]
def addAll : List Nat → List Nat → List Nat
  | [], out => out
  | x :: l, out => match memN x out with
    | true => addAll l out
    | false => addAll l (x :: out)
def ancOf (acc : List (List Nat)) : List Nat → List Nat → List Nat
  | [], out => out
  | e :: es, out => ancOf acc es (addAll (e :: acc.getD e []) out)
def ancs {α : Type} : List (List Nat) → List (List Nat) → (List (List Nat) → α) → α
  | [], acc, k => k acc
  | es :: rest, acc, k => frcL (ancOf acc es []) fun a => ancs rest (acc ++ [a]) k

/-- What of an operation matters here: its class, where its value goes, what it reads, whether it makes. -/
structure Inf where
  c : Nat
  d : Option Nat
  r : List Nat
  m : Bool
def frcI {α : Type} : List Inf → (List Inf → α) → α
  | [], k => k []
  | ⟨c, d, r, m⟩ :: l, k => frcN c fun c => frcO d fun d => frcL r fun r => frcB m fun m => frcI l fun l => k (⟨c, d, r, m⟩ :: l)
theorem frcI_eq {α : Type} : ∀ (l : List Inf) (k : List Inf → α), frcI l k = k l
  | [], _ => rfl
  | ⟨c, d, r, m⟩ :: l, k => by simp only [frcI, frcN_eq, frcO_eq, frcL_eq, frcB_eq, frcI_eq l]
def unord (an : List (List Nat)) (i j : Nat) : Bool := !memN j (an.getD i []) && !memN i (an.getD j [])
def anyUpTo (p : Nat → Bool) : Nat → Bool
  | 0 => false
  | n + 1 => match p n with
    | true => true
    | false => anyUpTo p n
def classOf (an : List (List Nat)) (ks : List Nat) (n i : Nat) : Nat :=
  match Nat.beq (ks.getD i 4) 1 with
  | true => match anyUpTo (fun j => (Nat.beq (ks.getD j 4) 3 || (Nat.beq (ks.getD j 4) 2 && Nat.blt j i)) && unord an i j) n with
    | true => 0
    | false => 1
  | false => ks.getD i 4
def classes (an : List (List Nat)) (ks : List Nat) : List Nat := (List.range ks.length).map fun i => classOf an ks ks.length i
def nextI (es : List (List Nat)) (cl : List Nat) (done : List Nat) (c : Nat) : List Nat → Option Nat
  | [] => none
  | i :: l => match Nat.beq (cl.getD i 4) c && !memN i done && (es.getD i []).all fun e => memN e done with
    | true => some i
    | false => nextI es cl done c l
def canon (es : List (List Nat)) (cl : List Nat) (all : List Nat) : Nat → List Nat → List Nat
  | 0, done => done
  | n + 1, done => match nextI es cl done 0 all with
    | some i => frcN i fun i => canon es cl all n (done ++ [i])
    | none => match nextI es cl done 1 all with
      | some i => frcN i fun i => canon es cl all n (done ++ [i])
      | none => match nextI es cl done 2 all with
        | some i => frcN i fun i => canon es cl all n (done ++ [i])
        | none => match nextI es cl done 3 all with
          | some i => frcN i fun i => canon es cl all n (done ++ [i])
          | none => done
def hits (d : Option Nat) (l : List Nat) : Bool := match d with
  | none => false
  | some d => memN d l
def sameDst (a b : Option Nat) : Bool := match a with
  | none => false
  | some a => match b with
    | none => false
    | some b => Nat.beq a b
def apartI (a b : Inf) : Bool := !hits a.d b.r && !hits b.d a.r && !sameDst a.d b.d
def isMaker : IOp → Bool
  | .alloc _ _ => true
  | .box _ _ _ => true
  | .mk _ _ _ _ _ _ => true
  | _ => false
def infOf (os : List IStep) (cl : List Nat) (i : Nat) : Inf := ⟨cl.getD i 4, (os.getD i default).dst, (os.getD i default).rds, isMaker (os.getD i default).op⟩
def compat (a b : Inf) : Bool := (Nat.beq a.c 0 || (Nat.beq a.c 1 && (Nat.ble b.c 1 || (Nat.beq b.c 2 && b.m)))) && apartI a b
def noInf : Inf := ⟨4, none, [], false⟩
/-- The order is one; each pair that is not bound may change places. -/
def chkOrd (es an : List (List Nat)) (inf : List Inf) (n : Nat) : List Nat → List Nat → Bool
  | _, [] => true
  | pre, i :: rest => !memN i pre && Nat.blt i n && (es.getD i []).all (fun e => memN e pre) &&
      rest.all (fun j => memN i (an.getD j []) || compat (inf.getD i noInf) (inf.getD j noInf)) && chkOrd es an inf n (pre ++ [i]) rest
def chkAnc (es an : List (List Nat)) : Bool := (List.range es.length).all fun j =>
  (es.getD j []).all (fun e => Nat.blt e j) && (an.getD j []).all fun a => memN a (es.getD j []) || (es.getD j []).any fun e => memN a (an.getD e [])
def chkDraw (es an : List (List Nat)) (inf : List Inf) (n : Nat) (od : List Nat) : Bool :=
  Nat.beq es.length n && Nat.beq od.length n && chkAnc es an && chkOrd es an inf n [] od
def drawIC (es : List (List Nat)) (ks : List Nat) (os : List IStep) : Option IC :=
  frcLL es fun es => frcL ks fun ks => ancs es [] fun an => frcL (classes an ks) fun cl =>
    frcI ((List.range os.length).map (infOf os cl)) fun inf => frcL (canon es cl (List.range os.length) os.length []) fun od =>
      match chkDraw es an inf os.length od with
      | true => some (.regD (od.map fun i => (os.getD i default, cl.getD i 4)))
      | false => none

def lower (P : Program) : Code → Option IC
  | .skip => some .skip
  | .region id ops draw => do
    let os ← ops.toList.mapM (lowOper P ops)
    if draw then drawIC (edgesOf ops) (os.map fun o => kindOf (loudOp P o.op) o.op) os else pure (.reg os)
  | .seq a b => do pure (.seq (← lower P a) (← lower P b))
  | .cond c a b => do pure (.cond (← lowA c) (← lower P a) (← lower P b))
  | .block id b => do pure (.block id (← lower P b))
  | .loop b => do pure (.loop (← lower P b))
  | .exit id => some (.exit id)
  | .ret => some .ret
  | _ => none

end Go.Avm
/- What a piece of the small code owes: the abstract machine's predicate transformer. Definitions and their unfolding lemmas. -/
namespace Go.Avm

/-- An object of the call's own. 'arr': a block of cells of element type t, es cells an element; lent: it has been seen by others and is written no more. -/
inductive AObj where
  | dead
  | arr (t : TypeId) (es : Nat) (lent : Bool) (cells : List AV)
  | mp (k : IntKind) (es : List (Int × AV))
  deriving Inhabited

structure St where
  f : List AV
  H : List AObj
  deriving Inhabited

/-- What calls owe; how many objects came in with the call. -/
structure Ctx where
  call : FuncId → List AV → List AObj → (AV → List AObj → Prop) → Prop
  n0 : Nat
  ent : FuncId → Prop
  gh : St → St → Prop
  pc : FuncId → List AV → AV → Prop

def ev (f : List AV) : IA → AV
  | .t i => f.getD i .junk
  | .v x => x

mutual
/-- No name of memory of the call's own is in it. -/
def Frz : AV → Prop
  | .int _ _ => True
  | .bool _ => True
  | .str _ => True
  | .nilp => True
  | .ptr cs _ => FrzL cs
  | .nils => True
  | .sl _ cs => FrzL cs
  | .own _ _ => False
  | .osl _ _ _ => False
  | .agg cs => FrzL cs
  | .tup cs => FrzL cs
  | .fn _ cs => FrzL cs
  | .raw _ => True
  | .mref _ => False
  | .junk => False
def FrzL : List AV → Prop
  | [] => True
  | c :: cs => Frz c ∧ FrzL cs
end

mutual
/-- The names of object i fall away. -/
def kill (i : Nat) : AV → AV
  | .own j o => if j = i then .junk else .own j o
  | .osl j o n => if j = i then .junk else .osl j o n
  | .agg cs => .agg (killL i cs)
  | .tup cs => .tup (killL i cs)
  | .fn f cs => .fn f (killL i cs)
  | .int k n => .int k n
  | .bool b => .bool b
  | .str s => .str s
  | .nilp => .nilp
  | .ptr cs o => .ptr cs o
  | .nils => .nils
  | .sl n cs => .sl n cs
  | .raw v => .raw v
  | .mref j => if j = i then .junk else .mref j
  | .junk => .junk
def killL (i : Nat) : List AV → List AV
  | [] => []
  | c :: cs => kill i c :: killL i cs
end

def killO (i : Nat) : AObj → AObj
  | .arr t es l cs => .arr t es l (killL i cs)
  | .mp k es => .mp k es
  | .dead => .dead
def killF (i : Option Nat) (f : List AV) : List AV := match i with
  | none => f
  | some i => killL i f

/-- A binary operation: what it asks and what comes of it. -/
def binP (op : BinOp) (x y : AV) (K : AV → Prop) : Prop :=
  match x, y with
  | .int k a, .int k' b =>
    match op with
    | .shl => 0 ≤ b ∧ K (.int k (k.wrap (a * 2 ^ (min b.toNat k.bits))))
    | .shr => 0 ≤ b ∧ K (.int k (a.fdiv (2 ^ (min b.toNat k.bits))))
    | .add => k = k' ∧ K (.int k (k.wrap (a + b)))
    | .sub => k = k' ∧ K (.int k (k.wrap (a - b)))
    | .mul => k = k' ∧ K (.int k (k.wrap (a * b)))
    | .quo => (k = k' ∧ b ≠ 0) ∧ K (.int k (k.wrap (a.tdiv b)))
    | .rem => (k = k' ∧ b ≠ 0) ∧ K (.int k (a.tmod b))
    | .and => k = k' ∧ K (.int k (k.wrap (BitVec.ofInt k.bits a &&& BitVec.ofInt k.bits b).toNat))
    | .or => k = k' ∧ K (.int k (k.wrap (BitVec.ofInt k.bits a ||| BitVec.ofInt k.bits b).toNat))
    | .xor => k = k' ∧ K (.int k (k.wrap (BitVec.ofInt k.bits a ^^^ BitVec.ofInt k.bits b).toNat))
    | .eql => k = k' ∧ K (.bool (decide (a = b)))
    | .neq => k = k' ∧ K (.bool (decide (a ≠ b)))
    | .lss => k = k' ∧ K (.bool (decide (a < b)))
    | .leq => k = k' ∧ K (.bool (decide (a ≤ b)))
    | .gtr => k = k' ∧ K (.bool (decide (b < a)))
    | .geq => k = k' ∧ K (.bool (decide (b ≤ a)))
    | _ => False
  | .str a, .str b =>
    match op with
    | .add => a.length + b.length ≤ 9223372036854775807 ∧ K (.str (a ++ b))
    | .eql => K (.bool (a == b))
    | .neq => K (.bool (!(a == b)))
    | _ => False
  | _, _ => False

/-- The object is there. -/
def liveP (o : AObj) (K : Prop) : Prop := match o with | .arr _ _ _ _ => K | _ => False
def notP (x : AV) (K : AV → Prop) : Prop := match x with | .bool b => K (.bool (!b)) | _ => False
def eqbP (n : Bool) (x y : AV) (K : AV → Prop) : Prop := match x, y with
  | .bool a, .bool b => K (.bool ((a == b) != n))
  | _, _ => False
def eqpnP (H : List AObj) (n : Bool) (x : AV) (K : AV → Prop) : Prop := match x with
  | .nilp => K (.bool (!n))
  | .ptr _ _ => K (.bool n)
  | .own i _ => liveP (H.getD i .dead) (K (.bool n))
  | _ => False
def eqsnP (H : List AObj) (n : Bool) (x : AV) (K : AV → Prop) : Prop := match x with
  | .nils => K (.bool (!n))
  | .sl len _ => 0 < len ∧ K (.bool n)
  | .osl i _ len => liveP (H.getD i .dead) (0 < len ∧ K (.bool n))
  | _ => False
def negP (x : AV) (K : AV → Prop) : Prop := match x with | .int k n => K (.int k (k.wrap (0 - n))) | _ => False
def convP (k : IntKind) (x : AV) (K : AV → Prop) : Prop := match x with | .int _ n => K (.int k (k.wrap n)) | _ => False
def pickP (c a b : AV) (K : AV → Prop) : Prop := match c with | .bool t => K (if t = true then a else b) | _ => False
def nilckP (H : List AObj) (x : AV) (K : AV → Prop) : Prop := match x with
  | .ptr cs o => K (.ptr cs o)
  | .own i o => liveP (H.getD i .dead) (K (.own i o))
  | _ => False
def fldP (H : List AObj) (off : Nat) (x : AV) (K : AV → Prop) : Prop := match x with
  | .ptr cs o => K (.ptr cs (o + off))
  | .own i o => liveP (H.getD i .dead) (K (.own i (o + off)))
  | _ => False
def idxAP (H : List AObj) (sz : Nat) (x i : AV) (K : AV → Prop) : Prop := match x, i with
  | .sl len cs, .int _ n => (0 ≤ n ∧ n < len) ∧ K (.ptr cs (n.toNat * sz))
  | .osl id off len, .int _ n => liveP (H.getD id .dead) ((0 ≤ n ∧ n < len) ∧ K (.own id (off + n.toNat * sz)))
  | _, _ => False
def idxPP (H : List AObj) (m sz : Nat) (x i : AV) (K : AV → Prop) : Prop := match x, i with
  | .ptr cs o, .int _ n => (0 ≤ n ∧ n < m) ∧ K (.ptr cs (o + n.toNat * sz))
  | .own id off, .int _ n => liveP (H.getD id .dead) ((0 ≤ n ∧ n < m) ∧ K (.own id (off + n.toNat * sz)))
  | _, _ => False
def idxSP (x i : AV) (K : AV → Prop) : Prop := match x, i with
  | .str s, .int _ n => (0 ≤ n ∧ n < s.length) ∧ K (.int .u8 (s.getD n.toNat 0).toNat)
  | _, _ => False
def loadC (n : Option Nat) (cs : List AV) (o : Nat) (K : AV → Prop) : Prop := match n with
  | none => o < cs.length ∧ K (cs.getD o .junk)
  | some m => o + m ≤ cs.length ∧ K (.agg ((cs.drop o).take m))
def loadO (n : Option Nat) (b : AObj) (o : Nat) (K : AV → Prop) : Prop := match b with
  | .arr _ _ _ cs => loadC n cs o K
  | _ => False
def loadP (H : List AObj) (n : Option Nat) (x : AV) (K : AV → Prop) : Prop := match x with
  | .ptr cs o => loadC n cs o K
  | .own id o => loadO n (H.getD id .dead) o K
  | _ => False
def cellsOf (x : AV) : List AV := match x with
  | .agg cs => cs
  | .int k n => [.int k n]
  | .bool b => [.bool b]
  | .str s => [.str s]
  | .nilp => [.nilp]
  | .ptr cs o => [.ptr cs o]
  | .nils => [.nils]
  | .sl n cs => [.sl n cs]
  | .own i o => [.own i o]
  | .osl i o n => [.osl i o n]
  | .tup _ => []
  | .fn f cs => [.fn f cs]
  | .mref _ => []
  | .raw _ => []
  | .junk => []
/-- A value of one cell, for sure. -/
def OneC (H : List AObj) (x : AV) : Prop := match x with
  | .agg _ => False
  | .tup _ => False
  | .junk => False
  | .mref _ => False
  | .raw v => v.oneCell' = true
  | .own i _ => liveP (H.getD i .dead) True
  | .osl i _ _ => liveP (H.getD i .dead) True
  | _ => True
def OneL (H : List AObj) (l : List AV) : Prop := ∀ x ∈ l, OneC H x
def putAt (cs : List AV) (o : Nat) : List AV → List AV
  | [] => cs
  | x :: xs => putAt (cs.set o x) (o + 1) xs
def storeO (H : List AObj) (id : Nat) (b : AObj) (o sz : Nat) (v : AV) (K : List AObj → Prop) : Prop := match b with
  | .arr t es false cs => ((cellsOf v).length = sz ∧ 0 < sz ∧ o + sz ≤ cs.length ∧ OneL H (cellsOf v)) ∧ K (H.set id (.arr t es false (putAt cs o (cellsOf v))))
  | _ => False
def storeP (H : List AObj) (sz : Nat) (x v : AV) (K : List AObj → Prop) : Prop := match x with
  | .own id o => storeO H id (H.getD id .dead) o sz v K
  | _ => False
def lenP (H : List AObj) (x : AV) (K : AV → Prop) : Prop := match x with
  | .nils => K (.int .i64 0)
  | .sl len _ => len ≤ 9223372036854775807 → K (.int .i64 len)
  | .osl id _ len => liveP (H.getD id .dead) (len ≤ 9223372036854775807 → K (.int .i64 len))
  | _ => False
/-- The number of bytes, the bytes. -/
def bytesL : List AV → Option (List UInt8)
  | [] => some []
  | .int .u8 n :: cs => (bytesL cs).map fun l => UInt8.ofNat n.toNat :: l
  | _ => none
def b2sC (len : Nat) (cs : List AV) (K : AV → Prop) : Prop := match bytesL cs with
  | some l => cs.length = len ∧ K (.str l)
  | none => False
def b2sO (b : AObj) (off len : Nat) (K : AV → Prop) : Prop := match b with
  | .arr _ es _ cs => es = 1 ∧ b2sC len ((cs.drop off).take len) K
  | _ => False
def b2sP (H : List AObj) (x : AV) (K : AV → Prop) : Prop := match x with
  | .nils => K (.str [])
  | .sl len cs => b2sC len cs K
  | .osl id off len => b2sO (H.getD id .dead) off len K
  | _ => False
def eqinP (n : Bool) (x : AV) (K : AV → Prop) : Prop := match x with
  | .raw .nilIface => K (.bool (!n))
  | .raw (.iface _ _) => K (.bool n)
  | _ => False
def mget (es : List (Int × AV)) (n : Int) : Option AV := match es with
  | [] => none
  | e :: es => if n = e.1 then some e.2 else mget es n
def mset (es : List (Int × AV)) (n : Int) (v : AV) : List (Int × AV) := match es with
  | [] => [(n, v)]
  | e :: es => if n = e.1 then (n, v) :: es else e :: mset es n v
def lkupO (b : AObj) (zero : AV) (k : IntKind) (n : Int) (K : AV → Prop) : Prop := match b with
  | .mp k' es => k = k' ∧ K ((mget es n).getD zero)
  | _ => False
def lkupP (H : List AObj) (zero : AV) (x k : AV) (K : AV → Prop) : Prop := match x, k with
  | .mref id, .int k n => lkupO (H.getD id .dead) zero k n K
  | _, _ => False
def mapupO (H : List AObj) (id : Nat) (b : AObj) (k : IntKind) (n : Int) (v : AV) (K : List AObj → Prop) : Prop := match b with
  | .mp k' es => (k = k' ∧ Frz v) ∧ K (H.set id (.mp k (mset es n v)))
  | _ => False
def mapupP (H : List AObj) (x k v : AV) (K : List AObj → Prop) : Prop := match x, k with
  | .mref id, .int k n => mapupO H id (H.getD id .dead) k n v K
  | _, _ => False
/-- The length, where it is told that it is one. -/
def lenQ (H : List AObj) (x : AV) (K : AV → Prop) : Prop := match x with
  | .nils => K (.int .i64 0)
  | .sl len _ => len ≤ 9223372036854775807 ∧ K (.int .i64 len)
  | .osl id _ len => liveP (H.getD id .dead) (len ≤ 9223372036854775807 ∧ K (.int .i64 len))
  | _ => False
def lenSP (x : AV) (K : AV → Prop) : Prop := match x with
  | .str s => K (.int .i64 s.length)
  | _ => False
def maxP (x y : AV) (K : AV → Prop) : Prop := match x, y with
  | .int k a, .int _ b => K (.int k (if b > a then b else a))
  | _, _ => False
def minP (x y : AV) (K : AV → Prop) : Prop := match x, y with
  | .int k a, .int _ b => K (.int k (if b < a then b else a))
  | _, _ => False
/-- A bound of a slicing. -/
def bdP (d : Int) (x : Option AV) (K : Int → Prop) : Prop := match x with
  | none => K d
  | some (.int _ n) => K n
  | _ => False
def slcO (b : AObj) (sz id off len : Nat) (l h : Int) (K : AV → Prop) : Prop := match b with
  | .arr _ es _ _ => (es = sz ∧ 0 ≤ l ∧ l ≤ h ∧ h ≤ len) ∧ (l = h → K (.sl 0 [])) ∧ (l < h → K (.osl id (off + l.toNat * sz) (h - l).toNat))
  | _ => False
def slcP (H : List AObj) (sz : Nat) (x : AV) (lo hi : Option AV) (K : AV → Prop) : Prop := match x with
  | .nils => bdP 0 lo fun l => bdP 0 hi fun h => (l = 0 ∧ h = 0) ∧ K .nils
  | .sl len cs => bdP 0 lo fun l => bdP len hi fun h => (0 ≤ l ∧ l ≤ h ∧ h ≤ len ∧ cs.length = len * sz) ∧ K (.sl (h - l).toNat ((cs.drop (l.toNat * sz)).take ((h - l).toNat * sz)))
  | .osl id off len => bdP 0 lo fun l => bdP len hi fun h => slcO (H.getD id .dead) sz id off len l h K
  | _ => False
def slcSP (x : AV) (lo hi : Option AV) (K : AV → Prop) : Prop := match x with
  | .str s => bdP 0 lo fun l => bdP s.length hi fun h => (0 ≤ l ∧ l ≤ h ∧ h ≤ s.length) ∧ K (.str ((s.drop l.toNat).take (h - l).toNat))
  | _ => False
def extP (x : AV) (i : Nat) (K : AV → Prop) : Prop := match x with
  | .tup vs => i < vs.length ∧ K (vs.getD i .junk)
  | _ => False
def fillP (cs : List AV) : List (Nat × Nat × AV) → List AV
  | [] => cs
  | (o, _, x) :: ps => fillP (putAt cs o (cellsOf x)) ps
def fillOk (H : List AObj) (n : Nat) : List (Nat × Nat × AV) → Prop
  | [] => True
  | (o, sz, x) :: ps => ((cellsOf x).length = sz ∧ 0 < sz ∧ o + sz ≤ n ∧ OneL H (cellsOf x)) ∧ fillOk H n ps
def reps (n : Nat) (z : List AV) : List AV := (List.replicate n z).flatten
def srcO (sz : Nat) (b : AObj) (off len : Nat) (K : Nat → List AV → Prop) : Prop := match b with
  | .arr _ _ _ cs => off + len * sz ≤ cs.length ∧ K len ((cs.drop off).take (len * sz))
  | _ => False
/-- What is appended. -/
def srcP (H : List AObj) (sz : Nat) (x : AV) (K : Nat → List AV → Prop) : Prop := match x with
  | .nils => K 0 []
  | .sl len cs => cs.length = len * sz ∧ K len cs
  | .osl id off len => srcO sz (H.getD id .dead) off len K
  | _ => False
def appO (n0 : Nat) (s : St) (t : TypeId) (sz bytes id off len : Nat) (b : AObj) (m : Nat) (src : List AV) (K : AV → St → Prop) : Prop := match b with
  | .arr t' es l cs => ((n0 ≤ id ∧ t' = t ∧ es = sz ∧ off = 0 ∧ cs.length = len * sz ∧ OneL s.H src ∧ (l = true → FrzL src)) ∧ (len + m) * bytes ≤ 140737488355328) ∧
      K (.osl id 0 (len + m)) ⟨killL id s.f, (s.H.map (killO id)).set id (.arr t sz l (killL id (cs ++ src)))⟩
  | _ => False
def appB (n0 : Nat) (s : St) (t : TypeId) (sz bytes : Nat) (b : AV) (m : Nat) (src : List AV) (K : AV → St → Prop) : Prop := match b with
  | .nils => (m * bytes ≤ 140737488355328 ∧ OneL s.H src) ∧ K (.osl s.H.length 0 m) ⟨s.f, s.H ++ [.arr t sz false src]⟩
  | .osl id off len => appO n0 s t sz bytes id off len (s.H.getD id .dead) m src K
  | _ => False
def appP (n0 : Nat) (s : St) (t : TypeId) (sz bytes : Nat) (b x : AV) (K : AV → St → Prop) : Prop :=
  srcP s.H sz x fun m src => appB n0 s t sz bytes b m src K
def mkP (s : St) (t : TypeId) (sz bytes : Nat) (zero : List AV) (l c : AV) (K : AV → St → Prop) : Prop := match l, c with
  | .int _ nl, .int _ nc => (0 ≤ nl ∧ nl ≤ nc ∧ nc * bytes ≤ 140737488355328) ∧ K (.osl s.H.length 0 nl.toNat) ⟨s.f, s.H ++ [.arr t sz false (reps nl.toNat zero)]⟩
  | _, _ => False

/-- Two ways. -/
def ifB (t : Bool) (A B : Prop) : Prop := (t = true → A) ∧ (t = false → B)
def wantB (b : Bool) (x : AV) (A B : Prop) : Prop := match x with
  | .bool t => ifB (t == b) A B
  | .tup [] => B
  | _ => False
def condP (x : AV) (A B : Prop) : Prop := match x with
  | .bool t => ifB t A B
  | _ => False

/-- A call: held back for the prover. -/
def ACall (C : Ctx) (f : FuncId) (args : List AV) (s : St) (K : AV → St → Prop) : Prop :=
  ∃ (s' : St) (args' : List AV), s'.f.length = s.f.length ∧ C.gh ⟨s.f ++ args, s.H⟩ ⟨s'.f ++ args', s'.H⟩ ∧ C.call f args' s'.H fun x H => K x ⟨s'.f, H⟩
def callvP (C : Ctx) (g : AV) (args : List AV) (s : St) (K : AV → St → Prop) : Prop := match g with
  | .fn f cap => C.ent f ∧ ACall C f (args ++ cap) s K
  | _ => False

def put (f : List AV) (d : Option Nat) (x : AV) : List AV := match d with
  | none => f
  | some d => f.set d x

inductive Ex where
  | normal
  | exit (id : Nat)
  | ret

def exSeq (N : St → Prop) (K : Ex → St → Prop) : Ex → St → Prop
  | .normal, s => N s
  | .exit i, s => K (.exit i) s
  | .ret, s => K .ret s
def exBlock (id : Nat) (K : Ex → St → Prop) : Ex → St → Prop
  | .exit i, s => if i = id then K .normal s else K (.exit i) s
  | .normal, s => K .normal s
  | .ret, s => K .ret s

/-- Where a result stands. -/
inductive IR where
  | t (i : Nat)
  | c (i : Nat) (n : Option Nat)
def resP1 (s : St) (r : IR) (K : AV → Prop) : Prop := match r with
  | .t i => K (s.f.getD i .junk)
  | .c i n => loadP s.H n (s.f.getD i .junk) K
def resP (s : St) : List IR → (List AV → Prop) → Prop
  | [], K => K []
  | r :: rs, K => resP1 s r fun x => resP s rs fun xs => K (x :: xs)
def tupOf (xs : List AV) : AV := match xs with
  | [x] => x
  | xs => .tup xs

section
variable (C : Ctx)

/-- What a call hands back. -/
def RetOK (rs : List IR) (R : AV → List AObj → Prop) (s : St) : Prop := ∃ s', C.gh s s' ∧ resP s' rs fun xs => R (tupOf xs) s'.H
def exRet (rs : List IR) (R : AV → List AObj → Prop) : Ex → St → Prop
  | .normal, s => RetOK C rs R s
  | .exit _, _ => False
  | .ret, s => RetOK C rs R s

def evP (f : List AV) (parts : List (Nat × Nat × IA)) : List (Nat × Nat × AV) := parts.map fun p => (p.1, p.2.1, ev f p.2.2)

def aop (o : IOp) (s : St) (K : AV → St → Prop) : Prop :=
  match o with
  | .mov x => K (ev s.f x) s
  | .pick c a b => pickP (ev s.f c) (ev s.f a) (ev s.f b) (K · s)
  | .bin op x y => binP op (ev s.f x) (ev s.f y) (K · s)
  | .eqb n x y => eqbP n (ev s.f x) (ev s.f y) (K · s)
  | .eqpn n x => eqpnP s.H n (ev s.f x) (K · s)
  | .eqsn n x => eqsnP s.H n (ev s.f x) (K · s)
  | .not x => notP (ev s.f x) (K · s)
  | .neg x => negP (ev s.f x) (K · s)
  | .conv k x => convP k (ev s.f x) (K · s)
  | .nilck x => nilckP s.H (ev s.f x) (K · s)
  | .fld n x => fldP s.H n (ev s.f x) (K · s)
  | .idxA n x i => idxAP s.H n (ev s.f x) (ev s.f i) (K · s)
  | .idxP m n x i => idxPP s.H m n (ev s.f x) (ev s.f i) (K · s)
  | .idxS x i => idxSP (ev s.f x) (ev s.f i) (K · s)
  | .load n x => loadP s.H n (ev s.f x) (K · s)
  | .store n x v => storeP s.H n (ev s.f x) (ev s.f v) fun H => K (.tup []) ⟨s.f, H⟩
  | .len x => lenP s.H (ev s.f x) (K · s)
  | .lenS x => lenSP (ev s.f x) (K · s)
  | .max x y => maxP (ev s.f x) (ev s.f y) (K · s)
  | .min x y => minP (ev s.f x) (ev s.f y) (K · s)
  | .slc n x lo hi => slcP s.H n (ev s.f x) (lo.map (ev s.f)) (hi.map (ev s.f)) (K · s)
  | .slcS x lo hi => slcSP (ev s.f x) (lo.map (ev s.f)) (hi.map (ev s.f)) (K · s)
  | .ext x i => extP (ev s.f x) i (K · s)
  | .alloc t zero => K (.own s.H.length 0) ⟨s.f, s.H ++ [.arr t zero.length false zero]⟩
  | .box t sz x => (((cellsOf (ev s.f x)).length = sz ∧ 0 < sz ∧ OneL s.H (cellsOf (ev s.f x))) ∧ K (.own s.H.length 0) ⟨s.f, s.H ++ [.arr t sz false (cellsOf (ev s.f x))]⟩)
  | .build zero parts => (fillOk s.H zero.length (evP s.f parts) ∧ K (.agg (fillP zero (evP s.f parts))) s)
  | .bslice t sz len zero parts => (fillOk s.H (len * sz) (evP s.f parts) ∧ K (.osl s.H.length 0 len) ⟨s.f, s.H ++ [.arr t sz false (fillP (reps len zero) (evP s.f parts))]⟩)
  | .mk t sz bytes zero l c => mkP s t sz bytes zero (ev s.f l) (ev s.f c) K
  | .app t sz bytes b x => appP C.n0 s t sz bytes (ev s.f b) (ev s.f x) K
  | .call f args => ACall C f (args.map (ev s.f)) s K
  | .callv g args => callvP C (ev s.f g) (args.map (ev s.f)) s K
  | .mkfn f cap => K (.fn f (cap.map (ev s.f))) s
  | .b2s x => b2sP s.H (ev s.f x) (K · s)
  | .eqin n x => eqinP n (ev s.f x) (K · s)
  | .mkmap k => K (.mref s.H.length) ⟨s.f, s.H ++ [.mp k []]⟩
  | .lkup zero x k => lkupP s.H zero (ev s.f x) (ev s.f k) (K · s)
  | .mapup x k v => mapupP s.H (ev s.f x) (ev s.f k) (ev s.f v) fun H => K (.tup []) ⟨s.f, H⟩

def aops (K : St → Prop) : List IStep → St → Prop
  | [], s => K s
  | ⟨d, op, g⟩ :: os, s => match g with
    | none => aop C op s fun x s' => aops K os ⟨put s'.f d x, s'.H⟩
    | some (j, b) => wantB b (s.f.getD j .junk)
      (aop C op s fun x s' => aops K os ⟨put s'.f d x, s'.H⟩)
      (aops K os ⟨put s.f d (.tup []), s.H⟩)

/-- What reads. -/
def rop (o : IOp) (f : List AV) (H : List AObj) (K : AV → Prop) : Prop :=
  match o with
  | .mov x => K (ev f x)
  | .pick c a b => pickP (ev f c) (ev f a) (ev f b) K
  | .bin op x y => binP op (ev f x) (ev f y) K
  | .eqb n x y => eqbP n (ev f x) (ev f y) K
  | .eqpn n x => eqpnP H n (ev f x) K
  | .eqsn n x => eqsnP H n (ev f x) K
  | .not x => notP (ev f x) K
  | .neg x => negP (ev f x) K
  | .conv k x => convP k (ev f x) K
  | .nilck x => nilckP H (ev f x) K
  | .fld n x => fldP H n (ev f x) K
  | .idxA n x i => idxAP H n (ev f x) (ev f i) K
  | .idxP m n x i => idxPP H m n (ev f x) (ev f i) K
  | .idxS x i => idxSP (ev f x) (ev f i) K
  | .load n x => loadP H n (ev f x) K
  | .len x => lenQ H (ev f x) K
  | .lenS x => lenSP (ev f x) K
  | .max x y => maxP (ev f x) (ev f y) K
  | .min x y => minP (ev f x) (ev f y) K
  | .slc n x lo hi => slcP H n (ev f x) (lo.map (ev f)) (hi.map (ev f)) K
  | .slcS x lo hi => slcSP (ev f x) (lo.map (ev f)) (hi.map (ev f)) K
  | .ext x i => extP (ev f x) i K
  | .build zero parts => (fillOk H zero.length (evP f parts) ∧ K (.agg (fillP zero (evP f parts))))
  | .mkfn f0 cap => K (.fn f0 (cap.map (ev f)))
  | .b2s x => b2sP H (ev f x) K
  | .eqin n x => eqinP n (ev f x) K
  | .lkup zero x k => lkupP H zero (ev f x) (ev f k) K
  | _ => False

/-- What hangs on no memory of the call's own. -/
def okC (x : IA) : Prop := match x with
  | .t _ => True
  | .v y => Frz y
def fcallvP (g : AV) (args : List AV) (K : AV → Prop) : Prop := match g with
  | .fn f cap => (C.ent f ∧ FrzL args ∧ FrzL cap) ∧ ∃ v, C.pc f (args ++ cap) v ∧ K v
  | _ => False
def fop (o : IOp) (f : List AV) (K : AV → Prop) : Prop :=
  match o with
  | .mov x => okC x ∧ K (ev f x)
  | .pick c a b => (okC a ∧ okC b) ∧ pickP (ev f c) (ev f a) (ev f b) K
  | .call g args => FrzL (args.map (ev f)) ∧ ∃ v, C.pc g (args.map (ev f)) v ∧ K v
  | .callv g args => fcallvP C (ev f g) (args.map (ev f)) K
  | .bslice _ sz len zero parts => (FrzL zero ∧ FrzL ((evP f parts).map fun p => p.2.2)) ∧ fillOk [] (len * sz) (evP f parts) ∧ K (.sl len (fillP (reps len zero) (evP f parts)))
  | .bin op x y => FrzL [ev f x, ev f y] ∧ binP op (ev f x) (ev f y) K
  | .eqb n x y => FrzL [ev f x, ev f y] ∧ eqbP n (ev f x) (ev f y) K
  | .eqpn n x => FrzL [ev f x] ∧ eqpnP [] n (ev f x) K
  | .eqsn n x => FrzL [ev f x] ∧ eqsnP [] n (ev f x) K
  | .not x => FrzL [ev f x] ∧ notP (ev f x) K
  | .neg x => FrzL [ev f x] ∧ negP (ev f x) K
  | .conv k x => FrzL [ev f x] ∧ convP k (ev f x) K
  | .nilck x => FrzL [ev f x] ∧ nilckP [] (ev f x) K
  | .fld n x => FrzL [ev f x] ∧ fldP [] n (ev f x) K
  | .idxA n x i => FrzL [ev f x, ev f i] ∧ idxAP [] n (ev f x) (ev f i) K
  | .idxP m n x i => FrzL [ev f x, ev f i] ∧ idxPP [] m n (ev f x) (ev f i) K
  | .idxS x i => FrzL [ev f x, ev f i] ∧ idxSP (ev f x) (ev f i) K
  | .load n x => FrzL [ev f x] ∧ loadP [] n (ev f x) K
  | .len x => FrzL [ev f x] ∧ lenQ [] (ev f x) K
  | .lenS x => FrzL [ev f x] ∧ lenSP (ev f x) K
  | .max x y => FrzL [ev f x, ev f y] ∧ maxP (ev f x) (ev f y) K
  | .min x y => FrzL [ev f x, ev f y] ∧ minP (ev f x) (ev f y) K
  | .slc n x lo hi => FrzL [ev f x] ∧ slcP [] n (ev f x) (lo.map (ev f)) (hi.map (ev f)) K
  | .slcS x lo hi => FrzL [ev f x] ∧ slcSP (ev f x) (lo.map (ev f)) (hi.map (ev f)) K
  | .ext x i => FrzL [ev f x] ∧ extP (ev f x) i K
  | .build zero parts => FrzL (zero ++ (evP f parts).map fun p => p.2.2) ∧ (fillOk [] zero.length (evP f parts) ∧ K (.agg (fillP zero (evP f parts))))
  | .b2s x => FrzL [ev f x] ∧ b2sP [] (ev f x) K
  | .eqin n x => FrzL [ev f x] ∧ eqinP n (ev f x) K
  | _ => False

def wappO (H : List AObj) (t : TypeId) (sz bytes id off len : Nat) (b : AObj) (m : Nat) (src : List AV) (K : AV → Option Nat → List AObj → Prop) : Prop := match b with
  | .arr t' es l cs => ((C.n0 ≤ id ∧ t' = t ∧ es = sz ∧ off = 0 ∧ cs.length = len * sz ∧ OneL H src ∧ (l = true → FrzL src)) ∧ (len + m) * bytes ≤ 140737488355328) ∧
      K (.osl id 0 (len + m)) (some id) ((H.map (killO id)).set id (.arr t sz l (killL id (cs ++ src))))
  | _ => False
def wappB (H : List AObj) (t : TypeId) (sz bytes : Nat) (b : AV) (m : Nat) (src : List AV) (K : AV → Option Nat → List AObj → Prop) : Prop := match b with
  | .nils => (m * bytes ≤ 140737488355328 ∧ OneL H src) ∧ K (.osl H.length 0 m) none (H ++ [.arr t sz false src])
  | .osl id off len => wappO C H t sz bytes id off len (H.getD id .dead) m src K
  | _ => False
def wappP (H : List AObj) (t : TypeId) (sz bytes : Nat) (b x : AV) (K : AV → Option Nat → List AObj → Prop) : Prop :=
  srcP H sz x fun m src => wappB C H t sz bytes b m src K
def wmkP (H : List AObj) (t : TypeId) (sz bytes : Nat) (zero : List AV) (l c : AV) (K : AV → Option Nat → List AObj → Prop) : Prop := match l, c with
  | .int _ nl, .int _ nc => (0 ≤ nl ∧ nl ≤ nc ∧ nc * bytes ≤ 140737488355328) ∧ K (.osl H.length 0 nl.toNat) none (H ++ [.arr t sz false (reps nl.toNat zero)])
  | _, _ => False
/-- What writes, or makes. -/
def wop (o : IOp) (f : List AV) (H : List AObj) (K : AV → Option Nat → List AObj → Prop) : Prop :=
  match o with
  | .store n x v => storeP H n (ev f x) (ev f v) fun H' => K (.tup []) none H'
  | .alloc t zero => K (.own H.length 0) none (H ++ [.arr t zero.length false zero])
  | .box t sz x => (((cellsOf (ev f x)).length = sz ∧ 0 < sz ∧ OneL H (cellsOf (ev f x))) ∧ K (.own H.length 0) none (H ++ [.arr t sz false (cellsOf (ev f x))]))
  | .mk t sz bytes zero l c => wmkP H t sz bytes zero (ev f l) (ev f c) K
  | .app t sz bytes b x => wappP C H t sz bytes (ev f b) (ev f x) K
  | .call g args => C.call g (args.map (ev f)) H fun x H' => K x none H'
  | _ => False
def ex1 (c : Nat) (o : IOp) (f : List AV) (H : List AObj) (K : AV → Option Nat → List AObj → Prop) : Prop := match c with
  | 0 => fop C o f fun x => K x none H
  | 1 => rop o f H fun x => K x none H
  | _ => wop C o f H K
def dst1 (c : Nat) (o : IStep) (s : St) (K : St → Prop) : Prop := match o with
  | ⟨d, op, g⟩ => match g with
    | none => ex1 C c op s.f s.H fun x k H => K ⟨put (killF k s.f) d x, H⟩
    | some (j, b) => wantB b (s.f.getD j .junk) (ex1 C c op s.f s.H fun x k H => K ⟨put (killF k s.f) d x, H⟩) (K ⟨put s.f d (.tup []), s.H⟩)
def dops (K : St → Prop) : List (IStep × Nat) → St → Prop
  | [], s => K s
  | (o, c) :: os, s => dst1 C c o s (dops K os)

def awp : IC → (Ex → St → Prop) → St → Prop
  | .skip, K, s => K .normal s
  | .reg ops, K, s => aops C (K .normal) ops s
  | .regD ops, K, s => dops C (K .normal) ops s
  | .seq a b, K, s => awp a (exSeq (awp b K) K) s
  | .cond c a b, K, s => condP (ev s.f c) (awp a K s) (awp b K s)
  | .block id b, K, s => awp b (exBlock id K) s
  | .loop b, K, s => ∃ (I : Nat → St → Prop) (n : Nat) (s0 : St), C.gh s s0 ∧ I n s0 ∧ ∀ n s, I n s → awp b (exSeq (fun s' => ∃ s1 m, C.gh s' s1 ∧ m < n ∧ I m s1) K) s
  | .exit i, K, s => K (.exit i) s
  | .ret, K, s => K .ret s
end

/-! ### Congruences: what is behind an operation is not looked into before it is reached -/
@[congr] theorem binP_congr {op : BinOp} {x x' : AV} {y y' : AV} {K0 : AV → Prop} (hx : x = x') (hy : y = y') : binP op x y K0 = binP op x' y' K0 := by subst_vars; rfl
@[congr] theorem notP_congr {x x' : AV} {K0 : AV → Prop} (hx : x = x') : notP x K0 = notP x' K0 := by subst_vars; rfl
@[congr] theorem negP_congr {x x' : AV} {K0 : AV → Prop} (hx : x = x') : negP x K0 = negP x' K0 := by subst_vars; rfl
@[congr] theorem lenSP_congr {x x' : AV} {K0 : AV → Prop} (hx : x = x') : lenSP x K0 = lenSP x' K0 := by subst_vars; rfl
@[congr] theorem eqbP_congr {n : Bool} {x x' : AV} {y y' : AV} {K0 : AV → Prop} (hx : x = x') (hy : y = y') : eqbP n x y K0 = eqbP n x' y' K0 := by subst_vars; rfl
@[congr] theorem eqpnP_congr {H H' : List AObj} {n : Bool} {x x' : AV} {K0 : AV → Prop} (hH : H = H') (hx : x = x') : eqpnP H n x K0 = eqpnP H' n x' K0 := by subst_vars; rfl
@[congr] theorem eqsnP_congr {H H' : List AObj} {n : Bool} {x x' : AV} {K0 : AV → Prop} (hH : H = H') (hx : x = x') : eqsnP H n x K0 = eqsnP H' n x' K0 := by subst_vars; rfl
@[congr] theorem convP_congr {k : IntKind} {x x' : AV} {K0 : AV → Prop} (hx : x = x') : convP k x K0 = convP k x' K0 := by subst_vars; rfl
@[congr] theorem pickP_congr {c c' : AV} {a a' : AV} {b b' : AV} {K0 : AV → Prop} (hc : c = c') (ha : a = a') (hb : b = b') : pickP c a b K0 = pickP c' a' b' K0 := by subst_vars; rfl
@[congr] theorem liveP_congr {o o' : AObj} {K0 : Prop} (ho : o = o') : liveP o K0 = liveP o' K0 := by subst_vars; rfl
@[congr] theorem nilckP_congr {H H' : List AObj} {x x' : AV} {K0 : AV → Prop} (hH : H = H') (hx : x = x') : nilckP H x K0 = nilckP H' x' K0 := by subst_vars; rfl
@[congr] theorem fldP_congr {H H' : List AObj} {n : Nat} {x x' : AV} {K0 : AV → Prop} (hH : H = H') (hx : x = x') : fldP H n x K0 = fldP H' n x' K0 := by subst_vars; rfl
@[congr] theorem idxAP_congr {H H' : List AObj} {n : Nat} {x x' : AV} {y y' : AV} {K0 : AV → Prop} (hH : H = H') (hx : x = x') (hy : y = y') : idxAP H n x y K0 = idxAP H' n x' y' K0 := by subst_vars; rfl
@[congr] theorem idxPP_congr {H H' : List AObj} {m : Nat} {n : Nat} {x x' : AV} {y y' : AV} {K0 : AV → Prop} (hH : H = H') (hx : x = x') (hy : y = y') : idxPP H m n x y K0 = idxPP H' m n x' y' K0 := by subst_vars; rfl
@[congr] theorem idxSP_congr {x x' : AV} {y y' : AV} {K0 : AV → Prop} (hx : x = x') (hy : y = y') : idxSP x y K0 = idxSP x' y' K0 := by subst_vars; rfl
@[congr] theorem loadC_congr {q : Option Nat} {cs cs' : List AV} {o o' : Nat} {K0 : AV → Prop} (hcs : cs = cs') (ho : o = o') : loadC q cs o K0 = loadC q cs' o' K0 := by subst_vars; rfl
@[congr] theorem loadO_congr {q : Option Nat} {b b' : AObj} {o o' : Nat} {K0 : AV → Prop} (hb : b = b') (ho : o = o') : loadO q b o K0 = loadO q b' o' K0 := by subst_vars; rfl
@[congr] theorem loadP_congr {H H' : List AObj} {q : Option Nat} {x x' : AV} {K0 : AV → Prop} (hH : H = H') (hx : x = x') : loadP H q x K0 = loadP H' q x' K0 := by subst_vars; rfl
@[congr] theorem storeO_congr {H H' : List AObj} {i : Nat} {b b' : AObj} {o o' : Nat} {n : Nat} {x x' : AV} {K0 : List AObj → Prop} (hH : H = H') (hb : b = b') (ho : o = o') (hx : x = x') : storeO H i b o n x K0 = storeO H' i b' o' n x' K0 := by subst_vars; rfl
@[congr] theorem storeP_congr {H H' : List AObj} {n : Nat} {x x' : AV} {y y' : AV} {K0 : List AObj → Prop} (hH : H = H') (hx : x = x') (hy : y = y') : storeP H n x y K0 = storeP H' n x' y' K0 := by subst_vars; rfl
@[congr] theorem lenP_congr {H H' : List AObj} {x x' : AV} {K0 : AV → Prop} (hH : H = H') (hx : x = x') : lenP H x K0 = lenP H' x' K0 := by subst_vars; rfl
@[congr] theorem maxP_congr {x x' : AV} {y y' : AV} {K0 : AV → Prop} (hx : x = x') (hy : y = y') : maxP x y K0 = maxP x' y' K0 := by subst_vars; rfl
@[congr] theorem minP_congr {x x' : AV} {y y' : AV} {K0 : AV → Prop} (hx : x = x') (hy : y = y') : minP x y K0 = minP x' y' K0 := by subst_vars; rfl
@[congr] theorem bdP_congr {d d' : Int} {z z' : Option AV} {K0 : Int → Prop} (hd : d = d') (hz : z = z') : bdP d z K0 = bdP d' z' K0 := by subst_vars; rfl
@[congr] theorem slcO_congr {b b' : AObj} {n : Nat} {i : Nat} {o o' : Nat} {len len' : Nat} {l l' : Int} {h h' : Int} {K0 : AV → Prop} (hb : b = b') (ho : o = o') (hlen : len = len') (hl : l = l') (hh : h = h') : slcO b n i o len l h K0 = slcO b' n i o' len' l' h' K0 := by subst_vars; rfl
@[congr] theorem slcP_congr {H H' : List AObj} {n : Nat} {x x' : AV} {l l' : Option AV} {h h' : Option AV} {K0 : AV → Prop} (hH : H = H') (hx : x = x') (hl : l = l') (hh : h = h') : slcP H n x l h K0 = slcP H' n x' l' h' K0 := by subst_vars; rfl
@[congr] theorem slcSP_congr {x x' : AV} {l l' : Option AV} {h h' : Option AV} {K0 : AV → Prop} (hx : x = x') (hl : l = l') (hh : h = h') : slcSP x l h K0 = slcSP x' l' h' K0 := by subst_vars; rfl
@[congr] theorem extP_congr {x x' : AV} {n : Nat} {K0 : AV → Prop} (hx : x = x') : extP x n K0 = extP x' n K0 := by subst_vars; rfl
@[congr] theorem srcO_congr {n : Nat} {b b' : AObj} {o o' : Nat} {len len' : Nat} {K0 : Nat → List AV → Prop} (hb : b = b') (ho : o = o') (hlen : len = len') : srcO n b o len K0 = srcO n b' o' len' K0 := by subst_vars; rfl
@[congr] theorem srcP_congr {H H' : List AObj} {n : Nat} {x x' : AV} {K0 : Nat → List AV → Prop} (hH : H = H') (hx : x = x') : srcP H n x K0 = srcP H' n x' K0 := by subst_vars; rfl
@[congr] theorem appO_congr {n0 n0' : Nat} {s s' : St} {t : TypeId} {sz : Nat} {by_ : Nat} {i : Nat} {o o' : Nat} {len len' : Nat} {b b' : AObj} {m m' : Nat} {src src' : List AV} {K0 : AV → St → Prop} (hn0 : n0 = n0') (hs : s = s') (ho : o = o') (hlen : len = len') (hb : b = b') (hm : m = m') (hsrc : src = src') : appO n0 s t sz by_ i o len b m src K0 = appO n0' s' t sz by_ i o' len' b' m' src' K0 := by subst_vars; rfl
@[congr] theorem appB_congr {n0 n0' : Nat} {s s' : St} {t : TypeId} {sz : Nat} {by_ : Nat} {x x' : AV} {m m' : Nat} {src src' : List AV} {K0 : AV → St → Prop} (hn0 : n0 = n0') (hs : s = s') (hx : x = x') (hm : m = m') (hsrc : src = src') : appB n0 s t sz by_ x m src K0 = appB n0' s' t sz by_ x' m' src' K0 := by subst_vars; rfl
@[congr] theorem appP_congr {n0 n0' : Nat} {s s' : St} {t : TypeId} {sz : Nat} {by_ : Nat} {x x' : AV} {y y' : AV} {K0 : AV → St → Prop} (hn0 : n0 = n0') (hs : s = s') (hx : x = x') (hy : y = y') : appP n0 s t sz by_ x y K0 = appP n0' s' t sz by_ x' y' K0 := by subst_vars; rfl
@[congr] theorem mkP_congr {s s' : St} {t : TypeId} {sz : Nat} {by_ : Nat} {zero : List AV} {x x' : AV} {y y' : AV} {K0 : AV → St → Prop} (hs : s = s') (hx : x = x') (hy : y = y') : mkP s t sz by_ zero x y K0 = mkP s' t sz by_ zero x' y' K0 := by subst_vars; rfl
@[congr] theorem ifB_congr {t t' : Bool} {K0 : Prop} {K1 : Prop} (ht : t = t') : ifB t K0 K1 = ifB t' K0 K1 := by subst_vars; rfl
@[congr] theorem wantB_congr {b : Bool} {x x' : AV} {K0 : Prop} {K1 : Prop} (hx : x = x') : wantB b x K0 K1 = wantB b x' K0 K1 := by subst_vars; rfl
@[congr] theorem condP_congr {x x' : AV} {K0 : Prop} {K1 : Prop} (hx : x = x') : condP x K0 K1 = condP x' K0 K1 := by subst_vars; rfl
@[congr] theorem ACall_congr {C : Ctx} {f : FuncId} {a a' : List AV} {s s' : St} {K0 : AV → St → Prop} (ha : a = a') (hs : s = s') : ACall C f a s K0 = ACall C f a' s' K0 := by subst_vars; rfl
@[congr] theorem callvP_congr {C : Ctx} {x x' : AV} {a a' : List AV} {s s' : St} {K0 : AV → St → Prop} (hx : x = x') (ha : a = a') (hs : s = s') : callvP C x a s K0 = callvP C x' a' s' K0 := by subst_vars; rfl
@[congr] theorem aop_congr {C : Ctx} {o : IOp} {s s' : St} {K0 : AV → St → Prop} (hs : s = s') : aop C o s K0 = aop C o s' K0 := by subst_vars; rfl
@[congr] theorem b2sC_congr {len len' : Nat} {cs cs' : List AV} {K0 : AV → Prop} (hlen : len = len') (hcs : cs = cs') : b2sC len cs K0 = b2sC len' cs' K0 := by subst_vars; rfl
@[congr] theorem b2sO_congr {b b' : AObj} {off off' : Nat} {len len' : Nat} {K0 : AV → Prop} (hb : b = b') (hoff : off = off') (hlen : len = len') : b2sO b off len K0 = b2sO b' off' len' K0 := by subst_vars; rfl
@[congr] theorem b2sP_congr {H H' : List AObj} {x x' : AV} {K0 : AV → Prop} (hH : H = H') (hx : x = x') : b2sP H x K0 = b2sP H' x' K0 := by subst_vars; rfl
@[congr] theorem eqinP_congr {n : Bool} {x x' : AV} {K0 : AV → Prop} (hx : x = x') : eqinP n x K0 = eqinP n x' K0 := by subst_vars; rfl
@[congr] theorem lkupO_congr {b b' : AObj} {zero : AV} {k : IntKind} {n n' : Int} {K0 : AV → Prop} (hb : b = b') (hn : n = n') : lkupO b zero k n K0 = lkupO b' zero k n' K0 := by subst_vars; rfl
@[congr] theorem lkupP_congr {H H' : List AObj} {zero : AV} {x x' : AV} {y y' : AV} {K0 : AV → Prop} (hH : H = H') (hx : x = x') (hy : y = y') : lkupP H zero x y K0 = lkupP H' zero x' y' K0 := by subst_vars; rfl
@[congr] theorem mapupO_congr {H H' : List AObj} {i : Nat} {b b' : AObj} {k : IntKind} {n n' : Int} {x x' : AV} {K0 : List AObj → Prop} (hH : H = H') (hb : b = b') (hn : n = n') (hx : x = x') : mapupO H i b k n x K0 = mapupO H' i b' k n' x' K0 := by subst_vars; rfl
@[congr] theorem mapupP_congr {H H' : List AObj} {x x' : AV} {y y' : AV} {v v' : AV} {K0 : List AObj → Prop} (hH : H = H') (hx : x = x') (hy : y = y') (hv : v = v') : mapupP H x y v K0 = mapupP H' x' y' v' K0 := by subst_vars; rfl
@[congr] theorem lenQ_congr {H H' : List AObj} {x x' : AV} {K0 : AV → Prop} (hH : H = H') (hx : x = x') : lenQ H x K0 = lenQ H' x' K0 := by subst_vars; rfl
@[congr] theorem fcallvP_congr {C : Ctx} {x x' : AV} {a a' : List AV} {K0 : AV → Prop} (hx : x = x') (ha : a = a') : fcallvP C x a K0 = fcallvP C x' a' K0 := by subst_vars; rfl
@[congr] theorem rop_congr {o : IOp} {f f' : List AV} {H H' : List AObj} {K0 : AV → Prop} (hf : f = f') (hH : H = H') : rop o f H K0 = rop o f' H' K0 := by subst_vars; rfl
@[congr] theorem fop_congr {C : Ctx} {o : IOp} {f f' : List AV} {K0 : AV → Prop} (hf : f = f') : fop C o f K0 = fop C o f' K0 := by subst_vars; rfl
@[congr] theorem wop_congr {C : Ctx} {o : IOp} {f f' : List AV} {H H' : List AObj} {K0 : AV → Option Nat → List AObj → Prop} (hf : f = f') (hH : H = H') : wop C o f H K0 = wop C o f' H' K0 := by subst_vars; rfl
@[congr] theorem wappO_congr {C : Ctx} {H H' : List AObj} {t : TypeId} {sz : Nat} {by_ : Nat} {i : Nat} {off off' : Nat} {len len' : Nat} {b b' : AObj} {m m' : Nat} {src src' : List AV} {K0 : AV → Option Nat → List AObj → Prop} (hH : H = H') (hoff : off = off') (hlen : len = len') (hb : b = b') (hm : m = m') (hsrc : src = src') : wappO C H t sz by_ i off len b m src K0 = wappO C H' t sz by_ i off' len' b' m' src' K0 := by subst_vars; rfl
@[congr] theorem wappB_congr {C : Ctx} {H H' : List AObj} {t : TypeId} {sz : Nat} {by_ : Nat} {x x' : AV} {m m' : Nat} {src src' : List AV} {K0 : AV → Option Nat → List AObj → Prop} (hH : H = H') (hx : x = x') (hm : m = m') (hsrc : src = src') : wappB C H t sz by_ x m src K0 = wappB C H' t sz by_ x' m' src' K0 := by subst_vars; rfl
@[congr] theorem wappP_congr {C : Ctx} {H H' : List AObj} {t : TypeId} {sz : Nat} {by_ : Nat} {x x' : AV} {y y' : AV} {K0 : AV → Option Nat → List AObj → Prop} (hH : H = H') (hx : x = x') (hy : y = y') : wappP C H t sz by_ x y K0 = wappP C H' t sz by_ x' y' K0 := by subst_vars; rfl
@[congr] theorem wmkP_congr {H H' : List AObj} {t : TypeId} {sz : Nat} {by_ : Nat} {zero : List AV} {x x' : AV} {y y' : AV} {K0 : AV → Option Nat → List AObj → Prop} (hH : H = H') (hx : x = x') (hy : y = y') : wmkP H t sz by_ zero x y K0 = wmkP H' t sz by_ zero x' y' K0 := by subst_vars; rfl
@[congr] theorem dops_congr {C : Ctx} {K : St → Prop} {l : List (IStep × Nat)} {s s' : St} (h : s = s') : dops C K l s = dops C K l s' := by subst_vars; rfl
@[congr] theorem aops_congr {C : Ctx} {K : St → Prop} {l : List IStep} {s s' : St} (h : s = s') : aops C K l s = aops C K l s' := by subst_vars; rfl
@[congr] theorem awp_congr {C : Ctx} {c : IC} {K : Ex → St → Prop} {s s' : St} (h : s = s') : awp C c K s = awp C c K s' := by subst_vars; rfl

/-! ### One step each -/
section
variable (C : Ctx)
theorem w_nil (K : St → Prop) (s : St) : aops C K [] s = K s := rfl
theorem w_cons (K : St → Prop) (d : Option Nat) (op : IOp) (os : List IStep) (s : St) : aops C K (⟨d, op, none⟩ :: os) s = aop C op s fun x s' => aops C K os ⟨put s'.f d x, s'.H⟩ := rfl
theorem w_consG (K : St → Prop) (d : Option Nat) (op : IOp) (j : Nat) (b : Bool) (os : List IStep) (s : St) : aops C K (⟨d, op, some (j, b)⟩ :: os) s = wantB b (s.f.getD j .junk) (aop C op s fun x s' => aops C K os ⟨put s'.f d x, s'.H⟩) (aops C K os ⟨put s.f d (.tup []), s.H⟩) := rfl
theorem w_put0 (f : List AV) (x : AV) : put f none x = f := rfl
theorem w_put1 (f : List AV) (d : Nat) (x : AV) : put f (some d) x = f.set d x := rfl
theorem w_evt (f : List AV) (i : Nat) : ev f (.t i) = f.getD i .junk := rfl
theorem w_evv (f : List AV) (x : AV) : ev f (.v x) = x := rfl
theorem w_regD (ops : List (IStep × Nat)) (K : Ex → St → Prop) (s : St) : awp C (.regD ops) K s = dops C (K .normal) ops s := rfl
theorem w_dnil (K : St → Prop) (s : St) : dops C K [] s = K s := rfl
theorem w_d0 (K : St → Prop) (d : Option Nat) (op : IOp) (os : List (IStep × Nat)) (s : St) : dops C K ((⟨d, op, none⟩, 0) :: os) s = (fop C op s.f fun x => dops C K os ⟨put s.f d x, s.H⟩) := rfl
theorem w_d0G (K : St → Prop) (d : Option Nat) (op : IOp) (j : Nat) (b : Bool) (os : List (IStep × Nat)) (s : St) : dops C K ((⟨d, op, some (j, b)⟩, 0) :: os) s = wantB b (s.f.getD j .junk) (fop C op s.f fun x => dops C K os ⟨put s.f d x, s.H⟩) (dops C K os ⟨put s.f d (.tup []), s.H⟩) := rfl
theorem w_d1 (K : St → Prop) (d : Option Nat) (op : IOp) (os : List (IStep × Nat)) (s : St) : dops C K ((⟨d, op, none⟩, 1) :: os) s = (rop op s.f s.H fun x => dops C K os ⟨put s.f d x, s.H⟩) := rfl
theorem w_d1G (K : St → Prop) (d : Option Nat) (op : IOp) (j : Nat) (b : Bool) (os : List (IStep × Nat)) (s : St) : dops C K ((⟨d, op, some (j, b)⟩, 1) :: os) s = wantB b (s.f.getD j .junk) (rop op s.f s.H fun x => dops C K os ⟨put s.f d x, s.H⟩) (dops C K os ⟨put s.f d (.tup []), s.H⟩) := rfl
theorem w_d2 (K : St → Prop) (d : Option Nat) (op : IOp) (os : List (IStep × Nat)) (s : St) : dops C K ((⟨d, op, none⟩, 2) :: os) s = (wop C op s.f s.H fun x k H => dops C K os ⟨put (killF k s.f) d x, H⟩) := rfl
theorem w_d2G (K : St → Prop) (d : Option Nat) (op : IOp) (j : Nat) (b : Bool) (os : List (IStep × Nat)) (s : St) : dops C K ((⟨d, op, some (j, b)⟩, 2) :: os) s = wantB b (s.f.getD j .junk) (wop C op s.f s.H fun x k H => dops C K os ⟨put (killF k s.f) d x, H⟩) (dops C K os ⟨put s.f d (.tup []), s.H⟩) := rfl
theorem w_d3 (K : St → Prop) (d : Option Nat) (op : IOp) (os : List (IStep × Nat)) (s : St) : dops C K ((⟨d, op, none⟩, 3) :: os) s = (wop C op s.f s.H fun x k H => dops C K os ⟨put (killF k s.f) d x, H⟩) := rfl
theorem w_d3G (K : St → Prop) (d : Option Nat) (op : IOp) (j : Nat) (b : Bool) (os : List (IStep × Nat)) (s : St) : dops C K ((⟨d, op, some (j, b)⟩, 3) :: os) s = wantB b (s.f.getD j .junk) (wop C op s.f s.H fun x k H => dops C K os ⟨put (killF k s.f) d x, H⟩) (dops C K os ⟨put s.f d (.tup []), s.H⟩) := rfl
theorem w_killF0 (f : List AV) : killF none f = f := rfl
theorem w_killF1 (f : List AV) (i : Nat) : killF (some i) f = killL i f := rfl
theorem w_r_mov (x : IA) (f : List AV) (H : List AObj) (K : AV → Prop) : rop (.mov x) f H K = (K (ev f x)) := rfl
theorem w_r_pick (c a b : IA) (f : List AV) (H : List AObj) (K : AV → Prop) : rop (.pick c a b) f H K = (pickP (ev f c) (ev f a) (ev f b) K) := rfl
theorem w_r_bin (op : BinOp) (x y : IA) (f : List AV) (H : List AObj) (K : AV → Prop) : rop (.bin op x y) f H K = (binP op (ev f x) (ev f y) K) := rfl
theorem w_r_eqb (n : Bool) (x y : IA) (f : List AV) (H : List AObj) (K : AV → Prop) : rop (.eqb n x y) f H K = (eqbP n (ev f x) (ev f y) K) := rfl
theorem w_r_eqpn (n : Bool) (x : IA) (f : List AV) (H : List AObj) (K : AV → Prop) : rop (.eqpn n x) f H K = (eqpnP H n (ev f x) K) := rfl
theorem w_r_eqsn (n : Bool) (x : IA) (f : List AV) (H : List AObj) (K : AV → Prop) : rop (.eqsn n x) f H K = (eqsnP H n (ev f x) K) := rfl
theorem w_r_not (x : IA) (f : List AV) (H : List AObj) (K : AV → Prop) : rop (.not x) f H K = (notP (ev f x) K) := rfl
theorem w_r_neg (x : IA) (f : List AV) (H : List AObj) (K : AV → Prop) : rop (.neg x) f H K = (negP (ev f x) K) := rfl
theorem w_r_conv (k : IntKind) (x : IA) (f : List AV) (H : List AObj) (K : AV → Prop) : rop (.conv k x) f H K = (convP k (ev f x) K) := rfl
theorem w_r_nilck (x : IA) (f : List AV) (H : List AObj) (K : AV → Prop) : rop (.nilck x) f H K = (nilckP H (ev f x) K) := rfl
theorem w_r_fld (n : Nat) (x : IA) (f : List AV) (H : List AObj) (K : AV → Prop) : rop (.fld n x) f H K = (fldP H n (ev f x) K) := rfl
theorem w_r_idxA (n : Nat) (x i : IA) (f : List AV) (H : List AObj) (K : AV → Prop) : rop (.idxA n x i) f H K = (idxAP H n (ev f x) (ev f i) K) := rfl
theorem w_r_idxP (m n : Nat) (x i : IA) (f : List AV) (H : List AObj) (K : AV → Prop) : rop (.idxP m n x i) f H K = (idxPP H m n (ev f x) (ev f i) K) := rfl
theorem w_r_idxS (x i : IA) (f : List AV) (H : List AObj) (K : AV → Prop) : rop (.idxS x i) f H K = (idxSP (ev f x) (ev f i) K) := rfl
theorem w_r_load (n : Option Nat) (x : IA) (f : List AV) (H : List AObj) (K : AV → Prop) : rop (.load n x) f H K = (loadP H n (ev f x) K) := rfl
theorem w_r_len (x : IA) (f : List AV) (H : List AObj) (K : AV → Prop) : rop (.len x) f H K = (lenQ H (ev f x) K) := rfl
theorem w_r_lenS (x : IA) (f : List AV) (H : List AObj) (K : AV → Prop) : rop (.lenS x) f H K = (lenSP (ev f x) K) := rfl
theorem w_r_max (x y : IA) (f : List AV) (H : List AObj) (K : AV → Prop) : rop (.max x y) f H K = (maxP (ev f x) (ev f y) K) := rfl
theorem w_r_min (x y : IA) (f : List AV) (H : List AObj) (K : AV → Prop) : rop (.min x y) f H K = (minP (ev f x) (ev f y) K) := rfl
theorem w_r_slc (n : Nat) (x : IA) (lo hi : Option IA) (f : List AV) (H : List AObj) (K : AV → Prop) : rop (.slc n x lo hi) f H K = (slcP H n (ev f x) (lo.map (ev f)) (hi.map (ev f)) K) := rfl
theorem w_r_slcS (x : IA) (lo hi : Option IA) (f : List AV) (H : List AObj) (K : AV → Prop) : rop (.slcS x lo hi) f H K = (slcSP (ev f x) (lo.map (ev f)) (hi.map (ev f)) K) := rfl
theorem w_r_ext (x : IA) (i : Nat) (f : List AV) (H : List AObj) (K : AV → Prop) : rop (.ext x i) f H K = (extP (ev f x) i K) := rfl
theorem w_r_build (zero : List AV) (parts : List (Nat × Nat × IA)) (f : List AV) (H : List AObj) (K : AV → Prop) : rop (.build zero parts) f H K = ((fillOk H zero.length (evP f parts) ∧ K (.agg (fillP zero (evP f parts))))) := rfl
theorem w_r_mkfn (f0 : FuncId) (cap : List IA) (f : List AV) (H : List AObj) (K : AV → Prop) : rop (.mkfn f0 cap) f H K = (K (.fn f0 (cap.map (ev f)))) := rfl
theorem w_r_b2s (x : IA) (f : List AV) (H : List AObj) (K : AV → Prop) : rop (.b2s x) f H K = (b2sP H (ev f x) K) := rfl
theorem w_r_eqin (n : Bool) (x : IA) (f : List AV) (H : List AObj) (K : AV → Prop) : rop (.eqin n x) f H K = (eqinP n (ev f x) K) := rfl
theorem w_r_lkup (zero : AV) (x k : IA) (f : List AV) (H : List AObj) (K : AV → Prop) : rop (.lkup zero x k) f H K = (lkupP H zero (ev f x) (ev f k) K) := rfl
theorem w_f_bin (op : BinOp) (x y : IA) (f : List AV) (K : AV → Prop) : fop C (.bin op x y) f K = (FrzL [ev f x, ev f y] ∧ binP op (ev f x) (ev f y) K) := rfl
theorem w_f_eqb (n : Bool) (x y : IA) (f : List AV) (K : AV → Prop) : fop C (.eqb n x y) f K = (FrzL [ev f x, ev f y] ∧ eqbP n (ev f x) (ev f y) K) := rfl
theorem w_f_eqpn (n : Bool) (x : IA) (f : List AV) (K : AV → Prop) : fop C (.eqpn n x) f K = (FrzL [ev f x] ∧ eqpnP [] n (ev f x) K) := rfl
theorem w_f_eqsn (n : Bool) (x : IA) (f : List AV) (K : AV → Prop) : fop C (.eqsn n x) f K = (FrzL [ev f x] ∧ eqsnP [] n (ev f x) K) := rfl
theorem w_f_not (x : IA) (f : List AV) (K : AV → Prop) : fop C (.not x) f K = (FrzL [ev f x] ∧ notP (ev f x) K) := rfl
theorem w_f_neg (x : IA) (f : List AV) (K : AV → Prop) : fop C (.neg x) f K = (FrzL [ev f x] ∧ negP (ev f x) K) := rfl
theorem w_f_conv (k : IntKind) (x : IA) (f : List AV) (K : AV → Prop) : fop C (.conv k x) f K = (FrzL [ev f x] ∧ convP k (ev f x) K) := rfl
theorem w_f_nilck (x : IA) (f : List AV) (K : AV → Prop) : fop C (.nilck x) f K = (FrzL [ev f x] ∧ nilckP [] (ev f x) K) := rfl
theorem w_f_fld (n : Nat) (x : IA) (f : List AV) (K : AV → Prop) : fop C (.fld n x) f K = (FrzL [ev f x] ∧ fldP [] n (ev f x) K) := rfl
theorem w_f_idxA (n : Nat) (x i : IA) (f : List AV) (K : AV → Prop) : fop C (.idxA n x i) f K = (FrzL [ev f x, ev f i] ∧ idxAP [] n (ev f x) (ev f i) K) := rfl
theorem w_f_idxP (m n : Nat) (x i : IA) (f : List AV) (K : AV → Prop) : fop C (.idxP m n x i) f K = (FrzL [ev f x, ev f i] ∧ idxPP [] m n (ev f x) (ev f i) K) := rfl
theorem w_f_idxS (x i : IA) (f : List AV) (K : AV → Prop) : fop C (.idxS x i) f K = (FrzL [ev f x, ev f i] ∧ idxSP (ev f x) (ev f i) K) := rfl
theorem w_f_load (n : Option Nat) (x : IA) (f : List AV) (K : AV → Prop) : fop C (.load n x) f K = (FrzL [ev f x] ∧ loadP [] n (ev f x) K) := rfl
theorem w_f_len (x : IA) (f : List AV) (K : AV → Prop) : fop C (.len x) f K = (FrzL [ev f x] ∧ lenQ [] (ev f x) K) := rfl
theorem w_f_lenS (x : IA) (f : List AV) (K : AV → Prop) : fop C (.lenS x) f K = (FrzL [ev f x] ∧ lenSP (ev f x) K) := rfl
theorem w_f_max (x y : IA) (f : List AV) (K : AV → Prop) : fop C (.max x y) f K = (FrzL [ev f x, ev f y] ∧ maxP (ev f x) (ev f y) K) := rfl
theorem w_f_min (x y : IA) (f : List AV) (K : AV → Prop) : fop C (.min x y) f K = (FrzL [ev f x, ev f y] ∧ minP (ev f x) (ev f y) K) := rfl
theorem w_f_slc (n : Nat) (x : IA) (lo hi : Option IA) (f : List AV) (K : AV → Prop) : fop C (.slc n x lo hi) f K = (FrzL [ev f x] ∧ slcP [] n (ev f x) (lo.map (ev f)) (hi.map (ev f)) K) := rfl
theorem w_f_slcS (x : IA) (lo hi : Option IA) (f : List AV) (K : AV → Prop) : fop C (.slcS x lo hi) f K = (FrzL [ev f x] ∧ slcSP (ev f x) (lo.map (ev f)) (hi.map (ev f)) K) := rfl
theorem w_f_ext (x : IA) (i : Nat) (f : List AV) (K : AV → Prop) : fop C (.ext x i) f K = (FrzL [ev f x] ∧ extP (ev f x) i K) := rfl
theorem w_f_build (zero : List AV) (parts : List (Nat × Nat × IA)) (f : List AV) (K : AV → Prop) : fop C (.build zero parts) f K = (FrzL (zero ++ (evP f parts).map fun p => p.2.2) ∧ (fillOk [] zero.length (evP f parts) ∧ K (.agg (fillP zero (evP f parts))))) := rfl
theorem w_f_b2s (x : IA) (f : List AV) (K : AV → Prop) : fop C (.b2s x) f K = (FrzL [ev f x] ∧ b2sP [] (ev f x) K) := rfl
theorem w_f_eqin (n : Bool) (x : IA) (f : List AV) (K : AV → Prop) : fop C (.eqin n x) f K = (FrzL [ev f x] ∧ eqinP n (ev f x) K) := rfl
theorem w_f_mov (x : IA) (f : List AV) (K : AV → Prop) : fop C (.mov x) f K = (okC x ∧ K (ev f x)) := rfl
theorem w_f_pick (c a b : IA) (f : List AV) (K : AV → Prop) : fop C (.pick c a b) f K = ((okC a ∧ okC b) ∧ pickP (ev f c) (ev f a) (ev f b) K) := rfl
theorem w_f_call (g : FuncId) (args : List IA) (f : List AV) (K : AV → Prop) : fop C (.call g args) f K = (FrzL (args.map (ev f)) ∧ ∃ v, C.pc g (args.map (ev f)) v ∧ K v) := rfl
theorem w_f_bslice (t sz len : Nat) (zero : List AV) (parts : List (Nat × Nat × IA)) (f : List AV) (K : AV → Prop) : fop C (.bslice t sz len zero parts) f K = ((FrzL zero ∧ FrzL ((evP f parts).map fun p => p.2.2)) ∧ fillOk [] (len * sz) (evP f parts) ∧ K (.sl len (fillP (reps len zero) (evP f parts)))) := rfl
theorem w_f_callv (g : IA) (args : List IA) (f : List AV) (K : AV → Prop) : fop C (.callv g args) f K = fcallvP C (ev f g) (args.map (ev f)) K := rfl
theorem w_okt (i : Nat) : okC (.t i) = True := rfl
theorem w_okv (x : AV) : okC (.v x) = Frz x := rfl
theorem w_w_store (n : Nat) (x v : IA) (f : List AV) (H : List AObj) (K : AV → Option Nat → List AObj → Prop) : wop C (.store n x v) f H K = (storeP H n (ev f x) (ev f v) fun H => K (.tup []) none H) := rfl
theorem w_w_alloc (t : TypeId) (zero : List AV) (f : List AV) (H : List AObj) (K : AV → Option Nat → List AObj → Prop) : wop C (.alloc t zero) f H K = K (.own H.length 0) none (H ++ [.arr t zero.length false zero]) := rfl
theorem w_w_box (t sz : Nat) (x : IA) (f : List AV) (H : List AObj) (K : AV → Option Nat → List AObj → Prop) : wop C (.box t sz x) f H K = (((cellsOf (ev f x)).length = sz ∧ 0 < sz ∧ OneL H (cellsOf (ev f x))) ∧ K (.own H.length 0) none (H ++ [.arr t sz false (cellsOf (ev f x))])) := rfl
theorem w_w_mk (t sz bytes : Nat) (zero : List AV) (l c : IA) (f : List AV) (H : List AObj) (K : AV → Option Nat → List AObj → Prop) : wop C (.mk t sz bytes zero l c) f H K = wmkP H t sz bytes zero (ev f l) (ev f c) K := rfl
theorem w_w_app (t sz bytes : Nat) (b x : IA) (f : List AV) (H : List AObj) (K : AV → Option Nat → List AObj → Prop) : wop C (.app t sz bytes b x) f H K = wappP C H t sz bytes (ev f b) (ev f x) K := rfl
theorem w_w_call (g : FuncId) (args : List IA) (f : List AV) (H : List AObj) (K : AV → Option Nat → List AObj → Prop) : wop C (.call g args) f H K = (C.call g (args.map (ev f)) H fun x H => K x none H) := rfl
theorem w_mov (x : IA) (s : St) (K : AV → St → Prop) : aop C (.mov x) s K = K (ev s.f x) s := rfl
theorem w_pick (c a b : IA) (s : St) (K : AV → St → Prop) : aop C (.pick c a b) s K = pickP (ev s.f c) (ev s.f a) (ev s.f b) (K · s) := rfl
theorem w_bin (op : BinOp) (x y : IA) (s : St) (K : AV → St → Prop) : aop C (.bin op x y) s K = binP op (ev s.f x) (ev s.f y) (K · s) := rfl
theorem w_eqb (n : Bool) (x y : IA) (s : St) (K : AV → St → Prop) : aop C (.eqb n x y) s K = eqbP n (ev s.f x) (ev s.f y) (K · s) := rfl
theorem w_eqpn (n : Bool) (x : IA) (s : St) (K : AV → St → Prop) : aop C (.eqpn n x) s K = eqpnP s.H n (ev s.f x) (K · s) := rfl
theorem w_eqsn (n : Bool) (x : IA) (s : St) (K : AV → St → Prop) : aop C (.eqsn n x) s K = eqsnP s.H n (ev s.f x) (K · s) := rfl
theorem w_not (x : IA) (s : St) (K : AV → St → Prop) : aop C (.not x) s K = notP (ev s.f x) (K · s) := rfl
theorem w_neg (x : IA) (s : St) (K : AV → St → Prop) : aop C (.neg x) s K = negP (ev s.f x) (K · s) := rfl
theorem w_conv (k : IntKind) (x : IA) (s : St) (K : AV → St → Prop) : aop C (.conv k x) s K = convP k (ev s.f x) (K · s) := rfl
theorem w_nilck (x : IA) (s : St) (K : AV → St → Prop) : aop C (.nilck x) s K = nilckP s.H (ev s.f x) (K · s) := rfl
theorem w_fld (n : Nat) (x : IA) (s : St) (K : AV → St → Prop) : aop C (.fld n x) s K = fldP s.H n (ev s.f x) (K · s) := rfl
theorem w_idxA (n : Nat) (x i : IA) (s : St) (K : AV → St → Prop) : aop C (.idxA n x i) s K = idxAP s.H n (ev s.f x) (ev s.f i) (K · s) := rfl
theorem w_idxP (m n : Nat) (x i : IA) (s : St) (K : AV → St → Prop) : aop C (.idxP m n x i) s K = idxPP s.H m n (ev s.f x) (ev s.f i) (K · s) := rfl
theorem w_idxS (x i : IA) (s : St) (K : AV → St → Prop) : aop C (.idxS x i) s K = idxSP (ev s.f x) (ev s.f i) (K · s) := rfl
theorem w_load (n : Option Nat) (x : IA) (s : St) (K : AV → St → Prop) : aop C (.load n x) s K = loadP s.H n (ev s.f x) (K · s) := rfl
theorem w_store (n : Nat) (x v : IA) (s : St) (K : AV → St → Prop) : aop C (.store n x v) s K = storeP s.H n (ev s.f x) (ev s.f v) fun H => K (.tup []) ⟨s.f, H⟩ := rfl
theorem w_len (x : IA) (s : St) (K : AV → St → Prop) : aop C (.len x) s K = lenP s.H (ev s.f x) (K · s) := rfl
theorem w_lenS (x : IA) (s : St) (K : AV → St → Prop) : aop C (.lenS x) s K = lenSP (ev s.f x) (K · s) := rfl
theorem w_max (x y : IA) (s : St) (K : AV → St → Prop) : aop C (.max x y) s K = maxP (ev s.f x) (ev s.f y) (K · s) := rfl
theorem w_min (x y : IA) (s : St) (K : AV → St → Prop) : aop C (.min x y) s K = minP (ev s.f x) (ev s.f y) (K · s) := rfl
theorem w_slc (n : Nat) (x : IA) (lo hi : Option IA) (s : St) (K : AV → St → Prop) : aop C (.slc n x lo hi) s K = slcP s.H n (ev s.f x) (lo.map (ev s.f)) (hi.map (ev s.f)) (K · s) := rfl
theorem w_slcS (x : IA) (lo hi : Option IA) (s : St) (K : AV → St → Prop) : aop C (.slcS x lo hi) s K = slcSP (ev s.f x) (lo.map (ev s.f)) (hi.map (ev s.f)) (K · s) := rfl
theorem w_ext (x : IA) (i : Nat) (s : St) (K : AV → St → Prop) : aop C (.ext x i) s K = extP (ev s.f x) i (K · s) := rfl
theorem w_alloc (t : TypeId) (zero : List AV) (s : St) (K : AV → St → Prop) : aop C (.alloc t zero) s K = K (.own s.H.length 0) ⟨s.f, s.H ++ [.arr t zero.length false zero]⟩ := rfl
theorem w_box (t : TypeId) (sz : Nat) (x : IA) (s : St) (K : AV → St → Prop) : aop C (.box t sz x) s K = (((cellsOf (ev s.f x)).length = sz ∧ 0 < sz ∧ OneL s.H (cellsOf (ev s.f x))) ∧ K (.own s.H.length 0) ⟨s.f, s.H ++ [.arr t sz false (cellsOf (ev s.f x))]⟩) := rfl
theorem w_build (zero : List AV) (parts : List (Nat × Nat × IA)) (s : St) (K : AV → St → Prop) : aop C (.build zero parts) s K = (fillOk s.H zero.length (evP s.f parts) ∧ K (.agg (fillP zero (evP s.f parts))) s) := rfl
theorem w_bslice (t : TypeId) (sz len : Nat) (zero : List AV) (parts : List (Nat × Nat × IA)) (s : St) (K : AV → St → Prop) : aop C (.bslice t sz len zero parts) s K = (fillOk s.H (len * sz) (evP s.f parts) ∧ K (.osl s.H.length 0 len) ⟨s.f, s.H ++ [.arr t sz false (fillP (reps len zero) (evP s.f parts))]⟩) := rfl
theorem w_mk (t : TypeId) (sz bytes : Nat) (zero : List AV) (l c : IA) (s : St) (K : AV → St → Prop) : aop C (.mk t sz bytes zero l c) s K = mkP s t sz bytes zero (ev s.f l) (ev s.f c) K := rfl
theorem w_app (t : TypeId) (sz bytes : Nat) (b x : IA) (s : St) (K : AV → St → Prop) : aop C (.app t sz bytes b x) s K = appP C.n0 s t sz bytes (ev s.f b) (ev s.f x) K := rfl
theorem w_call (f : FuncId) (args : List IA) (s : St) (K : AV → St → Prop) : aop C (.call f args) s K = ACall C f (args.map (ev s.f)) s K := rfl
theorem w_callv (g : IA) (args : List IA) (s : St) (K : AV → St → Prop) : aop C (.callv g args) s K = callvP C (ev s.f g) (args.map (ev s.f)) s K := rfl
theorem w_mkfn (f : FuncId) (cap : List IA) (s : St) (K : AV → St → Prop) : aop C (.mkfn f cap) s K = K (.fn f (cap.map (ev s.f))) s := rfl
theorem w_b2s (x : IA) (s : St) (K : AV → St → Prop) : aop C (.b2s x) s K = b2sP s.H (ev s.f x) (K · s) := rfl
theorem w_eqin (n : Bool) (x : IA) (s : St) (K : AV → St → Prop) : aop C (.eqin n x) s K = eqinP n (ev s.f x) (K · s) := rfl
theorem w_mkmap (k : IntKind) (s : St) (K : AV → St → Prop) : aop C (.mkmap k) s K = K (.mref s.H.length) ⟨s.f, s.H ++ [.mp k []]⟩ := rfl
theorem w_lkup (zero : AV) (x k : IA) (s : St) (K : AV → St → Prop) : aop C (.lkup zero x k) s K = lkupP s.H zero (ev s.f x) (ev s.f k) (K · s) := rfl
theorem w_mapup (x k v : IA) (s : St) (K : AV → St → Prop) : aop C (.mapup x k v) s K = mapupP s.H (ev s.f x) (ev s.f k) (ev s.f v) fun H => K (.tup []) ⟨s.f, H⟩ := rfl
theorem w_skip (K : Ex → St → Prop) (s : St) : awp C .skip K s = K .normal s := rfl
theorem w_reg (ops : List IStep) (K : Ex → St → Prop) (s : St) : awp C (.reg ops) K s = aops C (K .normal) ops s := rfl
theorem w_seq (a b : IC) (K : Ex → St → Prop) (s : St) : awp C (.seq a b) K s = awp C a (exSeq (awp C b K) K) s := rfl
theorem w_cond (c : IA) (a b : IC) (K : Ex → St → Prop) (s : St) : awp C (.cond c a b) K s = condP (ev s.f c) (awp C a K s) (awp C b K s) := rfl
theorem w_block (i : Nat) (b : IC) (K : Ex → St → Prop) (s : St) : awp C (.block i b) K s = awp C b (exBlock i K) s := rfl
theorem w_exit (i : Nat) (K : Ex → St → Prop) (s : St) : awp C (.exit i) K s = K (.exit i) s := rfl
theorem w_ret (K : Ex → St → Prop) (s : St) : awp C .ret K s = K .ret s := rfl
theorem w_exSeqN (N : St → Prop) (K : Ex → St → Prop) (s : St) : exSeq N K .normal s = N s := rfl
theorem w_exSeqE (N : St → Prop) (K : Ex → St → Prop) (i : Nat) (s : St) : exSeq N K (.exit i) s = K (.exit i) s := rfl
theorem w_exSeqR (N : St → Prop) (K : Ex → St → Prop) (s : St) : exSeq N K .ret s = K .ret s := rfl
theorem w_exBlockN (i : Nat) (K : Ex → St → Prop) (s : St) : exBlock i K .normal s = K .normal s := rfl
theorem w_exBlockE (i j : Nat) (K : Ex → St → Prop) (s : St) : exBlock i K (.exit j) s = if j = i then K .normal s else K (.exit j) s := rfl
theorem w_exBlockR (i : Nat) (K : Ex → St → Prop) (s : St) : exBlock i K .ret s = K .ret s := rfl
end

/-! ### Case by case -/
theorem c_add (k : IntKind) (a b : Int) {K : AV → Prop} : binP .add (.int k a) (.int k b) K = K (.int k (k.wrap (a + b))) := by simp only [binP, true_and]
theorem c_sub (k : IntKind) (a b : Int) {K : AV → Prop} : binP .sub (.int k a) (.int k b) K = K (.int k (k.wrap (a - b))) := by simp only [binP, true_and]
theorem c_mul (k : IntKind) (a b : Int) {K : AV → Prop} : binP .mul (.int k a) (.int k b) K = K (.int k (k.wrap (a * b))) := by simp only [binP, true_and]
theorem c_and (k : IntKind) (a b : Int) {K : AV → Prop} : binP .and (.int k a) (.int k b) K = K (.int k (k.wrap (BitVec.ofInt k.bits a &&& BitVec.ofInt k.bits b).toNat)) := by simp only [binP, true_and]
theorem c_or (k : IntKind) (a b : Int) {K : AV → Prop} : binP .or (.int k a) (.int k b) K = K (.int k (k.wrap (BitVec.ofInt k.bits a ||| BitVec.ofInt k.bits b).toNat)) := by simp only [binP, true_and]
theorem c_xor (k : IntKind) (a b : Int) {K : AV → Prop} : binP .xor (.int k a) (.int k b) K = K (.int k (k.wrap (BitVec.ofInt k.bits a ^^^ BitVec.ofInt k.bits b).toNat)) := by simp only [binP, true_and]
theorem c_quo (k : IntKind) (a b : Int) {K : AV → Prop} : binP .quo (.int k a) (.int k b) K = (b ≠ 0 ∧ K (.int k (k.wrap (a.tdiv b)))) := by simp only [binP, true_and]
theorem c_rem (k : IntKind) (a b : Int) {K : AV → Prop} : binP .rem (.int k a) (.int k b) K = (b ≠ 0 ∧ K (.int k (a.tmod b))) := by simp only [binP, true_and]
theorem c_eql (k : IntKind) (a b : Int) {K : AV → Prop} : binP .eql (.int k a) (.int k b) K = K (.bool (decide (a = b))) := by simp only [binP, true_and]
theorem c_neq (k : IntKind) (a b : Int) {K : AV → Prop} : binP .neq (.int k a) (.int k b) K = K (.bool (decide (a ≠ b))) := by simp only [binP, true_and]
theorem c_lss (k : IntKind) (a b : Int) {K : AV → Prop} : binP .lss (.int k a) (.int k b) K = K (.bool (decide (a < b))) := by simp only [binP, true_and]
theorem c_leq (k : IntKind) (a b : Int) {K : AV → Prop} : binP .leq (.int k a) (.int k b) K = K (.bool (decide (a ≤ b))) := by simp only [binP, true_and]
theorem c_gtr (k : IntKind) (a b : Int) {K : AV → Prop} : binP .gtr (.int k a) (.int k b) K = K (.bool (decide (b < a))) := by simp only [binP, true_and]
theorem c_geq (k : IntKind) (a b : Int) {K : AV → Prop} : binP .geq (.int k a) (.int k b) K = K (.bool (decide (b ≤ a))) := by simp only [binP, true_and]
theorem c_shl (k k' : IntKind) (a b : Int) {K : AV → Prop} : binP .shl (.int k a) (.int k' b) K = (0 ≤ b ∧ K (.int k (k.wrap (a * 2 ^ (min b.toNat k.bits))))) := rfl
theorem c_shr (k k' : IntKind) (a b : Int) {K : AV → Prop} : binP .shr (.int k a) (.int k' b) K = (0 ≤ b ∧ K (.int k (a.fdiv (2 ^ (min b.toNat k.bits))))) := rfl
theorem c_adds (a b : List UInt8) {K : AV → Prop} : binP .add (.str a) (.str b) K = (a.length + b.length ≤ 9223372036854775807 ∧ K (.str (a ++ b))) := rfl
theorem c_eqls (a b : List UInt8) {K : AV → Prop} : binP .eql (.str a) (.str b) K = K (.bool (a == b)) := rfl
theorem c_neqs (a b : List UInt8) {K : AV → Prop} : binP .neq (.str a) (.str b) K = K (.bool (!(a == b))) := rfl
theorem c_eqb (n a b : Bool) {K : AV → Prop} : eqbP n (.bool a) (.bool b) K = K (.bool ((a == b) != n)) := rfl
theorem c_eqpn0 (H : List AObj) (n : Bool) {K : AV → Prop} : eqpnP H n .nilp K = K (.bool (!n)) := rfl
theorem c_eqpn1 (H : List AObj) (n : Bool) (cs : List AV) (o : Nat) {K : AV → Prop} : eqpnP H n (.ptr cs o) K = K (.bool n) := rfl
theorem c_eqpn2 (H : List AObj) (n : Bool) (i o : Nat) {K : AV → Prop} : eqpnP H n (.own i o) K = liveP (H.getD i .dead) (K (.bool n)) := rfl
theorem c_eqsn0 (H : List AObj) (n : Bool) {K : AV → Prop} : eqsnP H n .nils K = K (.bool (!n)) := rfl
theorem c_eqsn1 (H : List AObj) (n : Bool) (len : Nat) (cs : List AV) {K : AV → Prop} : eqsnP H n (.sl len cs) K = (0 < len ∧ K (.bool n)) := rfl
theorem c_not (b : Bool) {K : AV → Prop} : notP (.bool b) K = K (.bool (!b)) := rfl
theorem c_neg (k : IntKind) (n : Int) {K : AV → Prop} : negP (.int k n) K = K (.int k (k.wrap (0 - n))) := rfl
theorem c_conv (k k' : IntKind) (n : Int) {K : AV → Prop} : convP k (.int k' n) K = K (.int k (k.wrap n)) := rfl
theorem c_pickT (a b : AV) {K : AV → Prop} : pickP (.bool true) a b K = K a := rfl
theorem c_pickF (a b : AV) {K : AV → Prop} : pickP (.bool false) a b K = K b := rfl
theorem c_live (t : TypeId) (es : Nat) (l : Bool) (cs : List AV) (K : Prop) : liveP (.arr t es l cs) K = K := rfl
theorem c_nilck0 (H : List AObj) (cs : List AV) (o : Nat) {K : AV → Prop} : nilckP H (.ptr cs o) K = K (.ptr cs o) := rfl
theorem c_nilck1 (H : List AObj) (i o : Nat) {K : AV → Prop} : nilckP H (.own i o) K = liveP (H.getD i .dead) (K (.own i o)) := rfl
theorem c_fld0 (H : List AObj) (n : Nat) (cs : List AV) (o : Nat) {K : AV → Prop} : fldP H n (.ptr cs o) K = K (.ptr cs (o + n)) := rfl
theorem c_fld1 (H : List AObj) (n : Nat) (i o : Nat) {K : AV → Prop} : fldP H n (.own i o) K = liveP (H.getD i .dead) (K (.own i (o + n))) := rfl
theorem c_idxA0 (H : List AObj) (sz len : Nat) (cs : List AV) (k : IntKind) (n : Int) {K : AV → Prop} : idxAP H sz (.sl len cs) (.int k n) K = ((0 ≤ n ∧ n < len) ∧ K (.ptr cs (n.toNat * sz))) := rfl
theorem c_idxA1 (H : List AObj) (sz id off len : Nat) (k : IntKind) (n : Int) {K : AV → Prop} : idxAP H sz (.osl id off len) (.int k n) K = liveP (H.getD id .dead) ((0 ≤ n ∧ n < len) ∧ K (.own id (off + n.toNat * sz))) := rfl
theorem c_idxP0 (H : List AObj) (m sz : Nat) (cs : List AV) (o : Nat) (k : IntKind) (n : Int) {K : AV → Prop} : idxPP H m sz (.ptr cs o) (.int k n) K = ((0 ≤ n ∧ n < m) ∧ K (.ptr cs (o + n.toNat * sz))) := rfl
theorem c_idxP1 (H : List AObj) (m sz id off : Nat) (k : IntKind) (n : Int) {K : AV → Prop} : idxPP H m sz (.own id off) (.int k n) K = liveP (H.getD id .dead) ((0 ≤ n ∧ n < m) ∧ K (.own id (off + n.toNat * sz))) := rfl
theorem c_idxS (s : List UInt8) (k : IntKind) (n : Int) {K : AV → Prop} : idxSP (.str s) (.int k n) K = ((0 ≤ n ∧ n < s.length) ∧ K (.int .u8 (s.getD n.toNat 0).toNat)) := rfl
theorem c_load0 (cs : List AV) (o : Nat) {K : AV → Prop} : loadC none cs o K = (o < cs.length ∧ K (cs.getD o .junk)) := rfl
theorem c_load1 (m : Nat) (cs : List AV) (o : Nat) {K : AV → Prop} : loadC (some m) cs o K = (o + m ≤ cs.length ∧ K (.agg ((cs.drop o).take m))) := rfl
theorem c_loadO (q : Option Nat) (t es : Nat) (l : Bool) (cs : List AV) (o : Nat) {K : AV → Prop} : loadO q (.arr t es l cs) o K = loadC q cs o K := rfl
theorem c_loadP0 (H : List AObj) (q : Option Nat) (cs : List AV) (o : Nat) {K : AV → Prop} : loadP H q (.ptr cs o) K = loadC q cs o K := rfl
theorem c_loadP1 (H : List AObj) (q : Option Nat) (i o : Nat) {K : AV → Prop} : loadP H q (.own i o) K = loadO q (H.getD i .dead) o K := rfl
theorem c_cells_agg (cs : List AV) : cellsOf (.agg cs) = cs := rfl
theorem c_cells_int (k : IntKind) (n : Int) : cellsOf (.int k n) = [.int k n] := rfl
theorem c_cells_bool (b : Bool) : cellsOf (.bool b) = [.bool b] := rfl
theorem c_cells_str (s : List UInt8) : cellsOf (.str s) = [.str s] := rfl
theorem c_cells_nilp  : cellsOf (.nilp) = [.nilp] := rfl
theorem c_cells_ptr (cs : List AV) (o : Nat) : cellsOf (.ptr cs o) = [.ptr cs o] := rfl
theorem c_cells_nils  : cellsOf (.nils) = [.nils] := rfl
theorem c_cells_sl (n : Nat) (cs : List AV) : cellsOf (.sl n cs) = [.sl n cs] := rfl
theorem c_cells_own (i o : Nat) : cellsOf (.own i o) = [.own i o] := rfl
theorem c_cells_osl (i o n : Nat) : cellsOf (.osl i o n) = [.osl i o n] := rfl
theorem c_cells_fn (f : FuncId) (cs : List AV) : cellsOf (.fn f cs) = [.fn f cs] := rfl
theorem c_putAt0 (cs : List AV) (o : Nat) : putAt cs o [] = cs := rfl
theorem c_putAt1 (cs : List AV) (o : Nat) (x : AV) (xs : List AV) : putAt cs o (x :: xs) = putAt (cs.set o x) (o + 1) xs := rfl
theorem c_storeO (H : List AObj) (id t es : Nat) (cs : List AV) (o sz : Nat) (v : AV) {K : List AObj → Prop} : storeO H id (.arr t es false cs) o sz v K = (((cellsOf v).length = sz ∧ 0 < sz ∧ o + sz ≤ cs.length ∧ OneL H (cellsOf v)) ∧ K (H.set id (.arr t es false (putAt cs o (cellsOf v))))) := rfl
theorem c_storeP (H : List AObj) (sz id o : Nat) (v : AV) {K : List AObj → Prop} : storeP H sz (.own id o) v K = storeO H id (H.getD id .dead) o sz v K := rfl
theorem c_len0 (H : List AObj) {K : AV → Prop} : lenP H .nils K = K (.int .i64 0) := rfl
theorem c_len1 (H : List AObj) (len : Nat) (cs : List AV) {K : AV → Prop} : lenP H (.sl len cs) K = (len ≤ 9223372036854775807 → K (.int .i64 len)) := rfl
theorem c_len2 (H : List AObj) (id off len : Nat) {K : AV → Prop} : lenP H (.osl id off len) K = liveP (H.getD id .dead) (len ≤ 9223372036854775807 → K (.int .i64 len)) := rfl
theorem c_lenS (s : List UInt8) {K : AV → Prop} : lenSP (.str s) K = K (.int .i64 s.length) := rfl
theorem c_lenQ0 (H : List AObj) {K : AV → Prop} : lenQ H .nils K = K (.int .i64 0) := rfl
theorem c_lenQ1 (H : List AObj) (len : Nat) (cs : List AV) {K : AV → Prop} : lenQ H (.sl len cs) K = (len ≤ 9223372036854775807 ∧ K (.int .i64 len)) := rfl
theorem c_lenQ2 (H : List AObj) (id off len : Nat) {K : AV → Prop} : lenQ H (.osl id off len) K = liveP (H.getD id .dead) (len ≤ 9223372036854775807 ∧ K (.int .i64 len)) := rfl
theorem c_b2s0 (H : List AObj) {K : AV → Prop} : b2sP H .nils K = K (.str []) := rfl
theorem c_b2s1 (H : List AObj) (len : Nat) (cs : List AV) {K : AV → Prop} : b2sP H (.sl len cs) K = b2sC len cs K := rfl
theorem c_b2s2 (H : List AObj) (id off len : Nat) {K : AV → Prop} : b2sP H (.osl id off len) K = b2sO (H.getD id .dead) off len K := rfl
theorem c_b2sO (t es : Nat) (l : Bool) (cs : List AV) (off len : Nat) {K : AV → Prop} : b2sO (.arr t es l cs) off len K = (es = 1 ∧ b2sC len ((cs.drop off).take len) K) := rfl
theorem c_b2sC {len : Nat} {cs : List AV} {l : List UInt8} {K : AV → Prop} (h : bytesL cs = some l) : b2sC len cs K = (cs.length = len ∧ K (.str l)) := by simp only [b2sC, h]
theorem c_eqin0 (n : Bool) {K : AV → Prop} : eqinP n (.raw .nilIface) K = K (.bool (!n)) := rfl
theorem c_eqin1 (n : Bool) (t : TypeId) (v : Value) {K : AV → Prop} : eqinP n (.raw (.iface t v)) K = K (.bool n) := rfl
theorem c_lkup (H : List AObj) (zero : AV) (id : Nat) (k : IntKind) (n : Int) {K : AV → Prop} : lkupP H zero (.mref id) (.int k n) K = lkupO (H.getD id .dead) zero k n K := rfl
theorem c_lkupO (es : List (Int × AV)) (zero : AV) (k k' : IntKind) (n : Int) {K : AV → Prop} : lkupO (.mp k' es) zero k n K = (k = k' ∧ K ((mget es n).getD zero)) := rfl
theorem c_mapup (H : List AObj) (id : Nat) (k : IntKind) (n : Int) (v : AV) {K : List AObj → Prop} : mapupP H (.mref id) (.int k n) v K = mapupO H id (H.getD id .dead) k n v K := rfl
theorem c_mapupO (H : List AObj) (id : Nat) (es : List (Int × AV)) (k k' : IntKind) (n : Int) (v : AV) {K : List AObj → Prop} : mapupO H id (.mp k' es) k n v K = ((k = k' ∧ Frz v) ∧ K (H.set id (.mp k (mset es n v)))) := rfl
theorem c_fcallv (C : Ctx) (f : FuncId) (cap args : List AV) {K : AV → Prop} : fcallvP C (.fn f cap) args K = ((C.ent f ∧ FrzL args ∧ FrzL cap) ∧ ∃ v, C.pc f (args ++ cap) v ∧ K v) := rfl
theorem c_wappP (C : Ctx) (H : List AObj) (t sz bytes : Nat) (b x : AV) {K : AV → Option Nat → List AObj → Prop} : wappP C H t sz bytes b x K = srcP H sz x fun m src => wappB C H t sz bytes b m src K := rfl
theorem c_wapp0 (C : Ctx) (H : List AObj) (t sz bytes m : Nat) (src : List AV) {K : AV → Option Nat → List AObj → Prop} : wappB C H t sz bytes .nils m src K = ((m * bytes ≤ 140737488355328 ∧ OneL H src) ∧ K (.osl H.length 0 m) none (H ++ [.arr t sz false src])) := rfl
theorem c_wapp1 (C : Ctx) (H : List AObj) (t sz bytes id off len m : Nat) (src : List AV) {K : AV → Option Nat → List AObj → Prop} : wappB C H t sz bytes (.osl id off len) m src K = wappO C H t sz bytes id off len (H.getD id .dead) m src K := rfl
theorem c_wappO (C : Ctx) (H : List AObj) (t sz bytes id off len t' es : Nat) (l : Bool) (cs : List AV) (m : Nat) (src : List AV) {K : AV → Option Nat → List AObj → Prop} : wappO C H t sz bytes id off len (.arr t' es l cs) m src K = (((C.n0 ≤ id ∧ t' = t ∧ es = sz ∧ off = 0 ∧ cs.length = len * sz ∧ OneL H src ∧ (l = true → FrzL src)) ∧ (len + m) * bytes ≤ 140737488355328) ∧ K (.osl id 0 (len + m)) (some id) ((H.map (killO id)).set id (.arr t sz l (killL id (cs ++ src))))) := rfl
theorem c_wmk (H : List AObj) (t sz bytes : Nat) (zero : List AV) (k k' : IntKind) (nl nc : Int) {K : AV → Option Nat → List AObj → Prop} : wmkP H t sz bytes zero (.int k nl) (.int k' nc) K = ((0 ≤ nl ∧ nl ≤ nc ∧ nc * bytes ≤ 140737488355328) ∧ K (.osl H.length 0 nl.toNat) none (H ++ [.arr t sz false (reps nl.toNat zero)])) := rfl
theorem c_max (k k' : IntKind) (a b : Int) {K : AV → Prop} : maxP (.int k a) (.int k' b) K = K (.int k (if b > a then b else a)) := rfl
theorem c_min (k k' : IntKind) (a b : Int) {K : AV → Prop} : minP (.int k a) (.int k' b) K = K (.int k (if b < a then b else a)) := rfl
theorem c_bd0 (d : Int) {K : Int → Prop} : bdP d none K = K d := rfl
theorem c_bd1 (d : Int) (k : IntKind) (n : Int) {K : Int → Prop} : bdP d (some (.int k n)) K = K n := rfl
theorem c_slcO (t es : Nat) (l0 : Bool) (cs : List AV) (sz id off len : Nat) (l h : Int) {K : AV → Prop} : slcO (.arr t es l0 cs) sz id off len l h K = ((es = sz ∧ 0 ≤ l ∧ l ≤ h ∧ h ≤ len) ∧ (l = h → K (.sl 0 [])) ∧ (l < h → K (.osl id (off + l.toNat * sz) (h - l).toNat))) := rfl
theorem c_slc0 (H : List AObj) (sz : Nat) (lo hi : Option AV) {K : AV → Prop} : slcP H sz .nils lo hi K = bdP 0 lo fun l => bdP 0 hi fun h => (l = 0 ∧ h = 0) ∧ K .nils := rfl
theorem c_slc1 (H : List AObj) (sz len : Nat) (cs : List AV) (lo hi : Option AV) {K : AV → Prop} : slcP H sz (.sl len cs) lo hi K = bdP 0 lo fun l => bdP len hi fun h => (0 ≤ l ∧ l ≤ h ∧ h ≤ len ∧ cs.length = len * sz) ∧ K (.sl (h - l).toNat ((cs.drop (l.toNat * sz)).take ((h - l).toNat * sz))) := rfl
theorem c_slc2 (H : List AObj) (sz id off len : Nat) (lo hi : Option AV) {K : AV → Prop} : slcP H sz (.osl id off len) lo hi K = bdP 0 lo fun l => bdP len hi fun h => slcO (H.getD id .dead) sz id off len l h K := rfl
theorem c_slcS (s : List UInt8) (lo hi : Option AV) {K : AV → Prop} : slcSP (.str s) lo hi K = bdP 0 lo fun l => bdP s.length hi fun h => (0 ≤ l ∧ l ≤ h ∧ h ≤ s.length) ∧ K (.str ((s.drop l.toNat).take (h - l).toNat)) := rfl
theorem c_ext (vs : List AV) (i : Nat) {K : AV → Prop} : extP (.tup vs) i K = (i < vs.length ∧ K (vs.getD i .junk)) := rfl
theorem c_fill0 (cs : List AV) : fillP cs [] = cs := rfl
theorem c_fill1 (cs : List AV) (o z : Nat) (x : AV) (ps : List (Nat × Nat × AV)) : fillP cs ((o, z, x) :: ps) = fillP (putAt cs o (cellsOf x)) ps := rfl
theorem c_fillOk0 (H : List AObj) (n : Nat) : fillOk H n [] = True := rfl
theorem c_fillOk1 (H : List AObj) (n o sz : Nat) (x : AV) (ps : List (Nat × Nat × AV)) : fillOk H n ((o, sz, x) :: ps) = (((cellsOf x).length = sz ∧ 0 < sz ∧ o + sz ≤ n ∧ OneL H (cellsOf x)) ∧ fillOk H n ps) := rfl
theorem c_evP0 (f : List AV) : evP f [] = [] := rfl
theorem c_evP1 (f : List AV) (o z : Nat) (x : IA) (ps : List (Nat × Nat × IA)) : evP f ((o, z, x) :: ps) = (o, z, ev f x) :: evP f ps := rfl
theorem c_srcO (sz t es : Nat) (l : Bool) (cs : List AV) (off len : Nat) {K : Nat → List AV → Prop} : srcO sz (.arr t es l cs) off len K = (off + len * sz ≤ cs.length ∧ K len ((cs.drop off).take (len * sz))) := rfl
theorem c_src0 (H : List AObj) (sz : Nat) {K : Nat → List AV → Prop} : srcP H sz .nils K = K 0 [] := rfl
theorem c_src1 (H : List AObj) (sz len : Nat) (cs : List AV) {K : Nat → List AV → Prop} : srcP H sz (.sl len cs) K = (cs.length = len * sz ∧ K len cs) := rfl
theorem c_src2 (H : List AObj) (sz id off len : Nat) {K : Nat → List AV → Prop} : srcP H sz (.osl id off len) K = srcO sz (H.getD id .dead) off len K := rfl
theorem c_appO (n0 : Nat) (s : St) (t sz bytes id off len t' es : Nat) (l : Bool) (cs : List AV) (m : Nat) (src : List AV) {K : AV → St → Prop} : appO n0 s t sz bytes id off len (.arr t' es l cs) m src K = (((n0 ≤ id ∧ t' = t ∧ es = sz ∧ off = 0 ∧ cs.length = len * sz ∧ OneL s.H src ∧ (l = true → FrzL src)) ∧ (len + m) * bytes ≤ 140737488355328) ∧ K (.osl id 0 (len + m)) ⟨killL id s.f, (s.H.map (killO id)).set id (.arr t sz l (killL id (cs ++ src)))⟩) := rfl
theorem c_app0 (n0 : Nat) (s : St) (t sz bytes m : Nat) (src : List AV) {K : AV → St → Prop} : appB n0 s t sz bytes .nils m src K = ((m * bytes ≤ 140737488355328 ∧ OneL s.H src) ∧ K (.osl s.H.length 0 m) ⟨s.f, s.H ++ [.arr t sz false src]⟩) := rfl
theorem c_app1 (n0 : Nat) (s : St) (t sz bytes id off len m : Nat) (src : List AV) {K : AV → St → Prop} : appB n0 s t sz bytes (.osl id off len) m src K = appO n0 s t sz bytes id off len (s.H.getD id .dead) m src K := rfl
theorem c_appP (n0 : Nat) (s : St) (t sz bytes : Nat) (b x : AV) {K : AV → St → Prop} : appP n0 s t sz bytes b x K = srcP s.H sz x fun m src => appB n0 s t sz bytes b m src K := rfl
theorem c_mk (s : St) (t sz bytes : Nat) (zero : List AV) (k k' : IntKind) (nl nc : Int) {K : AV → St → Prop} : mkP s t sz bytes zero (.int k nl) (.int k' nc) K = ((0 ≤ nl ∧ nl ≤ nc ∧ nc * bytes ≤ 140737488355328) ∧ K (.osl s.H.length 0 nl.toNat) ⟨s.f, s.H ++ [.arr t sz false (reps nl.toNat zero)]⟩) := rfl
theorem c_cond (t : Bool) {A B : Prop} : condP (.bool t) A B = ifB t A B := rfl
theorem c_want (b t : Bool) {A B : Prop} : wantB b (.bool t) A B = ifB (t == b) A B := rfl
theorem c_want0 (b : Bool) {A B : Prop} : wantB b (.tup []) A B = B := rfl
theorem c_ifT {A B : Prop} : ifB true A B = A := by simp [ifB]
theorem c_ifF {A B : Prop} : ifB false A B = B := by simp [ifB]
theorem c_beqT (t : Bool) : (t == true) = t := by cases t <;> rfl
theorem c_beqF (t : Bool) : (t == false) = !t := by cases t <;> rfl
theorem c_callv (C : Ctx) (f : FuncId) (cap args : List AV) (s : St) {K : AV → St → Prop} : callvP C (.fn f cap) args s K = (C.ent f ∧ ACall C f (args ++ cap) s K) := rfl
theorem ifB_dec {p : Prop} [Decidable p] {A B : Prop} (h : p → A) (k : ¬ p → B) : ifB (decide p) A B := ⟨fun e => h (of_decide_eq_true e), fun e => k (of_decide_eq_false e)⟩
theorem ifB_bool {t : Bool} {A B : Prop} (h : t = true → A) (k : t = false → B) : ifB t A B := ⟨h, k⟩
theorem ifB_not {t : Bool} {A B : Prop} (h : ifB t B A) : ifB (!t) A B := ⟨fun e => h.2 (by cases t <;> simp_all), fun e => h.1 (by cases t <;> simp_all)⟩

end Go.Avm
