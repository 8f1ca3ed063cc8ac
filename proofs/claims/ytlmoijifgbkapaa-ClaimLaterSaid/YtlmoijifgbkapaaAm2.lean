/-
  The abstract machine, part 2: the translation of the model's code into its operations.
-/
import Derived.Test.YtlmoijifgbkapaaAm1
import Derived.Laws.Sem
set_option linter.unusedVariables false
set_option linter.unusedSimpArgs false
namespace Go.AM

variable (P : Program) (pureF : FuncId → Bool)

def okOperand : Operand → Bool
  | .tmp _ => true
  | .const v => atom v
  | .func _ => true
  | .global _ => false

def isAggT (t : TypeId) : Option Bool :=
  match P.underlying t with
  | some (.struct _) | some (.array _ _) => some true
  | some _ => some false
  | none => none

/-- The cells of a type's zero value, if all are atoms. -/
def zeroOf (t : TypeId) : Option (List Value) :=
  match P.info? t with
  | some i => match i.zero with
    | some z => if z.cells.toList.all (fun v => atom v && v.oneCell') then some z.cells.toList else none
    | none => none
  | none => none

/-- A type's zero value, if all its cells are atoms. -/
def zeroVal (t : TypeId) : Option Value :=
  match P.info? t with
  | some i => match i.zero with
    | some z => if z.cells.toList.all (fun v => atom v && v.oneCell') then some z else none
    | none => none
  | none => none

def sizeOfT (t : TypeId) : Option Nat := (P.info? t).map (·.size)
def bytesOfT (t : TypeId) : Option Nat := (P.info? t).map (·.bytes)

/-- The fields' cells, the fields' types' cells being given. -/
def kindsGo (f' : TypeId → Option (List KK)) : List Field → Nat → Option (List KK)
    | [], _ => some []
    | f :: fs, off => if f.name = "_" ∨ f.offset ≠ off then none else
      match f' f.type with
      | some l => if l.length = P.cellsOf f.type ∧ l.length ≠ 0 then (kindsGo f' fs (off + l.length)).map (l ++ ·) else none
      | none => none

/-- The cells of a type that '==' compares as they lie. -/
def simpleKinds : Nat → TypeId → Option (List KK)
  | 0, _ => none
  | n + 1, t => match P.underlying t with
    | some .bool => some [.bool]
    | some (.int k) => some [.int k]
    | some .string => some [.str]
    | some (.array len e) => match simpleKinds n e with
      | some l => if l.length = P.cellsOf e then some (List.replicate len l).flatten else none
      | none => none
    | some (.struct fs) => if P.stoodInHeld t then none else kindsGo P (simpleKinds n) fs.toList 0
    | _ => none

def eqKind (t : TypeId) : Option EqKind :=
  match P.underlying t with
  | some .bool => some .bool
  | some (.pointer _) => some .ptr
  | some (.slice _) => some .slice
  | some (.map _ _) => some .map
  | some (.func _ _ _) => some .func
  | some (.struct _) | some (.array _ _) => if P.eqGuardType P.depth t then none else (simpleKinds P 20 t).map .agg
  | _ => none

def keyKind (t : TypeId) : Option KK :=
  match P.underlying t with
  | some (.int k) => some (.int k)
  | some .string => some .str
  | some .bool => some .bool
  | _ => none

def trPart (fs : Array Field) (x : Nat × Operand) : Option (Nat × Nat × Operand) := do
  let f ← fs[x.1]?
  let s ← sizeOfT P f.type
  if okOperand x.2 then pure (f.offset, s, x.2) else none

def trCallee (f : Operand) : Bool × Bool :=   -- is it known, and pure
  match f with
  | .func g => (true, pureF g)
  | _ => (false, false)

def trOp (draw : Bool) (o : Oper) : Option AOp :=
  if !(o.op.operands.toList.all okOperand) then none else
  match o.op with
  | .move x | .assign x => some (.mov x)
  | .pick c a b => some (.pick c a b)
  | .alloc e => (zeroOf P e).map .alloc
  | .box _ x => some (.box x)
  | .build t parts => do
    let z ← zeroOf P t
    match P.underlying t with
    | some (.struct fs) => do
      let ps ← parts.toList.mapM (trPart P fs)
      if fs.toList.all (fun f => (P.info? f.type).isSome) then pure (.build z ps) else none
    | some (.array _ e) => do
      let s ← sizeOfT P e
      pure (.build z (parts.toList.map fun x => (x.1 * s, s, x.2)))
    | _ => none
  | .buildSlice t len parts => do
    match P.underlying t with
    | some (.slice e) => do
      let s ← sizeOfT P e
      let z ← zeroOf P e
      if z.length ≠ s ∨ s = 0 ∨ len * s > 2 ^ 20 then none else
      pure (.buildSlice len ((List.range (len * s)).map fun j => z.getD (j % z.length) undef) (parts.toList.map fun x => (x.1 * s, s, x.2)))
    | _ => none
  | .load t a => do
    let ag ← isAggT P t
    if ag then (sizeOfT P t).map (.loadN · a) else some (.load1 a)
  | .store t a x => (sizeOfT P t).map (.store · a x)
  | .nilCheck x => some (.nilCheck x)
  | .binOp op t x y _ =>
    match P.underlying t with
    | some (.int _) | some .string => some (.bin op x y)
    | _ => match op with
      | .eql => (eqKind P t).map (.eqv false · x y)
      | .neq => (eqKind P t).map (.eqv true · x y)
      | _ => none
  | .unOp op _ x => some (.un op x)
  | .convert s d x =>
    match P.underlying s, P.underlying d with
    | some (.int _), some (.int k) => some (.conv k x)
    | some .string, some .string => some (.strId x)
    | some (.slice e), some .string => match P.underlying e with
      | some (.int .u8) => some (.b2s x)
      | _ => none
    | _, _ => none
  | .makeFunc (.func f) first captured => some (.makeFunc f first.toList captured.toList)
  | .makeMap t x => match P.underlying t with
    | some (.map _ _) => some (.makeMap x)
    | _ => none
  | .makeSlice t l c => do
    match P.underlying t with
    | some (.slice e) => do
      let s ← sizeOfT P e
      let b ← bytesOfT P e
      let z ← zeroOf P e
      if z.length ≠ s ∨ s = 0 then none else pure (.makeSlice s b z l c)
    | _ => none
  | .slice t x lo hi mx => do
    match P.underlying t with
    | some (.slice e) => do
      let s ← sizeOfT P e
      if s = 0 then none else pure (.sliceS s x lo hi mx)
    | some (.array n e) => do
      let s ← sizeOfT P e
      if s = 0 then none else pure (.sliceA n s x lo hi mx)
    | some .string => if mx.isSome then none else some (.sliceStr x lo hi)
    | _ => none
  | .fieldAddr s x f => do
    match P.underlying s with
    | some (.struct fs) => do
      let fd ← fs[f]?
      let n ← sizeOfT P fd.type
      if n = 0 then none else pure (.fieldAddr fd.offset x)
    | _ => none
  | .field s x f => do
    match P.underlying s with
    | some (.struct fs) => do
      let fd ← fs[f]?
      let n ← sizeOfT P fd.type
      let ag ← isAggT P fd.type
      if ag then pure (.fieldN fd.offset n x) else pure (.field1 fd.offset x)
    | _ => none
  | .indexAddr t x i => do
    match P.underlying t with
    | some (.slice e) => do
      let s ← sizeOfT P e
      pure (.idxAddrS s x i)
    | some (.array n e) => do
      let s ← sizeOfT P e
      pure (.idxAddrA n s x i)
    | _ => none
  | .index t x i => do
    match P.underlying t with
    | some (.array n e) => do
      let s ← sizeOfT P e
      let ag ← isAggT P e
      pure (.idxA n s ag x i)
    | some .string => pure (.idxStr x i)
    | _ => none
  | .lookup t m k ok => do
    match P.underlying t with
    | some (.map kt e) => do
      let z ← zeroVal P e
      let kk ← keyKind P kt
      pure (.lookup kk z ok m k)
    | _ => none
  | .mapUpdate t m k x | .insert t m k x => do
    match P.underlying t with
    | some (.map kt _) => (keyKind P kt).map fun kk => .mapUpdate kk m k x
    | _ => none
  | .extract x i => some (.extract i x)
  | .call c => do
    match c.callee with
    | .value f => pure (.call (draw && (match f with | .func g => pureF g | _ => true)) f c.args.toList)
    | .builtin .len => match c.args.toList, c.argTypes.toList with
      | [x], [t] => match P.underlying t with
        | some .string => some (.lenStr x)
        | some (.slice _) => some (.lenSlice x)
        | some (.map _ _) => some (.lenMap x)
        | some (.array n _) => some (.lenK n)
        | _ => none
      | _, _ => none
    | .builtin .append => match c.args.toList, c.argTypes.toList with
      | [s, x], [st, xt] => match P.underlying st, P.underlying xt with
        | some (.slice e), some (.slice _) => do
          let n ← sizeOfT P e
          let b ← bytesOfT P e
          let z ← zeroOf P e
          if z.length = n then pure (.append n b false s x) else none
        | some (.slice e), some .string => do
          let n ← sizeOfT P e
          let b ← bytesOfT P e
          let z ← zeroOf P e
          if z.length = n ∧ n = 1 then pure (.append n b true s x) else none
        | _, _ => none
      | _, _ => none
    | .builtin .copy => match c.args.toList, c.argTypes.toList with
      | [d, x], dt :: _ => match P.underlying dt with
        | some (.slice e) => (sizeOfT P e).map (.copy · d x)
        | _ => none
      | _, _ => none
    | .builtin .min => some (.minmax false c.args.toList)
    | .builtin .max => some (.minmax true c.args.toList)
    | .builtin .delete => match c.args.toList, c.argTypes.toList with
      | [m, k], t :: _ => match P.underlying t with
        | some (.map kt _) => (keyKind P kt).map fun kk => .delete kk m k
        | _ => none
      | _, _ => none
    | _ => none
  | _ => none

/-- What an operation does with the heap: nothing, it reads, makes a block, writes, calls. -/
inductive Kind where
  | p | r | a | w | c
  deriving DecidableEq, Inhabited

def kind : AOp → Kind
  | .mov _ | .pick .. | .bin .. | .eqv .. | .un .. | .conv .. | .build .. | .nilCheck _ | .fieldAddr .. | .field1 .. | .fieldN .. | .idxAddrA .. | .idxAddrS ..
  | .idxA .. | .idxStr .. | .sliceS .. | .sliceA .. | .sliceStr .. | .lenStr _ | .lenSlice _ | .lenK _ | .minmax .. | .makeFunc .. | .extract .. | .strId _ => .p
  | .load1 _ | .loadN .. | .lenMap _ | .lookup .. | .b2s _ => .r
  | .alloc _ | .box _ | .buildSlice .. | .makeSlice .. | .makeMap _ => .a
  | .store .. | .append .. | .copy .. | .mapUpdate .. | .delete .. => .w
  | .call mp .. => if mp then .r else .c

def makes : AOp → Bool
  | .append .. => true
  | o => kind o = .a

/-- Is a among the operations that x waits for, directly or through others? -/
def waits (ops : Array Oper) : Nat → Nat → Nat → Bool
  | 0, _, _ => false
  | n + 1, x, a => match ops[x]? with
    | some o => o.after.toList.any fun e => Region.binds .any e && (e.on == a || waits ops n e.on a)
    | none => false

def conflict (k l : Kind) : Bool :=
  match k, l with
  | .p, _ | _, .p => false
  | .c, _ | _, .c => true
  | .a, _ | _, .a => false
  | .w, _ | _, .w => true
  | .r, .r => false

def ranks (l : List AOp) : List (Option Nat) :=
  go 0 l
where
  go (n : Nat) : List AOp → List (Option Nat)
    | [] => []
    | o :: l => if makes o then some n :: go (n + 1) l else none :: go n l

def trGuard (ops : Array Oper) : Option (Nat × Bool) → Option (Option (Nat × Bool))
  | none => some none
  | some (j, b) => match (ops[j]?).bind (·.dst) with
    | some t => some (some (t, b))
    | none => none

def trIns (draw : Bool) (ops : Array Oper) (o : Oper) : Option AIns := do
  let a ← trOp P pureF draw o
  let g ← trGuard ops o.guard
  pure { dst := o.dst, guard := g, op := a }

/-- The temporaries that an operation looks at. -/
def AIns.looks (i : AIns) : List Nat :=
  (i.op.operands.filterMap fun | .tmp t => some t | _ => none) ++ (match i.guard with | some (t, _) => [t] | none => [])

/-- Neither writes what the other looks at or writes. -/
def apartA (x y : AIns) : Bool :=
  (match x.dst with
   | some d => !y.looks.contains d && y.dst != some d
   | none => true) &&
  (match y.dst with
   | some d => !x.looks.contains d
   | none => true)

/-- Two operations of a region that draws: one waits for the other, or they do not touch each other. -/
def pairOk (ops : Array Oper) (l : List AIns) (i j : Nat) : Bool :=
  waits ops ops.size i j || waits ops ops.size j i ||
    match l[i]?, l[j]? with
    | some a, some b => apartA a b && !conflict (kind a.op) (kind b.op)
    | _, _ => false

def backward (ops : Array Oper) : Bool := (List.range ops.size).all fun i => match ops[i]? with
  | some o => o.after.toList.all fun e => !Region.binds .any e || decide (e.on < i)
  | none => true

def planIns (ops : Array Oper) (rk : List (Option Nat)) (j : Nat) (i : AIns) : AIns :=
  { i with dest := rk.getD j none, mask := if kind i.op = .r ∨ kind i.op = .w then
      ((List.range rk.length).filterMap fun a => if a ≠ j ∧ !waits ops ops.size j a then rk.getD a none else none) else [] }

def trDrawn (ops : Array Oper) : Option ACode := do
  let l ← ops.toList.mapM (trIns P pureF true ops)
  let rk := ranks (l.map (·.op))
  let l' := l.zipIdx.map fun (i, j) => planIns ops rk j i
  if backward ops && ((List.range ops.size).all fun i => (List.range i).all fun j => pairOk ops l i j) then
    pure (.drawn (rk.filterMap id).length l')
  else none

def trCode : Code → Option ACode
  | .skip => some .skip
  | .region _ ops draw =>
    if draw then trDrawn P pureF ops
    else do
      let l ← ops.toList.mapM (trIns P pureF false ops)
      pure (.ops l)
  | .seq a b => do pure (.seq (← trCode a) (← trCode b))
  | .cond c a b => do if okOperand c then pure (.cond c (← trCode a) (← trCode b)) else none
  | .block id b => do pure (.block id (← trCode b))
  | .loop b => do pure (.loop (← trCode b))
  | .exit id => some (.exit id)
  | .ret => some .ret
  | _ => none

def trRes : ResultVar → Option ARes
  | .tmp t => some (.tmp t)
  | .cell a t => do
    let n ← sizeOfT P t
    let ag ← isAggT P t
    if ag then pure (.cellN n a) else pure (.cell1 a)

def trFunc (f : FuncId) : Option AFunc := do
  let fn ← P.funcs[f]?
  let b ← fn.body
  let c ← trCode P pureF b
  let rs ← fn.results.toList.mapM (trRes P)
  if fn.name == "runtime.NumGoroutine" then none else
  pure { ntmps := fn.ntmps, results := rs, body := c }

end Go.AM
