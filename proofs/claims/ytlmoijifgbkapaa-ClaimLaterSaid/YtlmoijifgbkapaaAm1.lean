/-
  The abstract machine, part 1: its definitions. Go code, as the model has it, is translated ('trFunc') into small resolved operations; 'aRun' runs these on an abstract heap. Nothing is proved here.
-/
import Derived.Orders
set_option linter.unusedVariables false
set_option linter.unusedSimpArgs false
namespace Go.AM

/-- A block of the abstract heap. -/
inductive Blk where
  | dead
  | cells (ro : Bool) (c : List Value)
  | map (es : List (Value × Value))
  deriving Inhabited

abbrev Heap := List Blk
def hget (H : Heap) (i : Nat) : Blk := H.getD i .dead

/-- The capacity of a slice whose capacity is not known; its element has e cells. -/
def loose (e : Nat) : Nat := 2 ^ 62 + e

/-- The kind of a cell that is compared as it lies. -/
inductive KK where
  | int (k : IntKind) | str | bool
  deriving DecidableEq, Inhabited

/-- What '==' compares. -/
inductive EqKind where
  | bool | ptr | slice | map | func | agg (l : List KK)
  deriving Inhabited

inductive AOp where
  | mov (x : Operand)
  | pick (c a b : Operand)
  | bin (op : BinOp) (x y : Operand)
  | eqv (neg : Bool) (k : EqKind) (x y : Operand)
  | un (op : UnOp) (x : Operand)
  | conv (k : IntKind) (x : Operand)
  | alloc (zero : List Value)
  | box (x : Operand)
  | build (zero : List Value) (parts : List (Nat × Nat × Operand))
  | buildSlice (len : Nat) (zero : List Value) (parts : List (Nat × Nat × Operand))
  | load1 (a : Operand)
  | loadN (n : Nat) (a : Operand)
  | store (n : Nat) (a x : Operand)
  | nilCheck (x : Operand)
  | fieldAddr (off : Nat) (a : Operand)
  | field1 (off : Nat) (x : Operand)
  | fieldN (off n : Nat) (x : Operand)
  | idxAddrA (len esz : Nat) (x i : Operand)
  | idxAddrS (esz : Nat) (x i : Operand)
  | idxA (len esz : Nat) (agg : Bool) (x i : Operand)
  | idxStr (x i : Operand)
  | sliceS (esz : Nat) (x : Operand) (lo hi mx : Option Operand)
  | sliceA (n esz : Nat) (x : Operand) (lo hi mx : Option Operand)
  | sliceStr (x : Operand) (lo hi : Option Operand)
  | lenStr (x : Operand)
  | lenSlice (x : Operand)
  | lenMap (x : Operand)
  | lenK (n : Nat)
  | append (esz bytes : Nat) (str : Bool) (s x : Operand)
  | copy (esz : Nat) (d x : Operand)
  | minmax (mx : Bool) (xs : List Operand)
  | makeSlice (esz bytes : Nat) (zero : List Value) (len cap : Operand)
  | makeMap (hint : Option Operand)
  | lookup (kk : KK) (zero : Value) (ok : Bool) (m key : Operand)
  | mapUpdate (kk : KK) (m key v : Operand)
  | delete (kk : KK) (m key : Operand)
  | makeFunc (f : FuncId) (first captured : List Operand)
  | extract (i : Nat) (x : Operand)
  | b2s (x : Operand)
  | strId (x : Operand)
  | call (mustPure : Bool) (f : Operand) (args : List Operand)
  deriving Inhabited

/-- The operands of an operation. -/
def AOp.operands : AOp → List Operand
  | .mov x | .un _ x | .conv _ x | .box x | .load1 x | .loadN _ x | .nilCheck x | .fieldAddr _ x | .field1 _ x | .fieldN _ _ x | .lenStr x | .lenSlice x | .lenMap x | .extract _ x | .b2s x | .strId x => [x]
  | .pick c a b => [c, a, b]
  | .bin _ x y | .eqv _ _ x y | .store _ x y | .idxAddrA _ _ x y | .idxAddrS _ x y | .idxA _ _ _ x y | .idxStr x y | .append _ _ _ x y | .copy _ x y | .makeSlice _ _ _ x y | .lookup _ _ _ x y | .delete _ x y => [x, y]
  | .mapUpdate _ m k v => [m, k, v]
  | .alloc _ | .lenK _ => []
  | .build _ ps | .buildSlice _ _ ps => ps.map (·.2.2)
  | .sliceS _ x lo hi mx | .sliceA _ _ x lo hi mx => x :: (lo.toList ++ hi.toList ++ mx.toList)
  | .sliceStr x lo hi => x :: (lo.toList ++ hi.toList)
  | .minmax _ xs => xs
  | .makeMap h => h.toList
  | .makeFunc _ a b => a ++ b
  | .call _ f args => f :: args

/-- One operation of a region. -/
structure AIns where
  dst : Option Nat
  guard : Option (Nat × Bool)
  op : AOp
  dest : Option Nat := none
  mask : List Nat := []
  deriving Inhabited

inductive ACode where
  | skip
  | ops (l : List AIns)
  | drawn (n : Nat) (l : List AIns)
  | seq (a b : ACode)
  | cond (c : Operand) (thn els : ACode)
  | block (id : Nat) (body : ACode)
  | loop (body : ACode)
  | exit (id : Nat)
  | ret
  deriving Inhabited

inductive ARes where
  | tmp (t : Nat)
  | cell1 (a : Nat)
  | cellN (n a : Nat)
  deriving Inhabited

structure AFunc where
  ntmps : Nat
  results : List ARes
  body : ACode
  deriving Inhabited

/-! ## Values -/

/-- A value that names no block, and has no parts. -/
def atom : Value → Bool
  | .bool _ | .int _ _ | .string _ | .pointer none | .map none | .nilFunc | .nilIface => true
  | .slice none n c => n == 0 && c == 0
  | .func (.func _) a b => a.isEmpty && b.isEmpty
  | .tuple a => a.isEmpty
  | _ => false

/-- A value that names no block; n bounds its depth. -/
def flat : Nat → Value → Bool
  | n + 1, .agg cs => cs.toList.all (flat n)
  | n + 1, .tuple cs => cs.toList.all (flat n)
  | _, v => atom v

def notTuple : Value → Bool
  | .tuple _ => false
  | _ => true

def ev (fr : Nat → Value) : Operand → Value
  | .tmp t => fr t
  | .const v => v
  | .func f => .func (.func f) #[] #[]
  | .global _ => undef

/-! ## The heap -/

def place (dest : Option Nat) (b : Blk) (H : Heap) : Nat × Heap :=
  match dest with
  | none => (H.length, H ++ [b])
  | some i => (i, H.set i b)

def loadCell (H : Heap) (a : Addr) : Option Value :=
  match hget H a.block with
  | .cells _ c => c[a.off]?
  | _ => none

def loadCells (H : Heap) (a : Addr) (n : Nat) : Option (List Value) :=
  match hget H a.block with
  | .cells _ c => if a.off + n ≤ c.length then some ((c.drop a.off).take n) else none
  | _ => none

def setAll (c : List Value) (off : Nat) : List Value → List Value
  | [] => c
  | v :: vs => setAll (c.set off v) (off + 1) vs

def storeAt (lim : Nat) (H : Heap) (a : Addr) (vs : List Value) : Option Heap :=
  match hget H a.block with
  | .cells false c => if lim ≤ a.block ∧ a.off + vs.length ≤ c.length then some (H.set a.block (.cells false (setAll c a.off vs))) else none
  | _ => none

/-! ## The operations -/

def aBin (op : BinOp) : Value → Value → Option Value
  | .int k a, .int k' b =>
    match op with
    | .shl => if b < 0 then none else some (.int k (k.wrap (a * 2 ^ (min b.toNat k.bits))))
    | .shr => if b < 0 then none else some (.int k (a.fdiv (2 ^ (min b.toNat k.bits))))
    | _ => if k = k' then
      match op with
      | .add => some (.int k (k.wrap (a + b)))
      | .sub => some (.int k (k.wrap (a - b)))
      | .mul => some (.int k (k.wrap (a * b)))
      | .quo => if b = 0 then none else some (.int k (k.wrap (a.tdiv b)))
      | .rem => if b = 0 then none else some (.int k (a.tmod b))
      | .and => some (.int k (k.wrap (BitVec.ofInt k.bits a &&& BitVec.ofInt k.bits b).toNat))
      | .or => some (.int k (k.wrap (BitVec.ofInt k.bits a ||| BitVec.ofInt k.bits b).toNat))
      | .xor => some (.int k (k.wrap (BitVec.ofInt k.bits a ^^^ BitVec.ofInt k.bits b).toNat))
      | .andNot => some (.int k (k.wrap (BitVec.ofInt k.bits a &&& ~~~ BitVec.ofInt k.bits b).toNat))
      | .eql => some (.bool (a == b))
      | .neq => some (.bool (a != b))
      | .lss => some (.bool (decide (a < b)))
      | .leq => some (.bool (decide (a ≤ b)))
      | .gtr => some (.bool (decide (b < a)))
      | .geq => some (.bool (decide (b ≤ a)))
      | _ => none
      else none
  | .string a, .string b =>
    match op with
    | .add => if ((a.size + b.size : Nat) : Int) > IntKind.i64.max then none else some (.string (a ++ b))
    | .eql => some (.bool (a.toList == b.toList))
    | .neq => some (.bool (!(a.toList == b.toList)))
    | .lss => some (.bool (Op.bytesLess a.toList b.toList))
    | .leq => some (.bool (Op.bytesLess a.toList b.toList || a.toList == b.toList))
    | .gtr => some (.bool (!(Op.bytesLess a.toList b.toList || a.toList == b.toList)))
    | .geq => some (.bool (!(Op.bytesLess a.toList b.toList)))
    | _ => none
  | _, _ => none

def cellEq : KK → Value → Value → Option Bool
  | .int k, .int k1 a, .int k2 b => if k1 = k ∧ k2 = k then some (a == b) else none
  | .bool, .bool a, .bool b => some (a == b)
  | .str, .string a, .string b => some (a.toList == b.toList)
  | _, _, _ => none

def cellsEq : List KK → List Value → List Value → Option Bool
  | [], [], [] => some true
  | k :: ks, x :: xs, y :: ys => match cellEq k x y, cellsEq ks xs ys with
    | some a, some b => some (a && b)
    | _, _ => none
  | _, _, _ => none

def aEq : EqKind → Value → Value → Option Bool
  | .bool, .bool a, .bool b => some (a == b)
  | .ptr, .pointer none, .pointer b => some b.isNone
  | .ptr, .pointer (some _), .pointer none => some false
  | .slice, .slice none _ _, .slice b _ _ => some b.isNone
  | .slice, .slice (some _) _ _, .slice none _ _ => some false
  | .map, .map none, .map b => some b.isNone
  | .map, .map (some _), .map none => some false
  | .func, .nilFunc, .nilFunc => some true
  | .func, .nilFunc, .func _ _ _ => some false
  | .func, .func _ _ _, .nilFunc => some false
  | .agg l, .agg xs, .agg ys => cellsEq l xs.toList ys.toList
  | _, _, _ => none

def aUn : UnOp → Value → Option Value
  | .not, .bool b => some (.bool !b)
  | .neg, .int k n => some (.int k (k.wrap (0 - n)))
  | .xor, .int k n => some (.int k (k.wrap (BitVec.ofInt k.bits (if k.signed then -1 else k.max) ^^^ BitVec.ofInt k.bits n).toNat))
  | _, _ => none

def fillParts (ρ : Operand → Value) : List (Nat × Nat × Operand) → List Value → Option (List Value)
  | [], c => some c
  | (off, size, x) :: rest, c =>
    let vs := (ρ x).cells.toList
    if vs.length = size ∧ off + size ≤ c.length ∧ notTuple (ρ x) = true then fillParts ρ rest (setAll c off vs) else none

def bound (v : Value) (m : Nat) : Option Nat :=
  match v with
  | .int _ i => if 0 ≤ i ∧ i ≤ (m : Int) then some i.toNat else none
  | _ => none

/-- low, high and max of a slice expression. -/
def bounds (ρ : Operand → Value) (len cap : Nat) (lo hi mx : Option Operand) : Option (Nat × Nat × Nat) :=
  match (match mx with | some x => bound (ρ x) cap | none => some cap) with
  | none => none
  | some m =>
    match (match hi, mx with | some x, some _ => bound (ρ x) m | some x, none => bound (ρ x) cap | none, none => some len | none, some _ => none) with
    | none => none
    | some h =>
      match (match lo with | some x => bound (ρ x) h | none => some 0) with
      | none => none
      | some l => some (l, h, m)

def aSliceS (esz : Nat) (ρ : Operand → Value) (v : Value) (lo hi mx : Option Operand) : Option Value :=
  match v with
  | .slice a len cap =>
    if cap = loose esz then
      match bounds ρ len len lo hi mx with
      | none => none
      | some (l, h, m) =>
        match mx with
        | none => some (.slice (a.map (·.add (l * esz))) (h - l) (loose esz))
        | some _ => if m < 2 ^ 62 then some (.slice (if m = l then a else a.map (·.add (l * esz))) (h - l) (m - l)) else none
    else if cap < 2 ^ 62 then
      match bounds ρ len cap lo hi mx with
      | none => none
      | some (l, h, m) => some (.slice (if m = l then a else a.map (·.add (l * esz))) (h - l) (m - l))
    else none
  | _ => none

def firstCells (H : Heap) (size : Nat) (str : Bool) : Value → Option (List Value)
  | .slice none n _ => if str ∨ n ≠ 0 then none else some []
  | .slice (some a) n _ => if str then none else loadCells H a (n * size)
  | .string s => if str then some (s.data.toList.map fun b => .int .u8 b.toNat) else none
  | _ => none

def lenOf : Value → Option Nat
  | .slice _ n _ => some n
  | .string s => some s.size
  | _ => none

/-- The greatest number of bytes that an append may make. -/
def maxBytes : Nat := 2 ^ 45

def aAppend (lim : Nat) (dest : Option Nat) (esz bytes : Nat) (str : Bool) (s x : Value) (H : Heap) : Option (Value × Heap) :=
  match s, firstCells H esz str x, lenOf x with
  | .slice base n cap, some new, some m =>
    if esz = 0 ∨ (n + m) * bytes > maxBytes ∨ n + m ≥ 2 ^ 62 ∨ cap < n then none
    else if m = 0 then some (s, H)
    else match base with
      | none =>
        if n = 0 ∧ cap = 0 then
          let (i, H') := place dest (.cells false new) H
          some (.slice (some ⟨i, 0, none⟩) m (loose esz), H')
        else none
      | some a =>
        match loadCells H a (n * esz) with
        | none => none
        | some old =>
          if cap = loose esz then
            match hget H a.block with
            | .cells false _ =>
              if lim ≤ a.block then
                let (i, H') := place dest (.cells false (old ++ new)) (H.set a.block .dead)
                some (.slice (some ⟨i, 0, none⟩) (n + m) (loose esz), H')
              else none
            | _ => none
          else if cap < 2 ^ 62 then
            if n + m ≤ cap then
              match storeAt lim H (a.add (n * esz)) new with
              | some H' => some (.slice base (n + m) cap, H')
              | none => none
            else
              let (i, H') := place dest (.cells false (old ++ new)) H
              some (.slice (some ⟨i, 0, none⟩) (n + m) (loose esz), H')
          else none
  | _, _, _ => none

def aMinMax (mx : Bool) : Value → Value → Option Value
  | .int k x, .int k' y => if k = k' then some (.int k (if mx then (if x < y then y else x) else (if y < x then y else x))) else none
  | _, _ => none

def aMinMaxAll (mx : Bool) : Value → List Value → Option Value
  | x, [] => some x
  | x, y :: ys => match aMinMax mx x y with
    | some z => aMinMaxAll mx z ys
    | none => none

def keyEq : Value → Value → Option Bool
  | .int k a, .int k' b => if k = k' then some (a == b) else none
  | .string a, .string b => some (a == b)
  | .bool a, .bool b => some (a == b)
  | _, _ => none

/-- The place of a key, if it is there; none if a key cannot be compared. -/
def findKey (k : Value) : List (Value × Value) → Nat → Option (Option (Nat × Value))
  | [], _ => some none
  | (k', v) :: es, i => match keyEq k k' with
    | some true => some (some (i, v))
    | some false => findKey k es (i + 1)
    | none => none

def keyOk : KK → Value → Bool
  | .int k, .int k' _ => k == k'
  | .str, .string _ => true
  | .bool, .bool _ => true
  | _, _ => false

def mapEntries (H : Heap) : Value → Option (List (Value × Value))
  | .map none => some []
  | .map (some r) => match hget H r with
    | .map es => some es
    | _ => none
  | _ => none

def bytesOf : List Value → Option (List UInt8)
  | [] => some []
  | .int .u8 n :: l => match bytesOf l with
    | some bs => some (UInt8.ofNat n.toNat :: bs)
    | none => none
  | _ :: _ => none

/-- The cells that a copy reads. -/
def copyCells (H : Heap) (esz n : Nat) : Value → Option (List Value)
  | .slice none m _ => if m = 0 then some [] else none
  | .slice (some a) _ _ => loadCells H a (n * esz)
  | .string s => if esz = 1 then some ((s.data.toList.take n).map fun b => .int .u8 b.toNat) else none
  | _ => none

def aOp (lim : Nat) (dest : Option Nat) (o : AOp) (ρ : Operand → Value) (H : Heap) : Option (Value × Heap) :=
  match o with
  | .mov x => some (ρ x, H)
  | .pick c a b => match ρ c with
    | .bool true => some (ρ a, H)
    | .bool false => some (ρ b, H)
    | _ => none
  | .bin op x y => (aBin op (ρ x) (ρ y)).map (·, H)
  | .eqv neg k x y => match aEq k (ρ x) (ρ y) with
    | some b => some (.bool (if neg then !b else b), H)
    | none => none
  | .un op x => (aUn op (ρ x)).map (·, H)
  | .conv k x => match ρ x with
    | .int _ n => some (.int k (k.wrap n), H)
    | _ => none
  | .alloc zero => let (i, H') := place dest (.cells false zero) H; some (.pointer (some ⟨i, 0, none⟩), H')
  | .box x => if notTuple (ρ x) then
      let (i, H') := place dest (.cells false (ρ x).cells.toList) H; some (.pointer (some ⟨i, 0, none⟩), H')
    else none
  | .build zero parts => (fillParts ρ parts zero).map fun c => (.agg c.toArray, H)
  | .buildSlice len zero parts => match fillParts ρ parts zero with
    | some c => let (i, H') := place dest (.cells false c) H; some (.slice (some ⟨i, 0, none⟩) len len, H')
    | none => none
  | .load1 a => match ρ a with
    | .pointer (some p) => (loadCell H p).map (·, H)
    | _ => none
  | .loadN n a => match ρ a with
    | .pointer (some p) => (loadCells H p n).map fun c => (.agg c.toArray, H)
    | _ => none
  | .store n a x => match ρ a with
    | .pointer (some p) => if (ρ x).cells.size = n ∧ notTuple (ρ x) = true then (storeAt lim H p (ρ x).cells.toList).map (undef, ·) else none
    | _ => none
  | .nilCheck x => match ρ x with
    | .pointer (some p) => some (.pointer (some p), H)
    | .func (.func f) a b => some (.func (.func f) a b, H)
    | _ => none
  | .fieldAddr off a => match ρ a with
    | .pointer (some p) => some (.pointer (some (p.add off)), H)
    | _ => none
  | .field1 off x => match ρ x with
    | .agg cs => (cs.toList[off]?).map (·, H)
    | _ => none
  | .fieldN off n x => match ρ x with
    | .agg cs => some (.agg ((cs.toList.drop off).take n).toArray, H)
    | _ => none
  | .idxAddrA len esz x i => match ρ x, ρ i with
    | .pointer (some p), .int _ n => if 0 ≤ n ∧ n < (len : Int) then some (.pointer (some (p.add (n.toNat * esz))), H) else none
    | _, _ => none
  | .idxAddrS esz x i => match ρ x, ρ i with
    | .slice (some p) len _, .int _ n => if 0 ≤ n ∧ n < (len : Int) then some (.pointer (some (p.add (n.toNat * esz))), H) else none
    | _, _ => none
  | .idxA len esz agg x i => match ρ x, ρ i with
    | .agg cs, .int _ n => if 0 ≤ n ∧ n < (len : Int) then
        (if agg then some (.agg ((cs.toList.drop (n.toNat * esz)).take esz).toArray, H) else (cs.toList[n.toNat * esz]?).map (·, H))
      else none
    | _, _ => none
  | .idxStr x i => match ρ x, ρ i with
    | .string s, .int _ n => if 0 ≤ n then (s.data.toList[n.toNat]?).map fun b => (.int .u8 b.toNat, H) else none
    | _, _ => none
  | .sliceS esz x lo hi mx => (aSliceS esz ρ (ρ x) lo hi mx).map (·, H)
  | .sliceA n esz x lo hi mx => match ρ x with
    | .pointer (some a) => match bounds ρ n n lo hi mx with
      | some (l, h, m) => if m < 2 ^ 62 then some (.slice (some (if m = l then a else a.add (l * esz))) (h - l) (m - l), H) else none
      | none => none
    | _ => none
  | .sliceStr x lo hi => match ρ x with
    | .string s => match bounds ρ s.size s.size lo hi none with
      | some (l, h, _) => some (.string (s.extract l h), H)
      | none => none
    | _ => none
  | .lenStr x => match ρ x with
    | .string s => some (.int .i64 s.size, H)
    | _ => none
  | .lenSlice x => match ρ x with
    | .slice _ n _ => some (.int .i64 n, H)
    | _ => none
  | .lenMap x => (mapEntries H (ρ x)).map fun es => (.int .i64 es.length, H)
  | .lenK n => some (.int .i64 n, H)
  | .append esz bytes str s x => aAppend lim dest esz bytes str (ρ s) (ρ x) H
  | .copy esz d x => match ρ d, lenOf (ρ x) with
    | .slice base dl _, some sl => match copyCells H esz (min sl dl) (ρ x) with
      | some cs => match base with
        | some a => if min sl dl = 0 then some (.int .i64 0, H) else (storeAt lim H a cs).map (.int .i64 (min sl dl : Nat), ·)
        | none => if dl = 0 then some (.int .i64 0, H) else none
      | none => none
    | _, _ => none
  | .minmax mx xs => match xs with
    | [] => none
    | x :: r => (aMinMaxAll mx (ρ x) (r.map ρ)).map (·, H)
  | .makeSlice esz bytes zero len cap => match ρ len, ρ cap with
    | .int _ l, .int _ c =>
      if 0 ≤ l ∧ l ≤ c ∧ c * bytes ≤ 2 ^ 45 ∧ c < 2 ^ 62 then
        let (i, H') := place dest (.cells false ((List.range (c.toNat * esz)).map fun j => zero.getD (j % zero.length) undef)) H
        some (.slice (some ⟨i, 0, none⟩) l.toNat c.toNat, H')
      else none
    | _, _ => none
  | .makeMap hint => match (match hint with | none => true | some x => match ρ x with | .int _ _ => true | _ => false) with
    | true => let (i, H') := place dest (.map []) H; some (.map (some i), H')
    | false => none
  | .lookup kk zero ok m key => match mapEntries H (ρ m) with
    | some es => if keyOk kk (ρ key) then
        match findKey (ρ key) es 0 with
        | some (some (_, v)) => some (if ok then .tuple #[v, .bool true] else v, H)
        | some none => some (if ok then .tuple #[zero, .bool false] else zero, H)
        | none => none
      else none
    | none => none
  | .mapUpdate kk m key v => match ρ m with
    | .map (some r) => match hget H r with
      | .map es => if keyOk kk (ρ key) ∧ lim ≤ r then
          match findKey (ρ key) es 0 with
          | some (some (i, _)) => some (undef, H.set r (.map (es.set i (ρ key, ρ v))))
          | some none => some (undef, H.set r (.map (es ++ [(ρ key, ρ v)])))
          | none => none
        else none
      | _ => none
    | _ => none
  | .delete kk m key => match ρ m with
    | .map none => if keyOk kk (ρ key) then some (.tuple #[], H) else none
    | .map (some r) => match hget H r with
      | .map es => if keyOk kk (ρ key) ∧ lim ≤ r then
          match findKey (ρ key) es 0 with
          | some (some (i, _)) => some (.tuple #[], H.set r (.map (es.eraseIdx i)))
          | some none => some (.tuple #[], H)
          | none => none
        else none
      | _ => none
    | _ => none
  | .makeFunc f first captured => some (.func (.func f) (first.map ρ).toArray (captured.map ρ).toArray, H)
  | .extract i x => match ρ x with
    | .tuple vs => (vs.toList[i]?).map (·, H)
    | _ => none
  | .b2s x => match ρ x with
    | .slice none n _ => if n = 0 then some (.string .empty, H) else none
    | .slice (some a) n _ => match loadCells H a n with
      | some cs => match bytesOf cs with
        | some bs => some (.string ⟨bs.toArray⟩, H)
        | none => none
      | none => none
    | _ => none
  | .strId x => match ρ x with
    | .string s => some (.string s, H)
    | _ => none
  | .call _ _ _ => none

/-! ## Running -/

def upd (fr : Nat → Value) (t : Nat) (v : Value) : Nat → Value := fun i => if i = t then v else fr i

def putD (N : Nat) (fr : Nat → Value) (dst : Option Nat) (v : Value) : Option (Nat → Value) :=
  match dst with
  | none => some fr
  | some d => if d < N then some (upd fr d v) else none

def wantedA (N : Nat) (fr : Nat → Value) : Option (Nat × Bool) → Option Bool
  | none => some true
  | some (t, b) => if t < N then (match fr t with
    | .bool c => some (c == b)
    | _ => some false) else none

def maskH (base : Nat) (l : List Nat) (H : Heap) : Heap := l.foldl (fun H i => H.set (base + i) .dead) H
def unmaskH (base : Nat) (l : List Nat) (H0 H : Heap) : Heap := l.foldl (fun H i => H.set (base + i) (hget H0 (base + i))) H

/-- The function that a value calls, with all its arguments. -/
def callee (f : Value) (args : List Value) : Option (FuncId × List Value) :=
  match f with
  | .func (.func g) first captured => some (g, first.toList ++ args ++ captured.toList)
  | _ => none

abbrev CallF := Bool → Nat → FuncId → List Value → Heap → Option (Value × Heap)

def stepOp (C : CallF) (lim : Nat) (dest : Option Nat) (o : AOp) (ρ : Operand → Value) (H : Heap) : Option (Value × Heap) :=
  match o with
  | .call mp f args => match callee (ρ f) (args.map ρ) with
    | some (g, as) => C mp lim g as H
    | none => none
  | o => aOp lim dest o ρ H

/-- What one operation yields: 'base' is given in a region that draws its order. -/
def insVal (C : CallF) (N lim : Nat) (base : Option Nat) (i : AIns) (fr : Nat → Value) (H : Heap) : Option (Value × Heap) :=
  match wantedA N fr i.guard with
  | none => none
  | some false => some (undef, H)
  | some true => match base with
    | none => stepOp C lim none i.op (ev fr) H
    | some b => match stepOp C lim (i.dest.map (b + ·)) i.op (ev fr) (maskH b i.mask H) with
      | some (v, H') => some (v, unmaskH b i.mask H H')
      | none => none

def insOp (C : CallF) (N lim : Nat) (base : Option Nat) (i : AIns) (fr : Nat → Value) (H : Heap) : Option ((Nat → Value) × Heap) :=
  match insVal C N lim base i fr H with
  | some (v, H') => (putD N fr i.dst v).map (·, H')
  | none => none

inductive AItem where
  | code (c : ACode)
  | ops (base : Option Nat) (l : List AIns)
  | inBlock (id : Nat)
  | inLoop (c : ACode)

def aExit (id : Nat) : List AItem → Option (List AItem)
  | .inBlock id' :: k => if id' = id then some k else aExit id k
  | _ :: k => aExit id k
  | [] => none

def resVal (fr : Nat → Value) (H : Heap) : ARes → Option Value
  | .tmp t => some (fr t)
  | .cell1 a => match fr a with
    | .pointer (some p) => loadCell H p
    | _ => none
  | .cellN n a => match fr a with
    | .pointer (some p) => (loadCells H p n).map fun c => .agg c.toArray
    | _ => none

def resAll (fr : Nat → Value) (H : Heap) : List ARes → Option (List Value)
  | [] => some []
  | r :: rs => match resVal fr H r, resAll fr H rs with
    | some v, some vs => some (v :: vs)
    | _, _ => none

def result (fr : Nat → Value) (H : Heap) (rs : List ARes) : Option Value :=
  match resAll fr H rs with
  | some [v] => some v
  | some vs => some (.tuple vs.toArray)
  | none => none

def frame0 (args : List Value) : Nat → Value := fun t => args.getD t undef

structure Env where
  tr : FuncId → Option AFunc
  pure : FuncId → Bool
  orc : FuncId → List Value → Option Value

variable (E : Env)

def callWith (run : AFunc → Nat → List Value → Heap → Option (Value × Heap)) : CallF := fun mustPure lim g as H =>
  match E.orc g as with
  | some v => if as.all atom && flat 4 v then some (v, H) else none
  | none =>
    match E.tr g with
    | none => none
    | some af =>
      if E.pure g then
        match run af H.length as H with
        | some (v, _) => if flat 4 v then some (v, H) else none
        | none => none
      else if mustPure then none
      else run af lim as H

/-- The run of a function's todo, to its return. -/
def aRun : Nat → AFunc → (lim : Nat) → List AItem → (Nat → Value) → Heap → Option (Value × Heap)
  | 0, _, _, _, _, _ => none
  | n + 1, af, lim, k, fr, H =>
    match k with
    | [] => (result fr H af.results).map (·, H)
    | .inBlock _ :: k => aRun n af lim k fr H
    | .inLoop c :: k => aRun n af lim (.code c :: .inLoop c :: k) fr H
    | .ops _ [] :: k => aRun n af lim k fr H
    | .ops base (i :: l) :: k =>
      match insOp (callWith E fun af' lim' as H' => aRun n af' lim' [.code af'.body] (frame0 as) H') af.ntmps lim base i fr H with
      | some (fr', H') => aRun n af lim (.ops base l :: k) fr' H'
      | none => none
    | .code c :: k =>
      match c with
      | .skip => aRun n af lim k fr H
      | .ops l => aRun n af lim (.ops none l :: k) fr H
      | .drawn m l => aRun n af lim (.ops (some H.length) l :: k) fr (H ++ List.replicate m .dead)
      | .seq a b => aRun n af lim (.code a :: .code b :: k) fr H
      | .cond c a b => match ev fr c with
        | .bool true => aRun n af lim (.code a :: k) fr H
        | .bool false => aRun n af lim (.code b :: k) fr H
        | _ => none
      | .block id b => aRun n af lim (.code b :: .inBlock id :: k) fr H
      | .loop b => aRun n af lim (.code b :: .inLoop b :: k) fr H
      | .exit id => match aExit id k with
        | some k' => aRun n af lim k' fr H
        | none => none
      | .ret => (result fr H af.results).map (·, H)

def aCall (n : Nat) : CallF := callWith E fun af lim as H => aRun E n af lim [.code af.body] (frame0 as) H

end Go.AM
