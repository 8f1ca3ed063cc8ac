/-
  Joined texts, 1 of 7. A part of the claim that the last text states.
-/
import Derived.Orders
import Derived.Laws.Sem
import Derived.Deep.MidRow
import Derived.Deep.AppendSrc
import Derived.RowKit3
import Derived.MapKept
import Derived.Laws.StructEq
import Derived.Laws.BytesString
import Derived.Laws.MakeOwn
import Derived.Laws.Pointers
import Derived.Laws.Cover3
import Derived.ChangeKeysEq
import Derived.Deep.Upon
set_option linter.unusedVariables false
set_option linter.unusedSimpArgs false
set_option linter.defProp false
set_option linter.unusedSectionVars false
set_option maxRecDepth 100000
set_option maxHeartbeats 4000000
namespace Go.AM
def loose (e:Nat):Nat:=2 ^ 62+e
inductive KK where
 | int (k:IntKind) | str | bool | ints (l:List IntKind)
 deriving DecidableEq,Inhabited
inductive EqKind where
 | bool | ptr | slice | map | func | iface | agg (l:List KK)
 deriving Inhabited
inductive CM where
 | any | pure | mk | maps | recs
 deriving DecidableEq,Inhabited
def CM.isPure:CM→Bool
 | .pure=>true
 | _=>false
inductive AOp where
 | mov (x:Operand)
 | pick (c a b:Operand)
 | bin (op:BinOp) (x y:Operand)
 | eqv (neg:Bool) (k:EqKind) (x y:Operand)
 | un (op:UnOp) (x:Operand)
 | conv (k:IntKind) (x:Operand)
 | alloc (zero:List Value)
 | box (x:Operand)
 | build (zero:List Value) (parts:List (Nat×Nat×Operand))
 | buildSlice (len:Nat) (zero:List Value) (parts:List (Nat×Nat×Operand))
 | load1 (a:Operand)
 | loadN (n:Nat) (a:Operand)
 | store (n:Nat) (a x:Operand)
 | storeD (n:Nat) (a x:Operand)
 | nilCheck (x:Operand)
 | fieldAddr (off:Nat) (a:Operand)
 | field1 (off:Nat) (x:Operand)
 | fieldN (off n:Nat) (x:Operand)
 | idxAddrA (len esz:Nat) (x i:Operand)
 | idxAddrS (esz:Nat) (x i:Operand)
 | idxA (len esz:Nat) (agg:Bool) (x i:Operand)
 | idxStr (x i:Operand)
 | sliceS (esz:Nat) (x:Operand) (lo hi mx:Option Operand)
 | sliceA (n esz:Nat) (x:Operand) (lo hi mx:Option Operand)
 | sliceStr (x:Operand) (lo hi:Option Operand)
 | lenStr (x:Operand)
 | lenSlice (x:Operand)
 | capSlice (x:Operand)
 | lenMap (x:Operand)
 | lenK (n:Nat)
 | append (esz bytes:Nat) (str:Bool) (s x:Operand)
 | append0 (esz bytes:Nat) (str:Bool) (s x:Operand)
 | appendL (esz bytes:Nat) (str:Bool) (s x:Operand)
 | copy (esz:Nat) (d x:Operand)
 | minmax (mx:Bool) (xs:List Operand)
 | makeSlice (esz bytes:Nat) (zero:List Value) (len cap:Operand)
 | growNil (esz bytes:Nat) (zero:List Value) (s n:Operand)
 | die (x:Operand)
 | makeMap (hint:Option Operand)
 | lookup (kk:KK) (zero:Value) (ok:Bool) (m key:Operand)
 | mapUpdate (kk:KK) (m key v:Operand)
 | mapEntry (kk:KK) (zero:Value) (m key:Operand)
 | entryStore (m stamp v:Operand)
 | delete (kk:KK) (m key:Operand)
 | clear (zero:List Value) (x:Operand)
 | makeFunc (f:FuncId) (first captured:List Operand)
 | extract (i:Nat) (x:Operand)
 | b2s (x:Operand)
 | strId (x:Operand)
 | rowMark (x:Operand)
 | call (mp:CM) (f:Operand) (args:List Operand)
 | loadR (n:Option Nat) (x:Operand)
 | loadO (n:Option Nat) (x b:Operand)
 | storeO (n:Nat) (a x b:Operand)
 | storeN (n:Nat) (a x:Operand)
 deriving Inhabited
def AOp.operands:AOp→List Operand
 | .mov x | .un _ x | .conv _ x | .box x | .load1 x | .loadN _ x | .nilCheck x | .fieldAddr _ x | .field1 _ x | .fieldN _ _ x | .lenStr x | .lenSlice x | .capSlice x | .lenMap x | .extract _ x | .b2s x | .strId x | .rowMark x | .die x | .clear _ x | .loadR _ x=>[x]
 | .pick c a b | .storeO _ c a b=>[c,a,b]
 | .bin _ x y | .eqv _ _ x y | .store _ x y | .storeN _ x y | .storeD _ x y | .idxAddrA _ _ x y | .idxAddrS _ x y | .idxA _ _ _ x y | .idxStr x y | .append _ _ _ x y | .append0 _ _ _ x y | .appendL _ _ _ x y | .copy _ x y | .makeSlice _ _ _ x y | .growNil _ _ _ x y | .lookup _ _ _ x y | .mapEntry _ _ x y | .delete _ x y | .loadO _ x y=>[x,y]
 | .mapUpdate _ m k v | .entryStore m k v=>[m,k,v]
 | .alloc _ | .lenK _=>[]
 | .build _ ps | .buildSlice _ _ ps=>ps.map (·.2.2)
 | .sliceS _ x lo hi mx | .sliceA _ _ x lo hi mx=>x::(lo.toList++hi.toList++mx.toList)
 | .sliceStr x lo hi=>x::(lo.toList++hi.toList)
 | .minmax _ xs=>xs
 | .makeMap h=>h.toList
 | .makeFunc _ a b=>a++b
 | .call _ f args=>f::args
structure zIn where
 dst:Option Nat
 guard:Option (Nat×Bool)
 op:AOp
 dest:Option Nat:=none
 mask:List Nat:=[]
 deriving Inhabited
inductive zAc where
 | skip
 | ops (l:List zIn)
 | drawn (n:Nat) (l:List zIn)
 | seq (a b:zAc)
 | cond (c:Operand) (thn els:zAc)
 | block (id:Nat) (body:zAc)
 | loop (body:zAc)
 | exit (id:Nat)
 | ret
 | rangeF (f:Operand) (params:List Nat) (assign body:zAc)
 | retM
 | retR
 | exitR (id:Nat)
 deriving Inhabited
inductive ARes where
 | tmp (t:Nat)
 | cell1 (a:Nat)
 | cellN (n a:Nat)
 deriving Inhabited
structure zAf where
 ntmps:Nat
 results:List ARes
 body:zAc
 deriving Inhabited
structure LoopB where
 st:Nat
 pend:Option zAc
 fr:Nat→Value
 N:Nat
 params:List Nat
 assign:zAc
 body:zAc
inductive Blk where
 | dead
 | cells (ro:Bool) (c:List Value)
 | map (es:List (Value×Value))
 | loop (x:LoopB)
 | dfr
 | iter (m:Option Nat) (n:Nat) (seen:List Nat)
 deriving Inhabited
abbrev zH:=List Blk
def zG (H:zH) (i:Nat):Blk:=H.getD i .dead
def atom:Value→Bool
 | .bool _ | .int _ _ | .string _ | .pointer none | .map none | .nilFunc | .nilIface=>true
 | .slice none n c=>n == 0&&c == 0
 | .func (.func _) a b=>a.isEmpty&&b.isEmpty
 | .tuple a=>a.isEmpty
 | _=>false
def flat:Nat→Value→Bool
 | n+1,.agg cs=>cs.toList.all (flat n)
 | n+1,.tuple cs=>cs.toList.all (flat n)
 | _,v=>atom v
def olds (n:Nat):Nat→Value→Bool
 | d+1,.agg cs=>cs.toList.all (olds n d)
 | d+1,.tuple cs=>cs.toList.all (olds n d)
 | _,.pointer (some a)=>decide (a.block<n)
 | _,.slice (some a) _ _=>decide (a.block<n)
 | _,.map (some r)=>decide (r<n)
 | _,v=>atom v
def zTu:Value→Bool
 | .tuple _=>false
 | _=>true
def ev (fr:Nat→Value):Operand→Value
 | .tmp t=>fr t
 | .const v=>v
 | .func f=>.func (.func f) #[] #[]
 | .global _=>undef
def place (dest:Option Nat) (b:Blk) (H:zH):Nat×zH:=
 match dest with
 | none=>(H.length,H++[b])
 | some i=>(i,H.set i b)
def loadCell (H:zH) (a:Addr):Option Value:=
 match zG H a.block with
 | .cells _ c=>c[a.off]?
 | _=>none
def loadCells (H:zH) (a:Addr) (n:Nat):Option (List Value):=
 match zG H a.block with
 | .cells _ c=>if a.off+n≤c.length then some ((c.drop a.off).take n) else none
 | _=>none
def setAll (c:List Value) (off:Nat):List Value→List Value
 | []=>c
 | v::vs=>setAll (c.set off v) (off+1) vs
def storeAt (lim:Nat) (H:zH) (a:Addr) (vs:List Value):Option zH:=
 match zG H a.block with
 | .cells false c=>if lim≤a.block∧a.off+vs.length≤c.length then some (H.set a.block (.cells false (setAll c a.off vs))) else none
 | _=>none
def zB (op:BinOp):Value→Value→Option Value
 | .int k a,.int k' b=>
   match op with
   | .shl=>if b<0 then none else some (.int k (k.wrap (a*2 ^ (min b.toNat k.bits))))
   | .shr=>if b<0 then none else some (.int k (a.fdiv (2 ^ (min b.toNat k.bits))))
   | _=>if k=k' then
     match op with
     | .add=>some (.int k (k.wrap (a+b)))
     | .sub=>some (.int k (k.wrap (a-b)))
     | .mul=>some (.int k (k.wrap (a*b)))
     | .quo=>if b=0 then none else some (.int k (k.wrap (a.tdiv b)))
     | .rem=>if b=0 then none else some (.int k (a.tmod b))
     | .and=>some (.int k (k.wrap (BitVec.ofInt k.bits a &&& BitVec.ofInt k.bits b).toNat))
     | .or=>some (.int k (k.wrap (BitVec.ofInt k.bits a ||| BitVec.ofInt k.bits b).toNat))
     | .xor=>some (.int k (k.wrap (BitVec.ofInt k.bits a ^^^ BitVec.ofInt k.bits b).toNat))
     | .andNot=>some (.int k (k.wrap (BitVec.ofInt k.bits a &&& ~~~ BitVec.ofInt k.bits b).toNat))
     | .eql=>some (.bool (a == b))
     | .neq=>some (.bool (a != b))
     | .lss=>some (.bool (decide (a<b)))
     | .leq=>some (.bool (decide (a≤b)))
     | .gtr=>some (.bool (decide (b<a)))
     | .geq=>some (.bool (decide (b≤a)))
     | _=>none
     else none
 | .string a,.string b=>
   match op with
   | .add=>if ((a.size+b.size:Nat):Int) > IntKind.i64.max then none else some (.string (a++b))
   | .eql=>some (.bool (a.toList == b.toList))
   | .neq=>some (.bool (!(a.toList == b.toList)))
   | .lss=>some (.bool (Op.bytesLess a.toList b.toList))
   | .leq=>some (.bool (Op.bytesLess a.toList b.toList||a.toList == b.toList))
   | .gtr=>some (.bool (!(Op.bytesLess a.toList b.toList||a.toList == b.toList)))
   | .geq=>some (.bool (!(Op.bytesLess a.toList b.toList)))
   | _=>none
 | _,_=>none
def cellEq:KK→Value→Value→Option Bool
 | .int k,.int k1 a,.int k2 b=>if k1=k∧k2=k then some (a == b) else none
 | .bool,.bool a,.bool b=>some (a == b)
 | .str,.string a,.string b=>some (a.toList == b.toList)
 | _,_,_=>none
def zCe:List KK→List Value→List Value→Option Bool
 | [],[],[]=>some true
 | k::ks,x::xs,y::ys=>match cellEq k x y,zCe ks xs ys with
   | some a,some b=>some (a&&b)
   | _,_=>none
 | _,_,_=>none
def aEq:EqKind→Value→Value→Option Bool
 | .bool,.bool a,.bool b=>some (a == b)
 | .ptr,.pointer none,.pointer b=>some b.isNone
 | .ptr,.pointer (some _),.pointer none=>some false
 | .slice,.slice none _ _,.slice b _ _=>some b.isNone
 | .slice,.slice (some _) _ _,.slice none _ _=>some false
 | .map,.map none,.map b=>some b.isNone
 | .map,.map (some _),.map none=>some false
 | .func,.nilFunc,.nilFunc=>some true
 | .func,.nilFunc,.func _ _ _=>some false
 | .func,.func _ _ _,.nilFunc=>some false
 | .iface,.nilIface,.nilIface=>some true
 | .iface,.iface _ _,.nilIface=>some false
 | .agg l,.agg xs,.agg ys=>zCe l xs.toList ys.toList
 | _,_,_=>none
def aUn:UnOp→Value→Option Value
 | .not,.bool b=>some (.bool !b)
 | .neg,.int k n=>some (.int k (k.wrap (0-n)))
 | .xor,.int k n=>some (.int k (k.wrap (BitVec.ofInt k.bits (if k.signed then -1 else k.max) ^^^ BitVec.ofInt k.bits n).toNat))
 | _,_=>none
def fillParts (ρ:Operand→Value):List (Nat×Nat×Operand)→List Value→Option (List Value)
 | [],c=>some c
 | (off,size,x)::rest,c=>
   let vs:=(ρ x).cells.toList
   if vs.length=size∧off+size≤c.length∧zTu (ρ x)=true then fillParts ρ rest (setAll c off vs) else none
def bound (v:Value) (m:Nat):Option Nat:=
 match v with
 | .int _ i=>if 0≤i∧i≤(m:Int) then some i.toNat else none
 | _=>none
def bounds (ρ:Operand→Value) (len cap:Nat) (lo hi mx:Option Operand):Option (Nat×Nat×Nat):=
 match (match mx with | some x=>bound (ρ x) cap | none=>some cap) with
 | none=>none
 | some m=>
   match (match hi,mx with | some x,some _=>bound (ρ x) m | some x,none=>bound (ρ x) cap | none,none=>some len | none,some _=>none) with
   | none=>none
   | some h=>
     match (match lo with | some x=>bound (ρ x) h | none=>some 0) with
     | none=>none
     | some l=>some (l,h,m)
def aSliceS (esz:Nat) (ρ:Operand→Value) (v:Value) (lo hi mx:Option Operand):Option Value:=
 match v with
 | .slice a len cap=>
   if cap=loose esz then
    match bounds ρ len len lo hi mx with
    | none=>none
    | some (l,h,m)=>
      match mx with
      | none=>some (.slice (a.map (·.add (l*esz))) (h-l) (loose esz))
      | some _=>if m<2 ^ 62 then some (.slice (if m=l then a else a.map (·.add (l*esz))) (h-l) (m-l)) else none
   else if cap<2 ^ 62 then
    match bounds ρ len cap lo hi mx with
    | none=>none
    | some (l,h,m)=>some (.slice (if m=l then a else a.map (·.add (l*esz))) (h-l) (m-l))
   else none
 | _=>none
def firstCells (H:zH) (size:Nat) (str:Bool):Value→Option (List Value)
 | .slice none n _=>if str∨n≠0 then none else some []
 | .slice (some a) n _=>if str then none else if n=0 then some [] else loadCells H a (n*size)
 | .string s=>if str then some (s.data.toList.map fun b=>.int .u8 b.toNat) else none
 | _=>none
def lenOf:Value→Option Nat
 | .slice _ n _=>some n
 | .string s=>some s.size
 | _=>none
def maxBytes:Nat:=2 ^ 45
def zAa (lim:Nat) (dest:Option Nat) (esz bytes:Nat) (str:Bool) (s x:Value) (H:zH):Option (Value×zH):=
 match s,firstCells H esz str x,lenOf x with
 | .slice base n cap,some new,some m=>
   if esz=0∨(n+m)*bytes > maxBytes∨n+m≥2 ^ 62∨cap<n then none
   else if m=0 then some (s,H)
   else match base with
    | none=>
      if n=0∧cap=0 then
       let (i,H'):=place dest (.cells false new) H
       some (.slice (some ⟨i,0,none⟩) m (loose esz),H')
      else none
    | some a=>
      match loadCells H a (n*esz) with
      | none=>none
      | some old=>
        if cap=loose esz then
         match zG H a.block with
         | .cells false _=>
           if lim≤a.block then
            let (i,H'):=place dest (.cells false (old++new)) (H.set a.block .dead)
            some (.slice (some ⟨i,0,none⟩) (n+m) (loose esz),H')
           else none
         | _=>none
        else if cap<2 ^ 62 then
         if n+m≤cap then
          match storeAt lim H (a.add (n*esz)) new with
          | some H'=>some (.slice base (n+m) cap,H')
          | none=>none
         else
          let (i,H'):=place dest (.cells false (old++new)) H
          some (.slice (some ⟨i,0,none⟩) (n+m) (loose esz),H')
        else none
 | _,_,_=>none
def aMinMax (mx:Bool):Value→Value→Option Value
 | .int k x,.int k' y=>if k=k' then some (.int k (if mx then (if x<y then y else x) else (if y<x then y else x))) else none
 | _,_=>none
def aMinMaxAll (mx:Bool):Value→List Value→Option Value
 | x,[]=>some x
 | x,y::ys=>match aMinMax mx x y with
   | some z=>aMinMaxAll mx z ys
   | none=>none
def intsEq:List Value→List Value→Option Bool
 | [],[]=>some true
 | .int k a::xs,.int k' b::ys=>if k=k' then (intsEq xs ys).map ((a == b)&&·) else none
 | _,_=>none
def intsOk:List IntKind→List Value→Bool
 | [],[]=>true
 | k::ks,.int k' _::xs=>k == k'&&intsOk ks xs
 | _,_=>false
def keyEq:Value→Value→Option Bool
 | .int k a,.int k' b=>if k=k' then some (a == b) else none
 | .string a,.string b=>some (a == b)
 | .bool a,.bool b=>some (a == b)
 | .agg a,.agg b=>intsEq a.toList b.toList
 | _,_=>none
def findKey (k:Value):List (Value×Value)→Nat→Option (Option (Nat×Value))
 | [],_=>some none
 | (k',v)::es,i=>match keyEq k k' with
   | some true=>some (some (i,v))
   | some false=>findKey k es (i+1)
   | none=>none
def keyOk:KK→Value→Bool
 | .int k,.int k' _=>k == k'
 | .str,.string _=>true
 | .bool,.bool _=>true
 | .ints l,.agg cs=>intsOk l cs.toList
 | _,_=>false
def mapEntries (H:zH):Value→Option (List (Value×Value))
 | .map none=>some []
 | .map (some r)=>match zG H r with
   | .map es=>some es
   | _=>none
 | _=>none
def bytesOf:List Value→Option (List UInt8)
 | []=>some []
 | .int .u8 n::l=>match bytesOf l with
   | some bs=>some (UInt8.ofNat n.toNat::bs)
   | none=>none
 | _::_=>none
def copyCells (H:zH) (esz n:Nat):Value→Option (List Value)
 | .slice none m _=>if m=0 then some [] else none
 | .slice (some a) _ _=>loadCells H a (n*esz)
 | .string s=>if esz=1 then some ((s.data.toList.take n).map fun b=>.int .u8 b.toNat) else none
 | _=>none
def isRecB:Blk→Bool
 | .cells _ c=>c.any fun v=>match v with
   | .int _ _=>false
   | _=>true
 | _=>false
def loadX (n:Option Nat) (H:zH) (p:Addr):Option Value:=match n with
 | none=>loadCell H p
 | some k=>(loadCells H p k).map fun c=>.agg c.toArray
def aOp (lim:Nat) (dest:Option Nat) (o:AOp) (ρ:Operand→Value) (H:zH):Option (Value×zH):=
 match o with
 | .mov x=>some (ρ x,H)
 | .pick c a b=>match ρ c with
   | .bool true=>some (ρ a,H)
   | .bool false=>some (ρ b,H)
   | _=>none
 | .bin op x y=>(zB op (ρ x) (ρ y)).map (·,H)
 | .eqv neg k x y=>match aEq k (ρ x) (ρ y) with
   | some b=>some (.bool (if neg then !b else b),H)
   | none=>none
 | .un op x=>(aUn op (ρ x)).map (·,H)
 | .conv k x=>match ρ x with
   | .int _ n=>some (.int k (k.wrap n),H)
   | _=>none
 | .alloc zero=>let (i,H'):=place dest (.cells false zero) H;some (.pointer (some ⟨i,0,none⟩),H')
 | .box x=>if zTu (ρ x) then
   let (i,H'):=place dest (.cells false (ρ x).cells.toList) H;some (.pointer (some ⟨i,0,none⟩),H')
   else none
 | .build zero parts=>(fillParts ρ parts zero).map fun c=>(.agg c.toArray,H)
 | .buildSlice len zero parts=>match fillParts ρ parts zero with
   | some c=>let (i,H'):=place dest (.cells false c) H;some (.slice (some ⟨i,0,none⟩) len len,H')
   | none=>none
 | .load1 a=>match ρ a with
   | .pointer (some p)=>(loadCell H p).map (·,H)
   | _=>none
 | .loadN n a=>match ρ a with
   | .pointer (some p)=>(loadCells H p n).map fun c=>(.agg c.toArray,H)
   | _=>none
 | .loadR n a=>match ρ a with
   | .pointer (some p)=>if isRecB (zG H p.block)=true then (loadX n H p).map (·,H) else none
   | _=>none
 | .loadO n a b=>match ρ a,ρ b with
   | .pointer (some p),.pointer (some q)=>if p.block≠q.block then (loadX n H p).map (·,H) else none
   | _,_=>none
 | .storeO n a x b=>match ρ a,ρ b with
   | .pointer (some p),.pointer (some q)=>if p.block=q.block∧(ρ x).cells.size=n∧zTu (ρ x)=true then (storeAt lim H p (ρ x).cells.toList).map (undef,·) else none
   | _,_=>none
 | .storeN n a x=>match ρ a with
   | .pointer (some p)=>if isRecB (zG H p.block)=false∧(ρ x).cells.size=n∧zTu (ρ x)=true then (storeAt lim H p (ρ x).cells.toList).map (undef,·) else none
   | _=>none
 | .store n a x=>match ρ a with
   | .pointer (some p)=>if (ρ x).cells.size=n∧zTu (ρ x)=true then (storeAt lim H p (ρ x).cells.toList).map (undef,·) else none
   | _=>none
 | .storeD n a x=>match dest,ρ a with
   | some d,.pointer (some p)=>if p.block=d∧(ρ x).cells.size=n∧zTu (ρ x)=true then (storeAt lim H p (ρ x).cells.toList).map (undef,·) else none
   | _,_=>none
 | .nilCheck x=>match ρ x with
   | .pointer (some p)=>some (.pointer (some p),H)
   | .func (.func f) a b=>some (.func (.func f) a b,H)
   | _=>none
 | .fieldAddr off a=>match ρ a with
   | .pointer (some p)=>some (.pointer (some (p.add off)),H)
   | _=>none
 | .field1 off x=>match ρ x with
   | .agg cs=>(cs.toList[off]?).map (·,H)
   | _=>none
 | .fieldN off n x=>match ρ x with
   | .agg cs=>some (.agg ((cs.toList.drop off).take n).toArray,H)
   | _=>none
 | .idxAddrA len esz x i=>match ρ x,ρ i with
   | .pointer (some p),.int _ n=>if 0≤n∧n<(len:Int) then some (.pointer (some (p.add (n.toNat*esz))),H) else none
   | _,_=>none
 | .idxAddrS esz x i=>match ρ x,ρ i with
   | .slice (some p) len _,.int _ n=>if 0≤n∧n<(len:Int) then some (.pointer (some (p.add (n.toNat*esz))),H) else none
   | _,_=>none
 | .idxA len esz agg x i=>match ρ x,ρ i with
   | .agg cs,.int _ n=>if 0≤n∧n<(len:Int) then
     (if agg then some (.agg ((cs.toList.drop (n.toNat*esz)).take esz).toArray,H) else (cs.toList[n.toNat*esz]?).map (·,H))
     else none
   | _,_=>none
 | .idxStr x i=>match ρ x,ρ i with
   | .string s,.int _ n=>if 0≤n then (s.data.toList[n.toNat]?).map fun b=>(.int .u8 b.toNat,H) else none
   | _,_=>none
 | .sliceS esz x lo hi mx=>(aSliceS esz ρ (ρ x) lo hi mx).map (·,H)
 | .sliceA n esz x lo hi mx=>match ρ x with
   | .pointer (some a)=>match bounds ρ n n lo hi mx with
     | some (l,h,m)=>if m<2 ^ 62 then some (.slice (some (if m=l then a else a.add (l*esz))) (h-l) (m-l),H) else none
     | none=>none
   | _=>none
 | .sliceStr x lo hi=>match ρ x with
   | .string s=>match bounds ρ s.size s.size lo hi none with
     | some (l,h,_)=>some (.string (s.extract l h),H)
     | none=>none
   | _=>none
 | .lenStr x=>match ρ x with
   | .string s=>some (.int .i64 s.size,H)
   | _=>none
 | .lenSlice x=>match ρ x with
   | .slice _ n _=>some (.int .i64 n,H)
   | _=>none
 | .capSlice x=>match ρ x with
   | .slice _ _ c=>if c<2 ^ 62 then some (.int .i64 c,H) else none
   | _=>none
 | .lenMap x=>(mapEntries H (ρ x)).map fun es=>(.int .i64 es.length,H)
 | .lenK n=>some (.int .i64 n,H)
 | .append esz bytes str s x=>zAa lim dest esz bytes str (ρ s) (ρ x) H
 | .appendL esz bytes str s x=>match ρ s with
   | .slice none n c=>zAa lim dest esz bytes str (.slice none n c) (ρ x) H
   | .slice (some a) n c=>if c=loose esz∨c=n then zAa lim dest esz bytes str (.slice (some a) n c) (ρ x) H else none
   | _=>none
 | .append0 esz bytes str s x=>match ρ s with
   | .slice b 0 0=>zAa lim dest esz bytes str (.slice b 0 0) (ρ x) H
   | _=>none
 | .copy esz d x=>match ρ d,lenOf (ρ x) with
   | .slice base dl _,some sl=>match copyCells H esz (min sl dl) (ρ x) with
     | some cs=>match base with
       | some a=>if min sl dl=0 then some (.int .i64 0,H) else (storeAt lim H a cs).map (.int .i64 (min sl dl:Nat),·)
       | none=>if dl=0 then some (.int .i64 0,H) else none
     | none=>none
   | _,_=>none
 | .minmax mx xs=>match xs with
   | []=>none
   | x::r=>(aMinMaxAll mx (ρ x) (r.map ρ)).map (·,H)
 | .makeSlice esz bytes zero len cap=>match ρ len,ρ cap with
   | .int _ l,.int _ c=>
     if 0≤l∧l≤c∧c*bytes≤2 ^ 45∧c<2 ^ 62 then
      let (i,H'):=place dest (.cells false ((List.range (c.toNat*esz)).map fun j=>zero.getD (j % zero.length) undef)) H
      some (.slice (some ⟨i,0,none⟩) l.toNat c.toNat,H')
     else none
   | _,_=>none
 | .growNil esz bytes zero s n=>match ρ s,ρ n with
   | .slice none 0 0,.int _ l=>
     if 0<l∧l*bytes≤2 ^ 45∧l<2 ^ 62 then
      let (i,H'):=place dest (.cells false ((List.range (l.toNat*esz)).map fun j=>zero.getD (j % zero.length) undef)) H
      some (.slice (some ⟨i,0,none⟩) l.toNat (loose esz),H')
     else none
   | _,_=>none
 | .die _=>none
 | .makeMap hint=>match (match hint with | none=>true | some x=>match ρ x with | .int _ _=>true | _=>false) with
   | true=>let (i,H'):=place dest (.map []) H;some (.map (some i),H')
   | false=>none
 | .lookup kk zero ok m key=>match mapEntries H (ρ m) with
   | some es=>if keyOk kk (ρ key) then
     match findKey (ρ key) es 0 with
     | some (some (_,v))=>some (if ok then .tuple #[v,.bool true] else v,H)
     | some none=>some (if ok then .tuple #[zero,.bool false] else zero,H)
     | none=>none
     else none
   | none=>none
 | .mapUpdate kk m key v=>match ρ m with
   | .map (some r)=>match zG H r with
     | .map es=>if keyOk kk (ρ key)∧lim≤r then
       match findKey (ρ key) es 0 with
       | some (some (i,_))=>some (undef,H.set r (.map (es.set i (ρ key,ρ v))))
       | some none=>some (undef,H.set r (.map (es++[(ρ key,ρ v)])))
       | none=>none
       else none
     | _=>none
   | _=>none
 | .mapEntry kk zero m key=>match ρ m with
   | .map (some r)=>match zG H r with
     | .map es=>if keyOk kk (ρ key)∧lim≤r then
       match findKey (ρ key) es 0 with
       | some (some (i,v))=>some (.tuple #[v,.int .i64 i],H)
       | some none=>some (.tuple #[zero,.int .i64 es.length],H.set r (.map (es++[(ρ key,zero)])))
       | none=>none
       else none
     | _=>none
   | _=>none
 | .entryStore m stamp v=>match ρ m,ρ stamp with
   | .map (some r),.int .i64 n=>match zG H r with
     | .map es=>if 0≤n∧n.toNat<es.length∧lim≤r then some (undef,H.set r (.map (es.set n.toNat ((es.getD n.toNat (undef,undef)).1,ρ v)))) else none
     | _=>none
   | _,_=>none
 | .delete _ _ _=>none
 | .clear zero x=>match ρ x with
   | .slice (some a) n _=>if n=0 then some (.tuple #[],H) else (storeAt lim H a ((List.range (n*zero.length)).map fun j=>zero.getD (j % zero.length) undef)).map (.tuple #[],·)
   | _=>none
 | .makeFunc f first captured=>some (.func (.func f) (first.map ρ).toArray (captured.map ρ).toArray,H)
 | .extract i x=>match ρ x with
   | .tuple vs=>(vs.toList[i]?).map (·,H)
   | _=>none
 | .b2s x=>match ρ x with
   | .slice none n _=>if n=0 then some (.string .empty,H) else none
   | .slice (some a) n _=>match loadCells H a n with
     | some cs=>match bytesOf cs with
       | some bs=>some (.string ⟨bs.toArray⟩,H)
       | none=>none
     | none=>none
   | _=>none
 | .rowMark x=>match ρ x with
   | .slice (some a) n c=>match zG H a.block with
     | .cells false _=>if lim≤a.block∧n≠0 then some (.slice (some a) n c,H) else none
     | _=>none
   | _=>none
 | .strId x=>match ρ x with
   | .string s=>some (.string s,H)
   | _=>none
 | .call _ _ _=>none
def upd (fr:Nat→Value) (t:Nat) (v:Value):Nat→Value:=fun i=>if i=t then v else fr i
def putD (N:Nat) (fr:Nat→Value) (dst:Option Nat) (v:Value):Option (Nat→Value):=
 match dst with
 | none=>some fr
 | some d=>if d<N then some (upd fr d v) else none
def wantedA (N:Nat) (fr:Nat→Value):Option (Nat×Bool)→Option Bool
 | none=>some true
 | some (t,b)=>if t<N then (match fr t with
   | .bool c=>some (c == b)
   | _=>some false) else none
def zMh (base:Nat) (l:List Nat) (H:zH):zH:=l.foldl (fun H i=>H.set (base+i) .dead) H
def zUm (base:Nat) (l:List Nat) (H0 H:zH):zH:=l.foldl (fun H i=>H.set (base+i) (zG H0 (base+i))) H
def zCa (f:Value) (args:List Value):Option ((FuncId ⊕ Nat)×List Value):=
 match f with
 | .func (.func g) first captured=>some (.inl g,first.toList++args++captured.toList)
 | .func (.yield i) first captured=>some (.inr i,first.toList++args++captured.toList)
 | _=>none
def CM.lim:CM→Nat→zH→Nat
 | .mk,_,H=>H.length
 | _,l,_=>l
abbrev CallF:=Bool→Nat→(FuncId ⊕ Nat)→List Value→zH→Option (Value×zH)
mutual
def valEq:Value→Value→Bool
 | .bool a,.bool b=>a == b
 | .int k a,.int k' b=>decide (k=k')&&decide (a=b)
 | .float k a,.float k' b=>decide (k=k')&&decide (a=b)
 | .complex k a c,.complex k' b d=>decide (k=k')&&decide (a=b)&&decide (c=d)
 | .string a,.string b=>a.data.toList == b.data.toList
 | .pointer a,.pointer b=>decide (a=b)
 | .slice a n c,.slice b m d=>decide (a=b)&&decide (n=m)&&decide (c=d)
 | .map a,.map b=>decide (a=b)
 | .chan a,.chan b=>decide (a=b)
 | .func f ⟨a⟩ ⟨c⟩,.func g ⟨b⟩ ⟨d⟩=>decide (f=g)&&valsEq a b&&valsEq c d
 | .nilFunc,.nilFunc=>true
 | .iface t v,.iface u w=>decide (t=u)&&valEq v w
 | .nilIface,.nilIface=>true
 | .agg ⟨a⟩,.agg ⟨b⟩=>valsEq a b
 | .tuple ⟨a⟩,.tuple ⟨b⟩=>valsEq a b
 | _,_=>false
def valsEq:List Value→List Value→Bool
 | [],[]=>true
 | x::xs,y::ys=>valEq x y&&valsEq xs ys
 | _,_=>false
end
mutual
theorem valEq_self:∀v:Value,valEq v v=true
 | .bool a=>by simp [valEq]
 | .int k a=>by simp [valEq]
 | .float k a=>by simp [valEq]
 | .complex k a c=>by simp [valEq]
 | .string a=>by simp [valEq]
 | .pointer a=>by simp [valEq]
 | .slice a n c=>by simp [valEq]
 | .map a=>by simp [valEq]
 | .chan a=>by simp [valEq]
 | .func f ⟨a⟩ ⟨c⟩=>by simp [valEq,valsEq_self a,valsEq_self c]
 | .nilFunc=>by simp [valEq]
 | .iface t v=>by simp [valEq,valEq_self v]
 | .nilIface=>by simp [valEq]
 | .agg ⟨a⟩=>by simp [valEq,valsEq_self a]
 | .tuple ⟨a⟩=>by simp [valEq,valsEq_self a]
theorem valsEq_self:∀l:List Value,valsEq l l=true
 | []=>by simp [valsEq]
 | x::xs=>by simp [valsEq,valEq_self x,valsEq_self xs]
end
mutual
theorem valEq_eq:∀v w:Value,valEq v w=true→v=w
 | .bool a,w,h=>by cases w<;>simp [valEq] at h;rw [h]
 | .int k a,w,h=>by cases w<;>simp [valEq] at h;rw [h.1,h.2]
 | .float k a,w,h=>by cases w<;>simp [valEq] at h;rw [h.1,h.2]
 | .complex k a c,w,h=>by cases w<;>simp [valEq] at h;rw [h.1.1,h.1.2,h.2]
 | .string a,w,h=>by
   cases w<;>simp [valEq] at h
   rename_i b
   obtain ⟨⟨x⟩⟩:=a
   obtain ⟨⟨y⟩⟩:=b
   simp at h
   rw [h]
 | .pointer a,w,h=>by cases w<;>simp [valEq] at h;rw [h]
 | .slice a n c,w,h=>by cases w<;>simp [valEq] at h;rw [h.1.1,h.1.2,h.2]
 | .map a,w,h=>by cases w<;>simp [valEq] at h;rw [h]
 | .chan a,w,h=>by cases w<;>simp [valEq] at h;rw [h]
 | .func f ⟨a⟩ ⟨c⟩,w,h=>by
   cases w<;>simp [valEq] at h
   rename_i g b d
   obtain ⟨b⟩:=b
   obtain ⟨d⟩:=d
   simp [valEq] at h
   rw [h.1.1,valsEq_eq a b h.1.2,valsEq_eq c d h.2]
 | .nilFunc,w,h=>by cases w<;>simp [valEq] at h;rfl
 | .iface t v,w,h=>by
   cases w<;>simp [valEq] at h
   rename_i u x
   rw [h.1,valEq_eq v x h.2]
 | .nilIface,w,h=>by cases w<;>simp [valEq] at h;rfl
 | .agg ⟨a⟩,w,h=>by
   cases w<;>simp [valEq] at h
   rename_i b
   obtain ⟨b⟩:=b
   simp [valEq] at h
   rw [valsEq_eq a b h]
 | .tuple ⟨a⟩,w,h=>by
   cases w<;>simp [valEq] at h
   rename_i b
   obtain ⟨b⟩:=b
   simp [valEq] at h
   rw [valsEq_eq a b h]
theorem valsEq_eq:∀l m:List Value,valsEq l m=true→l=m
 | [],m,h=>by cases m<;>simp [valsEq] at h;rfl
 | x::xs,m,h=>by
   cases m<;>simp [valsEq] at h
   rename_i y ys
   rw [valEq_eq x y h.1,valsEq_eq xs ys h.2]
end
def blkSame:Blk→Blk→Bool
 | .cells ro c,.cells ro' c'=>decide (ro=ro')&&valsEq c c'
 | .cells _ _,_=>false
 | _,_=>true
def cellsKept (H H':zH):Bool:=(List.range H.length).all fun j=>blkSame (zG H j) (zG H' j)
theorem cellsKept_get {H H':zH} (h:cellsKept H H'=true) {j:Nat} {ro:Bool} {c:List Value} (hj:zG H j=.cells ro c):zG H' j=.cells ro c:=by
 have hlt:j<H.length:=by
  rcases Nat.lt_or_ge j H.length with h1 | h1
  ·exact h1
  ·unfold zG at hj
   rw [List.getD_eq_getElem?_getD,List.getElem?_eq_none h1] at hj
   cases hj
 have:=List.all_eq_true.1 h j (List.mem_range.2 hlt)
 rw [hj] at this
 cases hh:zG H' j with
 | cells ro' c'=>
   rw [hh] at this
   simp only [blkSame,Bool.and_eq_true,decide_eq_true_eq] at this
   rw [this.1,valsEq_eq _ _ this.2]
 | _=>rw [hh] at this;simp [blkSame] at this
def recsKept (H H':zH):Bool:=(List.range H.length).all fun j=>!isRecB (zG H j)||blkSame (zG H j) (zG H' j)
theorem isRecB_cells {b:Blk} (h:isRecB b=true):∃ro c,b=.cells ro c:=by
 cases b<;>first | exact ⟨_,_,rfl⟩ | cases h
theorem recsKept_get {H H':zH} (h:recsKept H H'=true) {j:Nat} (hj:isRecB (zG H j)=true):zG H' j=zG H j:=by
 obtain ⟨ro,c,hc⟩:=isRecB_cells hj
 have hlt:j<H.length:=by
  rcases Nat.lt_or_ge j H.length with hl | hl
  ·exact hl
  ·unfold zG at hc
   rw [List.getD_eq_getElem?_getD,List.getElem?_eq_none hl] at hc
   cases hc
 have:=List.all_eq_true.1 h j (List.mem_range.2 hlt)
 rw [hj,Bool.not_true,Bool.false_or,hc] at this
 cases hh:zG H' j with
 | cells ro' c'=>
   rw [hh] at this
   simp only [blkSame,Bool.and_eq_true,decide_eq_true_eq] at this
   rw [hc,this.1,valsEq_eq _ _ this.2]
 | _=>rw [hh] at this;simp [blkSame] at this
def finM:CM→zH→Option (Value×zH)→Option (Value×zH)
 | .maps,H,some (v,H')=>if cellsKept H H'=true then some (v,H') else none
 | .recs,H,some (v,H')=>if recsKept H H'=true then some (v,H') else none
 | _,_,r=>r
theorem finM_some {m:CM} {H:zH} {r:Option (Value×zH)} {p:Value×zH} (h:finM m H r=some p):r=some p∧(m=.maps→cellsKept H p.2=true):=by
 cases m with
 | maps=>
   cases r with
   | none=>simp [finM] at h
   | some q=>
     obtain ⟨v,H'⟩:=q
     simp only [finM] at h
     split at h
     ·rename_i hc;cases h;exact ⟨rfl,fun _=>hc⟩
     ·cases h
 | recs=>
   cases r with
   | none=>simp [finM] at h
   | some q=>
     obtain ⟨v,H'⟩:=q
     simp only [finM] at h
     split at h
     ·cases h;exact ⟨rfl,fun e=>by cases e⟩
     ·cases h
 | _=>exact ⟨by simpa [finM] using h,fun e=>by cases e⟩
theorem finM_recs {H:zH} {r:Option (Value×zH)} {p:Value×zH} (h:finM .recs H r=some p):recsKept H p.2=true:=by
 cases r with
 | none=>simp [finM] at h
 | some q=>
   obtain ⟨v,H'⟩:=q
   simp only [finM] at h
   split at h
   ·rename_i hc;cases h;exact hc
   ·cases h
theorem finM_mono {m:CM} {H:zH} {r r':Option (Value×zH)} (h:∀p,r=some p→r'=some p) {p:Value×zH} (hp:finM m H r=some p):finM m H r'=some p:=by
 obtain ⟨h1,h2⟩:=finM_some hp
 rw [h p h1]
 cases m with
 | maps=>obtain ⟨v,H'⟩:=p;simp only [finM,if_pos (h2 rfl)]
 | recs=>obtain ⟨v,H'⟩:=p;simp only [finM,if_pos (finM_recs hp)]
 | _=>rfl
def stepOp (C:CallF) (lim:Nat) (dest:Option Nat) (o:AOp) (ρ:Operand→Value) (H:zH):Option (Value×zH):=
 match o with
 | .call mp f args=>match zCa (ρ f) (args.map ρ) with
   | some (g,as)=>finM mp H (C mp.isPure (mp.lim lim H) g as H)
   | none=>none
 | o=>aOp lim dest o ρ H
def insVal (C:CallF) (N lim:Nat) (base:Option Nat) (i:zIn) (fr:Nat→Value) (H:zH):Option (Value×zH):=
 match wantedA N fr i.guard with
 | none=>none
 | some false=>some (undef,H)
 | some true=>match base with
   | none=>stepOp C lim none i.op (ev fr) H
   | some b=>match stepOp C lim (i.dest.map (b+·)) i.op (ev fr) (zMh b i.mask H) with
     | some (v,H')=>some (v,zUm b i.mask H H')
     | none=>none
def insOp (C:CallF) (N lim:Nat) (base:Option Nat) (i:zIn) (fr:Nat→Value) (H:zH):Option ((Nat→Value)×zH):=
 match insVal C N lim base i fr H with
 | some (v,H')=>(putD N fr i.dst v).map (·,H')
 | none=>none
abbrev CallS:=Bool→Nat→(FuncId ⊕ Nat)→List Value→zH→Option (List (Value×zH))
def oneOf {α:Type}:Option (List α)→Option α
 | some [x]=>some x
 | _=>none
def det (C:CallS):CallF:=fun mp lim t as H=>oneOf (C mp lim t as H)
def mapL {α β:Type} (f:α→Option β):List α→Option (List β)
 | []=>some []
 | x::l=>match f x,mapL f l with
   | some y,some r=>some (y::r)
   | _,_=>none
def bindL {α β:Type} (f:α→Option (List β)):List α→Option (List β)
 | []=>some []
 | x::l=>match f x,bindL f l with
   | some y,some r=>some (y++r)
   | _,_=>none
def keyFlat:Value→Bool
 | .agg cs=>cs.toList.all fun v=>match v with
   | .int _ _=>true
   | _=>false
 | .int _ _ | .string _ | .bool _=>true
 | _=>false
def unmet (n:Nat) (seen:List Nat):List Nat:=(List.range n).filter fun j=>!seen.contains j
def aRangeMap (v:Value) (H:zH):Option (Value×zH):=match v,mapEntries H v with
 | .map m,some es=>some (.pointer (some ⟨H.length,0,none⟩),H++[.iter m es.length []])
 | _,_=>none
def aNext (lim:Nat) (v:Value) (H:zH):Option (List (Value×zH)):=match v with
 | .pointer (some ⟨r,0,none⟩)=>match zG H r with
   | .iter m n seen=>if lim≤r then match mapEntries H (.map m) with
     | some es=>if es.length=n then match unmet n seen with
       | []=>some [(.tuple #[.bool false],H)]
       | j::l=>mapL (fun j=>match es[j]? with
         | some e=>if keyFlat e.1 then some (.tuple #[.bool true,e.1,e.2],H.set r (.iter m n (seen++[j]))) else none
         | none=>none) (j::l)
       else none
     | none=>none
     else none
   | _=>none
 | _=>none
def aEntry (v:Value) (H:zH):Option (Value×zH):=match v with
 | .pointer (some ⟨r,0,none⟩)=>match zG H r with
   | .iter (some m) n seen=>match mapEntries H (.map (some m)),seen.getLast? with
     | some es,some j=>if es.length=n then match es[j]? with
       | some e=>if keyFlat e.1 then some (.tuple #[e.1,e.2],H) else none
       | none=>none
     else none
     | _,_=>none
   | _=>none
 | _=>none
def stepS (C:CallS) (lim:Nat) (o:AOp) (ρ:Operand→Value) (H:zH):Option (List (Value×zH)):=
 match o with
 | .call mp f args=>match zCa (ρ f) (args.map ρ) with
   | some (g,as)=>match C mp.isPure (mp.lim lim H) g as H with
     | some L=>mapL (fun r=>finM mp H (some r)) L
     | none=>none
   | none=>none
 | o=>(aOp lim none o ρ H).map fun r=>[r]
def stepI (k lim:Nat) (o:AOp) (ρ:Operand→Value) (H:zH):Option (List (Value×zH)):=
 match k,o with
 | 1,.mov x=>(aRangeMap (ρ x) H).map fun r=>[r]
 | 2,.mov x=>aNext lim (ρ x) H
 | 3,.mov x=>(aEntry (ρ x) H).map fun r=>[r]
 | _,_=>none
def stepX (C:CallS) (lim:Nat) (i:zIn) (ρ:Operand→Value) (H:zH):Option (List (Value×zH)):=
 match i.dest with
 | none=>stepS C lim i.op ρ H
 | some k=>stepI k lim i.op ρ H
def insS (C:CallS) (N lim:Nat) (i:zIn) (fr:Nat→Value) (H:zH):Option (List ((Nat→Value)×zH)):=
 match wantedA N fr i.guard with
 | none=>none
 | some false=>(putD N fr i.dst undef).map fun f=>[(f,H)]
 | some true=>match stepX C lim i (ev fr) H with
   | some L=>mapL (fun r=>(putD N fr i.dst r.1).map (·,r.2)) L
   | none=>none
inductive zAi where
 | code (c:zAc)
 | ops (base:Option Nat) (l:List zIn)
 | inBlock (id:Nat)
 | inLoop (c:zAc)
 | begin (i:Nat)
 | round (i:Nat)
 | mark (i:Nat)
def roundOf:List zAi→Option Nat
 | []=>none
 | .round i::_=>some i
 | _::k=>roundOf k
def marks:List zAi→List Nat
 | []=>[]
 | .mark i::k=>marks k++[i]
 | _::k=>marks k
def shut (lim:Nat):List Nat→zH→Option zH
 | [],H=>some H
 | i::l,H=>match zG H i with
   | .dfr=>if lim≤i then shut lim l (H.set i .dead) else none
   | _=>none
def endRound (i:Nat) (j:Option zAc) (H:zH):Option (Value×zH):=
 match zG H i with
 | .loop x=>some (.bool j.isNone,H.set i (.loop { x with st:=if j.isNone then 0 else 2,pend:=j }))
 | _=>none
def setParams (fr:Nat→Value):List Nat→List Value→(Nat→Value)
 | p::ps,v::vs=>setParams (fun t=>if t=p then v else fr t) ps vs
 | _,_=>fr
def aExit (id:Nat):List zAi→Option (List zAi)
 | .inBlock id'::k=>if id'=id then some k else aExit id k
 | _::k=>aExit id k
 | []=>none
def zRe (fr:Nat→Value) (H:zH):ARes→Option Value
 | .tmp t=>some (fr t)
 | .cell1 a=>match fr a with
   | .pointer (some p)=>loadCell H p
   | _=>none
 | .cellN n a=>match fr a with
   | .pointer (some p)=>(loadCells H p n).map fun c=>.agg c.toArray
   | _=>none
def resAll (fr:Nat→Value) (H:zH):List ARes→Option (List Value)
 | []=>some []
 | r::rs=>match zRe fr H r,resAll fr H rs with
   | some v,some vs=>some (v::vs)
   | _,_=>none
def result (fr:Nat→Value) (H:zH) (rs:List ARes):Option Value:=
 match resAll fr H rs with
 | some [v]=>some v
 | some vs=>some (.tuple vs.toArray)
 | none=>none
def zFr (args:List Value):Nat→Value:=fun t=>args.getD t undef
structure Env where
 tr:FuncId→Option zAf
 pure:FuncId→Bool
 orc:FuncId→List Value→Option Value
 dt:Bool
 eff:FuncId→List Value→zH→Option (Value×List (List Value)×Option (Nat×List Value))
def news (X:List (List Value)):zH:=X.map (Blk.cells false)
def updE (H:zH):Option (Nat×List Value)→zH
 | none=>H
 | some (R,c)=>H.set R (.cells false c)
def updOk (lim:Nat) (H:zH):Option (Nat×List Value)→Bool
 | none=>true
 | some (R,c)=>decide (lim≤R)&&match zG H R with
   | .cells false c0=>decide (c0.length=c.length)
   | _=>false
def effH (H:zH) (r:List (List Value)×Option (Nat×List Value)):zH:=updE H r.2++news r.1
variable (E:Env)
def one {α:Type} (r:Option α):Option (List α):=r.map fun x=>[x]
def zCw (run:zAf→Nat→List zAi→(Nat→Value)→zH→Option (List (Value×zH))):CallS:=fun mustPure lim t as H=>
 match t with
 | .inl g=>
   match E.orc g as with
   | some v=>if as.all atom&&flat 4 v then some [(v,H)] else none
   | none=>
     match E.eff g as H with
     | some r=>if mustPure||!updOk lim H r.2.2 then none else some [(r.1,effH H r.2)]
     | none=>
     match E.tr g with
     | none=>none
     | some af=>
       if E.pure g then
        match run af H.length [.code af.body] (zFr as) H with
        | some ((v,_)::l)=>if l.all (fun r=>valEq v r.1) then (if olds H.length 4 v then some [(v,H)] else none) else none
        | _=>none
       else if mustPure then none
       else run af lim [.code af.body] (zFr as) H
 | .inr i=>
   if mustPure then none
   else match zG H i with
    | .loop x=>if lim≤i∧as.length=x.params.length∧x.params.all (·<x.N)=true then run ⟨x.N,[],.skip⟩ lim [.code x.assign,.begin i,.code x.body,.round i] (setParams x.fr x.params as) H else none
    | _=>none
def aRun:Nat→zAf→(lim:Nat)→List zAi→(Nat→Value)→zH→Option (List (Value×zH))
 | 0,_,_,_,_,_=>none
 | n+1,af,lim,k,fr,H=>
   match k with
   | []=>one ((result fr H af.results).map (·,H))
   | .inBlock _::k=>aRun n af lim k fr H
   | .inLoop c::k=>aRun n af lim (.code c::.inLoop c::k) fr H
   | .begin i::k=>match zG H i with
     | .loop x=>if x.st=0∧lim≤i then aRun n af lim k fr (H.set i (.loop { x with st:=1 })) else none
     | _=>none
   | .round i::_=>if lim≤i then one (endRound i none H) else none
   | .mark _::_=>none
   | .ops _ []::k=>aRun n af lim k fr H
   | .ops none (i::l)::k=>
     match insS (zCw E (aRun n)) af.ntmps lim i fr H with
     | some L=>bindL (fun r=>aRun n af lim (.ops none l::k) r.1 r.2) L
     | none=>none
   | .ops (some b) (i::l)::k=>
     match insOp (det (zCw E (aRun n))) af.ntmps lim (some b) i fr H with
     | some (fr',H')=>aRun n af lim (.ops (some b) l::k) fr' H'
     | none=>none
   | .code c::k=>
     match c with
     | .skip=>aRun n af lim k fr H
     | .ops l=>aRun n af lim (.ops none l::k) fr H
     | .drawn m l=>aRun n af lim (.ops (some H.length) l::k) fr (H++List.replicate m .dead)
     | .seq a b=>aRun n af lim (.code a::.code b::k) fr H
     | .cond c a b=>match ev fr c with
       | .bool true=>aRun n af lim (.code a::k) fr H
       | .bool false=>aRun n af lim (.code b::k) fr H
       | _=>none
     | .block id b=>aRun n af lim (.code b::.inBlock id::k) fr H
     | .loop b=>aRun n af lim (.code b::.inLoop b::k) fr H
     | .exit id=>match aExit id k with
       | some k'=>aRun n af lim k' fr H
       | none=>none
     | .ret=>one ((result fr H af.results).map (·,H))
     | .retM=>match shut lim (marks k) H with
       | some H'=>one ((result fr H' af.results).map (·,H'))
       | none=>none
     | .retR=>match roundOf k with
       | some i=>if lim≤i then one (endRound i (some .retM) H) else none
       | none=>none
     | .exitR id=>match aExit id k with
       | some k'=>aRun n af lim k' fr H
       | none=>match roundOf k with
         | some i=>if lim≤i then one (endRound i (some (.exit id)) H) else none
         | none=>none
     | .rangeF f ps assign body=>
       match zCa (ev fr f) [.func (.yield (H.length+1)) #[] #[]] with
       | some (.inl g,as)=>
         match zCw E (aRun n) false lim (.inl g) as (H++[.dfr,.loop ⟨0,none,fr,af.ntmps,ps,assign,body⟩]) with
         | some L=>bindL (fun r=>match zG r.2 (H.length+1) with
           | .loop x=>if x.st=1 then none else aRun n af lim ((match x.pend with | none=>[] | some c=>[.code c])++(k++[.mark H.length])) fr (r.2.set (H.length+1) .dead)
           | _=>none) L
         | none=>none
       | _=>none
def aCall (n:Nat):CallS:=zCw E (aRun E n)
variable (P:Program) (pureF:FuncId→Bool)
def zOo:Operand→Bool
 | .tmp _=>true
 | .const v=>atom v
 | .func _=>true
 | .global _=>false
def isAggT (t:TypeId):Option Bool:=
 match P.underlying t with
 | some (.struct _) | some (.array _ _)=>some true
 | some _=>some false
 | none=>none
def zeroOf (t:TypeId):Option (List Value):=
 match P.info? t with
 | some i=>match i.zero with
   | some z=>if z.cells.toList.all (fun v=>atom v&&v.oneCell') then some z.cells.toList else none
   | none=>none
 | none=>none
def zeroVal (t:TypeId):Option Value:=
 match P.info? t with
 | some i=>match i.zero with
   | some z=>if z.cells.toList.all (fun v=>atom v&&v.oneCell') then some z else none
   | none=>none
 | none=>none
def zSz (t:TypeId):Option Nat:=(P.info? t).map (·.size)
def bytesOfT (t:TypeId):Option Nat:=(P.info? t).map (·.bytes)
def kindsGo (f':TypeId→Option (List KK)):List Field→Nat→Option (List KK)
    | [],_=>some []
    | f::fs,off=>if f.name= "_"∨f.offset≠off then none else
      match f' f.type with
      | some l=>if l.length=P.cellsOf f.type∧l.length≠0 then (kindsGo f' fs (off+l.length)).map (l++·) else none
      | none=>none
def zSk:Nat→TypeId→Option (List KK)
 | 0,_=>none
 | n+1,t=>match P.underlying t with
   | some .bool=>some [.bool]
   | some (.int k)=>some [.int k]
   | some .string=>some [.str]
   | some (.array len e)=>match zSk n e with
     | some l=>if l.length=P.cellsOf e then some (List.replicate len l).flatten else none
     | none=>none
   | some (.struct fs)=>if P.stoodInHeld t then none else kindsGo P (zSk n) fs.toList 0
   | _=>none
def eqKind (t:TypeId):Option EqKind:=
 match P.underlying t with
 | some .bool=>some .bool
 | some (.pointer _)=>some .ptr
 | some (.slice _)=>some .slice
 | some (.map _ _)=>some .map
 | some (.func _ _ _)=>some .func
 | some (.struct _) | some (.array _ _)=>if P.eqGuardType P.depth t then none else (zSk P 20 t).map .agg
 | _=>none
def intKinds:List KK→Option (List IntKind)
 | []=>some []
 | .int k::l=>(intKinds l).map (k::·)
 | _=>none
def keyKind (t:TypeId):Option KK:=
 match P.underlying t with
 | some (.int k)=>some (.int k)
 | some .string=>some .str
 | some .bool=>some .bool
 | some (.struct _) | some (.array _ _)=>match zSk P 20 t with
   | some l=>(intKinds l).map .ints
   | none=>none
 | _=>none
def trPart (fs:Array Field) (x:Nat×Operand):Option (Nat×Nat×Operand):=do
 let f ←fs[x.1]?
 let s ←zSz P f.type
 if zOo x.2 then pure (f.offset,s,x.2) else none
def flatType (t:TypeId):Bool:=match P.underlying t with
 | some .bool=>true
 | some (.int _)=>true
 | some .string=>true
 | _=>false
def trOp (draw:Bool) (o:Oper):Option AOp:=
 if !(o.op.operands.toList.all zOo) then none else
 match o.op with
 | .move x | .assign x=>some (.mov x)
 | .pick c a b=>some (.pick c a b)
 | .alloc e=>(zeroOf P e).map .alloc
 | .box _ x=>some (.box x)
 | .build t parts=>do
   let z ←zeroOf P t
   match P.underlying t with
   | some (.struct fs)=>do
     let ps ←parts.toList.mapM (trPart P fs)
     if fs.toList.all (fun f=>(P.info? f.type).isSome) then pure (.build z ps) else none
   | some (.array _ e)=>do
     let s ←zSz P e
     pure (.build z (parts.toList.map fun x=>(x.1*s,s,x.2)))
   | _=>none
 | .buildSlice t len parts=>do
   match P.underlying t with
   | some (.slice e)=>do
     let s ←zSz P e
     let z ←zeroOf P e
     if z.length≠s∨s=0∨len*s > 2 ^ 20 then none else
     pure (.buildSlice len ((List.range (len*s)).map fun j=>z.getD (j % z.length) undef) (parts.toList.map fun x=>(x.1*s,s,x.2)))
   | _=>none
 | .load t a=>do
   let ag ←isAggT P t
   if ag then (zSz P t).map (.loadN · a) else some (.load1 a)
 | .store t a x=>(zSz P t).map (.store · a x)
 | .nilCheck x=>some (.nilCheck x)
 | .binOp op t x y _=>
   match P.underlying t with
   | some (.int _) | some .string=>some (.bin op x y)
   | some (.interface _)=>match y with
     | .const .nilIface=>match op with
       | .eql=>some (.eqv false .iface x y)
       | .neq=>some (.eqv true .iface x y)
       | _=>none
     | _=>none
   | _=>match op with
     | .eql=>(eqKind P t).map (.eqv false · x y)
     | .neq=>(eqKind P t).map (.eqv true · x y)
     | _=>none
 | .unOp op _ x=>some (.un op x)
 | .convert s d x=>
   match P.underlying s,P.underlying d with
   | some (.int _),some (.int k)=>some (.conv k x)
   | some .string,some .string=>some (.strId x)
   | some (.slice e),some .string=>match P.underlying e with
     | some (.int .u8)=>some (.b2s x)
     | _=>none
   | some (.slice e),some (.slice _)=>match P.underlying e with
     | some (.int .u8)=>if s=d then some (.rowMark x) else none
     | _=>none
   | _,_=>none
 | .makeFunc (.func f) first captured=>some (.makeFunc f first.toList captured.toList)
 | .makeInterface _ x=>some (.die x)
 | .panic x=>some (.die x)
 | .makeMap t x=>match P.underlying t with
   | some (.map _ _)=>some (.makeMap x)
   | _=>none
 | .makeSlice t l c=>do
   match P.underlying t with
   | some (.slice e)=>do
     let s ←zSz P e
     let b ←bytesOfT P e
     let z ←zeroOf P e
     if z.length≠s∨s=0 then none else pure (.makeSlice s b z l c)
   | _=>none
 | .slice t x lo hi mx=>do
   match P.underlying t with
   | some (.slice e)=>do
     let s ←zSz P e
     if s=0 then none else pure (.sliceS s x lo hi mx)
   | some (.array n e)=>do
     let s ←zSz P e
     if s=0 then none else pure (.sliceA n s x lo hi mx)
   | some .string=>if mx.isSome then none else some (.sliceStr x lo hi)
   | _=>none
 | .fieldAddr s x f=>do
   match P.underlying s with
   | some (.struct fs)=>do
     let fd ←fs[f]?
     let n ←zSz P fd.type
     if n=0 then none else pure (.fieldAddr fd.offset x)
   | _=>none
 | .field s x f=>do
   match P.underlying s with
   | some (.struct fs)=>do
     let fd ←fs[f]?
     let n ←zSz P fd.type
     let ag ←isAggT P fd.type
     if ag then pure (.fieldN fd.offset n x) else pure (.field1 fd.offset x)
   | _=>none
 | .indexAddr t x i=>do
   match P.underlying t with
   | some (.slice e)=>do
     let s ←zSz P e
     pure (.idxAddrS s x i)
   | some (.array n e)=>do
     let s ←zSz P e
     pure (.idxAddrA n s x i)
   | _=>none
 | .index t x i=>do
   match P.underlying t with
   | some (.array n e)=>do
     let s ←zSz P e
     let ag ←isAggT P e
     pure (.idxA n s ag x i)
   | some .string=>pure (.idxStr x i)
   | _=>none
 | .lookup t m k ok=>do
   match P.underlying t with
   | some (.map kt e)=>do
     let z ←zeroVal P e
     let kk ←keyKind P kt
     pure (.lookup kk z ok m k)
   | _=>none
 | .mapUpdate t m k x | .insert t m k x=>do
   match P.underlying t with
   | some (.map kt _)=>(keyKind P kt).map fun kk=>.mapUpdate kk m k x
   | _=>none
 | .mapEntry t m k=>do
   match P.underlying t with
   | some (.map kt e)=>do
     let z ←zeroVal P e
     let kk ←keyKind P kt
     pure (.mapEntry kk z m k)
   | _=>none
 | .entryStore _ m s x=>some (.entryStore m s x)
 | .extract x i=>some (.extract i x)
 | .call c=>do
   match c.callee with
   | .value f=>pure (.call (if draw&&(match f with | .func g=>pureF g | _=>flatType P o.type) then .pure else .any) f c.args.toList)
   | .builtin .len=>match c.args.toList,c.argTypes.toList with
     | [x],[t]=>match P.underlying t with
       | some .string=>some (.lenStr x)
       | some (.slice _)=>some (.lenSlice x)
       | some (.map _ _)=>some (.lenMap x)
       | some (.array n _)=>some (.lenK n)
       | _=>none
     | _,_=>none
   | .builtin .cap=>match c.args.toList,c.argTypes.toList with
     | [x],[t]=>match P.underlying t with
       | some (.slice _)=>some (.capSlice x)
       | _=>none
     | _,_=>none
   | .builtin .append=>match c.args.toList,c.argTypes.toList with
     | [s,x],[st,xt]=>match P.underlying st,P.underlying xt with
       | some (.slice e),some (.slice _)=>do
         let n ←zSz P e
         let b ←bytesOfT P e
         let z ←zeroOf P e
         if z.length=n then pure (.append n b false s x) else none
       | some (.slice e),some .string=>do
         let n ←zSz P e
         let b ←bytesOfT P e
         let z ←zeroOf P e
         if z.length=n∧n=1 then pure (.append n b true s x) else none
       | some (.slice e),some (.int _)=>do
         let n ←zSz P e
         let b ←bytesOfT P e
         let z ←zeroOf P e
         if z.length=n∧n≠0 then pure (.growNil n b z s x) else none
       | _,_=>none
     | _,_=>none
   | .builtin .copy=>match c.args.toList,c.argTypes.toList with
     | [d,x],dt::_=>match P.underlying dt with
       | some (.slice e)=>(zSz P e).map (.copy · d x)
       | _=>none
     | _,_=>none
   | .builtin .clear=>match c.args.toList,c.argTypes.toList with
     | [x],t::_=>match P.underlying t with
       | some (.slice e)=>(zeroOf P e).map (.clear · x)
       | _=>none
     | _,_=>none
   | .builtin .min=>some (.minmax false c.args.toList)
   | .builtin .max=>some (.minmax true c.args.toList)
   | .builtin .delete=>match c.args.toList,c.argTypes.toList with
     | [m,k],t::_=>match P.underlying t with
       | some (.map kt _)=>(keyKind P kt).map fun kk=>.delete kk m k
       | _=>none
     | _,_=>none
   | _=>none
 | _=>none
inductive Kind where
 | p | r | a | w | c | n | s
 deriving DecidableEq,Inhabited
def kind:AOp→Kind
 | .mov _ | .pick .. | .bin .. | .eqv .. | .un .. | .conv .. | .build .. | .nilCheck _ | .fieldAddr .. | .field1 .. | .fieldN .. | .idxAddrA .. | .idxAddrS ..
 | .idxA .. | .idxStr .. | .sliceS .. | .sliceA .. | .sliceStr .. | .lenStr _ | .lenSlice _ | .capSlice _ | .lenK _ | .minmax .. | .makeFunc .. | .extract .. | .strId _ | .die _=>.p
 | .load1 _ | .loadN .. | .lenMap _ | .lookup .. | .b2s _ | .rowMark _ | .loadR .. | .loadO ..=>.r
 | .alloc _ | .box _ | .buildSlice .. | .makeSlice .. | .growNil .. | .makeMap _=>.a
 | .store .. | .storeO .. | .storeN .. | .append .. | .appendL .. | .copy .. | .mapUpdate .. | .mapEntry .. | .entryStore .. | .delete .. | .clear ..=>.w
 | .append0 ..=>.n
 | .storeD ..=>.s
 | .call mp ..=>if mp.isPure then .r else .c
def makes:AOp→Bool
 | .append .. | .append0 .. | .appendL ..=>true
 | o=>kind o=.a
def waits (ops:Array Oper):Nat→Nat→Nat→Bool
 | 0,_,_=>false
 | n+1,x,a=>match ops[x]? with
   | some o=>o.after.toList.any fun e=>Region.binds .any e&&(e.on == a||waits ops n e.on a)
   | none=>false
def conflict (k l:Kind):Bool:=
 match k,l with
 | .p,_ | _,.p=>false
 | .s,_ | _,.s=>false
 | .c,.a | .a,.c=>false
 | .c,_ | _,.c=>true
 | .a,_ | _,.a=>false
 | .w,_ | _,.w=>true
 | .r,.r | .n,.n | .n,.r | .r,.n=>false
def isS:AOp→Bool
 | .storeD ..=>true
 | _=>false
def zIn.made (i:zIn):Option Nat:=if isS i.op then none else i.dest
def ranks (l:List AOp):List (Option Nat):=
 go 0 l
where
 go (n:Nat):List AOp→List (Option Nat)
  | []=>[]
  | o::l=>if makes o then some n::go (n+1) l else none::go n l
def trGuard (ops:Array Oper):Option (Nat×Bool)→Option (Option (Nat×Bool))
 | none=>some none
 | some (j,b)=>match (ops[j]?).bind (·.dst) with
   | some t=>some (some (t,b))
   | none=>none
def trIns (draw:Bool) (ops:Array Oper) (o:Oper):Option zIn:=do
 let a ←trOp P pureF draw o
 let g ←trGuard ops o.guard
 pure { dst:=o.dst,guard:=g,op:=a }
def trSp (o:Oper):Option (Operand×Nat):=
 if !(o.op.operands.toList.all zOo) then none else
 match o.op with
 | .range t x=>match P.underlying t with
   | some (.map _ _)=>some (x,1)
   | _=>none
 | .next it isString=>if isString then none else some (it,2)
 | .entry it=>some (it,3)
 | _=>none
def trInsP (ops:Array Oper) (o:Oper):Option zIn:=
 match trIns P pureF false ops o with
 | some i=>some i
 | none=>do
   let a ←trSp P o
   let g ←trGuard ops o.guard
   pure { dst:=o.dst,guard:=g,op:=.mov a.1,dest:=some a.2 }
def zIn.looks (i:zIn):List Nat:=
 (i.op.operands.filterMap fun | .tmp t=>some t | _=>none)++(match i.guard with | some (t,_)=>[t] | none=>[])
def apartA (x y:zIn):Bool:=
 (match x.dst with
  | some d=>!y.looks.contains d&&y.dst != some d
  | none=>true) &&
 (match y.dst with
  | some d=>!x.looks.contains d
  | none=>true)
def isL:AOp→Bool
 | .appendL ..=>true
 | _=>false
def isLoad:AOp→Bool
 | .load1 _ | .loadN ..=>true
 | _=>false
def isRead:AOp→Bool
 | .load1 _ | .loadN .. | .lenMap _ | .lookup .. | .b2s _=>true
 | _=>false
def isMk:AOp→Bool
 | .call .mk ..=>true
 | _=>false
def isMaps:AOp→Bool
 | .call .maps ..=>true
 | _=>false
def isLoadR:AOp→Bool
 | .loadR ..=>true
 | _=>false
def isRecs:AOp→Bool
 | .call .recs ..=>true
 | _=>false
def isO (a b:AOp):Bool:=match a,b with
 | .loadO _ _ (.tmp s),.storeO _ _ _ (.tmp t)=>s == t
 | _,_=>false
def isE (a b:AOp):Bool:=match a,b with
 | .lookup _ (.int k n) false (.tmp x) (.tmp y),.mapEntry _ (.int k' n') (.tmp x') (.tmp y')=>k == k'&&n == n'&&x == x'&&y == y'
 | _,_=>false
def isStoreN:AOp→Bool
 | .storeN ..=>true
 | _=>false
def calm (a b:AOp):Bool:=isE a b||(isLoadR a&&isStoreN b)||!conflict (kind a) (kind b)||(isL a&&isLoad b)||(isRead a&&isMk b)||(isLoad a&&isMaps b)||(isLoadR a&&isRecs b)||isO a b
def pairOk (ops:Array Oper) (l:List zIn) (i j:Nat):Bool:=
 waits ops ops.size i j ||
  match l[i]?,l[j]? with
  | some a,some b=>apartA b a&&calm b.op a.op
  | _,_=>false
def ordOk (ops:Array Oper):List Nat→List Nat→Bool
 | _,[]=>true
 | A,i::B=>(match ops[i]? with
   | some o=>o.after.toList.all fun e=>!Region.binds .any e||A.contains e.on
   | none=>true)&&ordOk ops (A++[i]) B
def pairsOk (ops:Array Oper) (l:List zIn):List Nat→List Nat→Bool
 | _,[]=>true
 | A,i::B=>(A.all fun j=>pairOk ops l i j)&&pairsOk ops l (A++[i]) B
def nodupB:List Nat→Bool
 | []=>true
 | x::l=>!l.contains x&&nodupB l
def permOk (n:Nat) (ord:List Nat):Bool:=(ord.all (·<n))&&((List.range n).all fun i=>ord.contains i)&&nodupB ord
def homeS (l:List zIn) (rk:List (Option Nat)) (i:zIn):Option Nat:=
 match i.op with
 | .storeD _ (.tmp t) _=>match (List.range l.length).find? fun k=>match l[k]? with
   | some a=>a.dst == some t&&(match a.op with | .alloc _=>true | _=>false)
   | none=>false with
   | some k=>rk.getD k none
   | none=>none
 | _=>none
def planIns (ops:Array Oper) (rk:List (Option Nat)) (j:Nat) (i:zIn):zIn:=
 { i with dest:=rk.getD j none,mask:=if kind i.op=.r∨kind i.op=.w∨kind i.op=.n∨kind i.op=.c then
     ((List.range rk.length).filterMap fun a=>if a≠j∧!waits ops ops.size j a then rk.getD a none else none) else [] }
def unf:AOp→AOp
 | .append0 e b s x y=>.append e b s x y
 | .appendL e b s x y=>.append e b s x y
 | .storeD n a x=>.store n a x
 | .loadR none x=>.load1 x
 | .loadR (some n) x=>.loadN n x
 | .loadO none x _=>.load1 x
 | .loadO (some n) x _=>.loadN n x
 | .storeO n a x _=>.store n a x
 | .storeN n a x=>.store n a x
 | o=>o
def isNone:AOp→Bool
 | .buildSlice 0 _ _=>true
 | _=>false
def fresh (l:List zIn) (i:zIn):zIn:=
 match i.op with
 | .append e b s (.tmp t) y=>if l.any (fun j=>j.dst == some t&&isNone j.op) then { i with op:=.append0 e b s (.tmp t) y } else i
 | _=>i
def late (ops:Array Oper) (l:List zIn):Option Nat:=
 (List.range l.length).find? fun k=>match l[k]? with
  | some a=>(match a.op with | .append ..=>true | _=>false)&&(List.range l.length).any fun j=>j != k&&(match l[j]? with | some b=>isLoad b.op | none=>false)&&!waits ops ops.size j k&&!waits ops ops.size k j
  | none=>false
def toL (i:zIn):zIn:=match i.op with
 | .append e b s x y=>{ i with op:=.appendL e b s x y }
 | _=>i
def toS (l:List zIn) (i:zIn):zIn:=match i.op with
 | .store n (.tmp t) x=>if l.any (fun j=>j.dst == some t&&(match j.op with | .alloc _=>true | _=>false)) then { i with op:=.storeD n (.tmp t) x } else i
 | _=>i
def prepI (st:Bool) (l:List zIn) (i:zIn):zIn:=if st then toS l (fresh l i) else fresh l i
def setS (l:List zIn) (rk:List (Option Nat)) (i:zIn):zIn:=if isS i.op then { i with dest:=homeS l rk i } else i
def sepS (ops:Array Oper) (L:List zIn):Bool:=
 (List.range L.length).all fun i=>match L[i]? with
  | some x=>!(isS x.op)||(List.range L.length).all fun j=>i == j||waits ops ops.size i j||waits ops ops.size j i ||
    match x.dest,L[j]? with
    | some r,some y=>y.dest != some r&&(y.mask.contains r||kind y.op == .p||kind y.op == .a||kind y.op == .s)
    | _,_=>true
  | none=>true
def homesS (L:List zIn) (n:Nat):Bool:=L.all fun x=>!(isS x.op)||match x.dest with
 | some r=>decide (r<n)
 | none=>false
def besideRead (ops:Array Oper) (l:List zIn) (k:Nat):Bool:=
 (List.range l.length).any fun j=>j != k&&(match l[j]? with | some b=>isRead b.op | none=>false)&&!waits ops ops.size j k&&!waits ops ops.size k j
def codeAny (p:Oper→Bool):Code→Bool
 | .region _ ops _=>ops.any p
 | .seq a b=>codeAny p a||codeAny p b
 | .cond _ a b=>codeAny p a||codeAny p b
 | .block _ b=>codeAny p b
 | .loop b=>codeAny p b
 | _=>false
def mapsIn:Nat→FuncId→Bool
 | 0,_=>false
 | n+1,g=>match P.funcs[g]? with
   | some fn=>match fn.body with
     | some b=>codeAny (fun o=>match o.op with
       | .mapUpdate .. | .insert .. | .mapEntry ..=>true
       | .call c=>match c.callee with
         | .value (.func g')=>mapsIn n g'
         | _=>false
       | _=>false) b
     | none=>false
   | none=>false
def toMk (i:zIn):zIn:=match i.op with
 | .call .any (.func g) as=>if mapsIn P 3 g then { i with op:=.call .maps (.func g) as } else { i with op:=.call .mk (.func g) as }
 | .call .any f as=>{ i with op:=.call .mk f as }
 | _=>i
def besideCall (ops:Array Oper) (l:List zIn) (k:Nat):Bool:=
 (List.range l.length).any fun j=>j != k&&(match l[j]? with | some b=>(match b.op with | .call .any ..=>true | _=>false) | none=>false)&&!waits ops ops.size j k&&!waits ops ops.size k j
def recsHere (l:List zIn):Bool:=(l.all fun i=>!makes i.op)&&l.any fun i=>match i.op with | .store ..=>true | _=>false
def baseOf (l:List zIn):Operand→Option Operand
 | .tmp a=>match l.find? fun j=>j.dst == some a with
   | some j=>match j.op with
     | .fieldAddr _ (.tmp t)=>some (.tmp t)
     | _=>none
   | none=>none
 | _=>none
def free2 (ops:Array Oper) (j k:Nat):Bool:=j != k&&!waits ops ops.size j k&&!waits ops ops.size k j
def besideStore (ops:Array Oper) (l:List zIn) (k:Nat):Option Operand:=
 match (List.range l.length).find? fun j=>(match l[j]? with | some b=>(match b.op with | .store ..=>true | _=>false) | none=>false)&&free2 ops j k with
 | some j=>match l[j]? with
   | some b=>match b.op with
     | .store _ a _=>baseOf l a
     | _=>none
   | none=>none
 | none=>none
def besideLoad (ops:Array Oper) (l:List zIn) (k:Nat):Bool:=
 (List.range l.length).any fun j=>(match l[j]? with | some b=>(match b.op with | .load1 .. | .loadN ..=>true | _=>false) | none=>false)&&free2 ops j k
def besideStoreN (ops:Array Oper) (l:List zIn) (k:Nat):Bool:=
 (List.range l.length).any fun j=>(match l[j]? with | some b=>(match b.op with | .store _ a _=>(baseOf l a).isNone | _=>false) | none=>false)&&free2 ops j k
def toRc (ops:Array Oper) (l:List zIn) (k:Nat) (i:zIn):zIn:=match i.op with
 | .call .any f as=>if besideRead ops l k then { i with op:=.call .recs f as } else i
 | .load1 x=>if besideCall ops l k||besideStoreN ops l k then { i with op:=.loadR none x } else match besideStore ops l k with
   | some b=>{ i with op:=.loadO none x b }
   | none=>i
 | .loadN n x=>if besideCall ops l k||besideStoreN ops l k then { i with op:=.loadR (some n) x } else match besideStore ops l k with
   | some b=>{ i with op:=.loadO (some n) x b }
   | none=>i
 | .store n a x=>if besideLoad ops l k then match baseOf l a with
   | some b=>{ i with op:=.storeO n a x b }
   | none=>{ i with op:=.storeN n a x }
   else i
 | _=>i
def mks (l:List zIn):List Nat:=(List.range l.length).filter fun k=>match l[k]? with | some a=>isMk a.op||isMaps a.op||isRecs a.op | none=>false
def insertBy (key:Nat→Nat) (j:Nat):List Nat→List Nat
 | []=>[j]
 | i::l=>if key j<key i then j::i::l else i::insertBy key j l
def ordOf (ops:Array Oper) (n:Nat) (ms:List Nat):Option Nat→List Nat
 | some k=>(List.range n).filter (fun j=>j == k||waits ops ops.size k j)++(List.range n).filter (fun j=>!(j == k||waits ops ops.size k j))
 | none=>match ms with
   | []=>List.range n
   | _=>
     let key:=fun j=>2*(ms.filter fun m=>waits ops ops.size j m).length+(if ms.contains j then 1 else 0)
     (List.range n).foldl (fun l j=>insertBy key j l) []
def trDrawn0 (st:Bool) (ops:Array Oper):Option zAc:=do
 let l0 ←ops.toList.mapM (trIns P pureF true ops)
 let l1:=l0.map (prepI st l0)
 let k:=late ops l1
 let l2:=l1.zipIdx.map fun (i,j)=>if k=some j then toL i else i
 let l:=l2.zipIdx.map fun (i,j)=>if recsHere l2 then toRc ops l2 j i else if besideRead ops l2 j then toMk P i else i
 let ord:=ordOf ops l.length (mks l) k
 let rk:=ranks (l.map (·.op))
 let l':=l.zipIdx.map fun (i,j)=>setS l rk (planIns ops rk j i)
 if permOk ops.size ord&&ordOk ops [] ord&&pairsOk ops l [] ord&&l0.all (fun i=>!isS i.op)&&sepS ops l'&&homesS l' (rk.filterMap id).length then
  pure (.drawn (rk.filterMap id).length (ord.map fun j=>l'.getD j default))
 else none
def trDrawn (ops:Array Oper):Option zAc:=match trDrawn0 P pureF false ops with
 | some c=>some c
 | none=>trDrawn0 P pureF true ops
def trCode:Code→Option zAc
 | .skip=>some .skip
 | .region _ ops draw=>
   if draw then trDrawn P pureF ops
   else do
    let l ←ops.toList.mapM (trInsP P pureF ops)
    pure (.ops l)
 | .seq a b=>do pure (.seq (←trCode a) (←trCode b))
 | .cond c a b=>do if zOo c then pure (.cond c (←trCode a) (←trCode b)) else none
 | .block id b=>do pure (.block id (←trCode b))
 | .loop b=>do pure (.loop (←trCode b))
 | .exit id=>some (.exit id)
 | .ret=>some .ret
 | _=>none
def trRes:ResultVar→Option ARes
 | .tmp t=>some (.tmp t)
 | .cell a t=>do
   let n ←zSz P t
   let ag ←isAggT P t
   if ag then pure (.cellN n a) else pure (.cell1 a)
def trCodeR:Code→Option zAc
 | .skip=>some .skip
 | .region _ ops draw=>
   if draw then trDrawn P pureF ops
   else do
    let l ←ops.toList.mapM (trInsP P pureF ops)
    pure (.ops l)
 | .seq a b=>do pure (.seq (←trCodeR a) (←trCodeR b))
 | .cond c a b=>do if zOo c then pure (.cond c (←trCodeR a) (←trCodeR b)) else none
 | .block id b=>do pure (.block id (←trCodeR b))
 | .loop b=>do pure (.loop (←trCodeR b))
 | .exit id=>some (.exitR id)
 | .ret=>some .retR
 | _=>none
def trCodeM:Code→Option zAc
 | .skip=>some .skip
 | .region _ ops draw=>
   if draw then trDrawn P pureF ops
   else do
    let l ←ops.toList.mapM (trInsP P pureF ops)
    pure (.ops l)
 | .seq a b=>do pure (.seq (←trCodeM a) (←trCodeM b))
 | .cond c a b=>do if zOo c then pure (.cond c (←trCodeM a) (←trCodeM b)) else none
 | .block id b=>do pure (.block id (←trCodeM b))
 | .loop b=>do pure (.loop (←trCodeM b))
 | .exit id=>some (.exit id)
 | .ret=>some .retM
 | .rangeFunc f ps a b=>do if zOo f then pure (.rangeF f ps.toList (←trCodeR P pureF a) (←trCodeR P pureF b)) else none
 | _=>none
def trFuncN (f:FuncId):Option zAf:=do
 let fn ←P.funcs[f]?
 let b ←fn.body
 let c ←trCode P pureF b
 let rs ←fn.results.toList.mapM (trRes P)
 if fn.name == "runtime.NumGoroutine" then none else
 pure { ntmps:=fn.ntmps,results:=rs,body:=c }
def trFuncM (f:FuncId):Option zAf:=do
 let fn ←P.funcs[f]?
 let b ←fn.body
 let c ←trCodeM P pureF b
 let rs ←fn.results.toList.mapM (trRes P)
 if fn.name == "runtime.NumGoroutine" then none else
 pure { ntmps:=fn.ntmps,results:=rs,body:=.seq c .retM }
def zTf (f:FuncId):Option zAf:=
 match trFuncN P pureF f with
 | some a=>some a
 | none=>trFuncM P pureF f
def Gl (P:Program) (w:World):Prop:=True
structure Loc where
 blk:Nat
 base:Nat
 room:Nat
abbrev Sig:=Nat→Option Loc
inductive zVr (σ:Sig):Value→Value→Prop
 | atom {v} (h:atom v=true):zVr σ v v
 | ptr {i k L} (h:σ i=some L):zVr σ (.pointer (some ⟨i,k,none⟩)) (.pointer (some ⟨L.blk,L.base+k,none⟩))
 | slice {i k L n c} (h:σ i=some L) (hc:c<2 ^ 62):zVr σ (.slice (some ⟨i,k,none⟩) n c) (.slice (some ⟨L.blk,L.base+k,none⟩) n c)
 | lslice {i k L n e c} (h:σ i=some L) (hn:n≤c) (hr:k+c*e≤L.room) :
   zVr σ (.slice (some ⟨i,k,none⟩) n (loose e)) (.slice (some ⟨L.blk,L.base+k,none⟩) n c)
 | eslice {i k L c a} (h:σ i=some L) (hc:c=0∨∃e,c=loose e):zVr σ (.slice (some ⟨i,k,none⟩) 0 c) (.slice (some a) 0 0)
 | map {i L} (h:σ i=some L):zVr σ (.map (some i)) (.map (some L.blk))
 | func {f:FuncId} {a b c d:Array Value} (h1:a.size=c.size) (h2:b.size=d.size)
   (k1:∀i (h:i<a.size) (h':i<c.size),zVr σ a[i] c[i]) (k2:∀i (h:i<b.size) (h':i<d.size),zVr σ b[i] d[i]) :
   zVr σ (.func (.func f) a b) (.func (.func f) c d)
 | err {t:TypeId} {v:Value}:zVr σ (.iface 0 .nilIface) (.iface t v)
 | yld {i L} (h:σ i=some L):zVr σ (.func (.yield i) #[] #[]) (.func (.yield L.blk) #[] #[])
 | agg {xs ys:Array Value} (h:xs.size=ys.size) (k:∀i (h:i<xs.size) (h':i<ys.size),zVr σ xs[i] ys[i]) (o:∀i (h:i<ys.size),ys[i].oneCell'=true):zVr σ (.agg xs) (.agg ys)
 | tuple {xs ys:Array Value} (h:xs.size=ys.size) (k:∀i (h:i<xs.size) (h':i<ys.size),zVr σ xs[i] ys[i]):zVr σ (.tuple xs) (.tuple ys)
def zLr (σ:Sig) (xs ys:List Value):Prop:=xs.length=ys.length∧∀(i:Nat) x y,xs[i]? = some x→ys[i]? = some y→zVr σ x y
def Sig.le (σ τ:Sig):Prop:=∀i L,σ i=some L→τ i=some L
theorem Sig.le_refl (σ:Sig):Sig.le σ σ:=fun _ _ h=>h
theorem Sig.le_trans {a b c:Sig} (h:Sig.le a b) (k:Sig.le b c):Sig.le a c:=fun i L hi=>k i L (h i L hi)
theorem zVr.mono {σ τ:Sig} (hle:Sig.le σ τ) {v v':Value} (h:zVr σ v v'):zVr τ v v':=by
 induction h with
 | atom h=>exact .atom h
 | ptr h=>exact .ptr (hle _ _ h)
 | slice h hc=>exact .slice (hle _ _ h) hc
 | lslice h hn hr=>exact .lslice (hle _ _ h) hn hr
 | eslice h hc=>exact .eslice (hle _ _ h) hc
 | map h=>exact .map (hle _ _ h)
 | err=>exact .err
 | yld h=>exact .yld (hle _ _ h)
 | func h1 h2 _ _ k1 k2=>exact .func h1 h2 k1 k2
 | agg h k o ih=>exact .agg h ih o
 | tuple h k ih=>exact .tuple h ih
theorem zLr.mono {σ τ:Sig} (hle:Sig.le σ τ) {v v':List Value} (h:zLr σ v v'):zLr τ v v':=⟨h.1,fun i x y hx hy=>(h.2 i x y hx hy).mono hle⟩
theorem zLr.nil {σ:Sig}:zLr σ [] []:=⟨rfl,fun i x y h=>by simp at h⟩
theorem zLr.cons {σ:Sig} {x y:Value} {xs ys:List Value} (h:zVr σ x y) (k:zLr σ xs ys):zLr σ (x::xs) (y::ys):=by
 refine ⟨by simp [k.1],fun i a b ha hb=>?_⟩
 cases i with
 | zero=>simp at ha hb;subst ha hb;exact h
 | succ i=>simp at ha hb;exact k.2 i a b ha hb
theorem zLr.head {σ:Sig} {x y:Value} {xs ys:List Value} (h:zLr σ (x::xs) (y::ys)):zVr σ x y:=h.2 0 x y rfl rfl
theorem zLr.tail {σ:Sig} {x y:Value} {xs ys:List Value} (h:zLr σ (x::xs) (y::ys)):zLr σ xs ys:=
 ⟨by have:=h.1;simp at this;exact this,fun i a b ha hb=>h.2 (i+1) a b (by simpa using ha) (by simpa using hb)⟩
theorem zLr.append {σ:Sig} {a b c d:List Value} (h:zLr σ a c) (k:zLr σ b d):zLr σ (a++b) (c++d):=by
 refine ⟨by simp [h.1,k.1],fun i x y hx hy=>?_⟩
 by_cases hi:i<a.length
 ·rw [List.getElem?_append_left hi] at hx
  rw [List.getElem?_append_left (by rw [←h.1];exact hi)] at hy
  exact h.2 i x y hx hy
 ·rw [List.getElem?_append_right (by omega)] at hx
  rw [List.getElem?_append_right (by rw [←h.1];omega),←h.1] at hy
  exact k.2 _ x y hx hy
theorem zLr.drop {σ:Sig} {a b:List Value} (h:zLr σ a b) (n:Nat):zLr σ (a.drop n) (b.drop n):=
 ⟨by simp [h.1],fun i x y hx hy=>h.2 (n+i) x y (by simpa using hx) (by simpa using hy)⟩
theorem zLr.take {σ:Sig} {a b:List Value} (h:zLr σ a b) (n:Nat):zLr σ (a.take n) (b.take n):=by
 refine ⟨by simp [h.1],fun i x y hx hy=>?_⟩
 simp only [List.getElem?_take] at hx hy
 split at hx
 ·rename_i hi;rw [if_pos hi] at hy;exact h.2 i x y hx hy
 ·cases hx
theorem zLr.get {σ:Sig} {a b:List Value} (h:zLr σ a b) {i:Nat} {x:Value} (hx:a[i]? = some x):∃y,b[i]? = some y∧zVr σ x y:=by
 have hi:i<a.length:=(List.getElem?_eq_some_iff.1 hx).1
 have hb:b[i]? = some (b[i]'(by rw [←h.1];exact hi)):=List.getElem?_eq_getElem _
 exact ⟨_,hb,h.2 i _ _ hx hb⟩
theorem zLr.refl_of {σ:Sig} {a:List Value} (h:∀x∈a,zVr σ x x):zLr σ a a:=
 ⟨rfl,fun i x y hx hy=>by rw [hx] at hy;cases hy;exact h x (List.mem_of_getElem? hx)⟩
theorem zLr.atoms {σ:Sig} {a:List Value} (h:a.all atom=true):zLr σ a a:=zLr.refl_of fun x hx=>.atom (List.all_eq_true.1 h x hx)
theorem zLr.set {σ:Sig} {a b:List Value} (h:zLr σ a b) {x y:Value} (k:zVr σ x y) (n:Nat):zLr σ (a.set n x) (b.set n y):=by
 refine ⟨by simp [h.1],fun i u v hu hv=>?_⟩
 rw [List.getElem?_set] at hu hv
 by_cases hn:n=i
 ·subst hn
  rw [if_pos rfl] at hu hv
  split at hu
  ·split at hv
   ·cases hu;cases hv;exact k
   ·cases hv
  ·cases hu
 ·rw [if_neg hn] at hu hv
  exact h.2 i u v hu hv
theorem zLr.map {σ:Sig} {α:Type} (l:List α) (f g:α→Value) (h:∀x∈l,zVr σ (f x) (g x)):zLr σ (l.map f) (l.map g):=by
 refine ⟨by simp,fun i u v hu hv=>?_⟩
 simp only [List.getElem?_map,Option.map_eq_some_iff] at hu hv
 obtain ⟨a,ha,rfl⟩:=hu
 obtain ⟨b,hb,rfl⟩:=hv
 rw [ha] at hb;cases hb
 exact h a (List.mem_of_getElem? ha)
theorem zVr.agg_iff {σ:Sig} {xs ys:Array Value}:zVr σ (.agg xs) (.agg ys)↔zLr σ xs.toList ys.toList∧∀y∈ys.toList,y.oneCell'=true:=by
 constructor
 ·intro h
  cases h with
  | atom h=>simp [AM.atom] at h
  | agg h k o=>
    refine ⟨⟨by simpa using h,fun i x y hx hy=>?_⟩,fun y hy=>?_⟩
    ·simp only [Array.getElem?_toList] at hx hy
     obtain ⟨hi,rfl⟩:=Array.getElem?_eq_some_iff.1 hx
     obtain ⟨hj,rfl⟩:=Array.getElem?_eq_some_iff.1 hy
     exact k i hi hj
    ·obtain ⟨i,hi,rfl⟩:=Array.mem_iff_getElem.1 (Array.mem_toList_iff.1 hy)
     exact o i hi
 ·rintro ⟨h,k⟩
  refine .agg (by simpa using h.1) (fun i h1 h2=>h.2 i _ _ (by simp [h1]) (by simp [h2])) (fun i h1=>k _ (by simp))
theorem zVr.tuple_iff {σ:Sig} {xs ys:Array Value}:zVr σ (.tuple xs) (.tuple ys)↔zLr σ xs.toList ys.toList:=by
 constructor
 ·intro h
  cases h with
  | atom h=>
    have h0:xs=#[]:=by simpa [AM.atom] using h
    subst h0
    exact zLr.nil
  | tuple h k=>
    refine ⟨by simpa using h,fun i x y hx hy=>?_⟩
    simp only [Array.getElem?_toList] at hx hy
    obtain ⟨hi,rfl⟩:=Array.getElem?_eq_some_iff.1 hx
    obtain ⟨hj,rfl⟩:=Array.getElem?_eq_some_iff.1 hy
    exact k i hi hj
 ·intro h
  exact .tuple (by simpa using h.1) fun i h1 h2=>h.2 i _ _ (by simp [h1]) (by simp [h2])
theorem zVr.agg_left {σ:Sig} {xs:Array Value} {v:Value} (h:zVr σ (.agg xs) v):∃ys,v=.agg ys∧zLr σ xs.toList ys.toList∧∀y∈ys.toList,y.oneCell'=true:=by
 cases h with
 | atom h=>simp [AM.atom] at h
 | agg h k o=>exact ⟨_,rfl,zVr.agg_iff.1 (.agg h k o)⟩
theorem zVr.tuple_left {σ:Sig} {xs:Array Value} {v:Value} (h:zVr σ (.tuple xs) v):∃ys,v=.tuple ys∧zLr σ xs.toList ys.toList:=by
 cases h with
 | atom h=>exact ⟨_,rfl,zVr.tuple_iff.1 (.atom h)⟩
 | tuple h k=>exact ⟨_,rfl,zVr.tuple_iff.1 (.tuple h k)⟩
theorem zVr.int_left {σ:Sig} {k:IntKind} {n:Int} {v:Value} (h:zVr σ (.int k n) v):v=.int k n:=by cases h;rfl
theorem zVr.bool_left {σ:Sig} {b:Bool} {v:Value} (h:zVr σ (.bool b) v):v=.bool b:=by cases h;rfl
theorem zVr.string_left {σ:Sig} {b:ByteArray} {v:Value} (h:zVr σ (.string b) v):v=.string b:=by cases h;rfl
theorem zVr.nilptr_left {σ:Sig} {v:Value} (h:zVr σ (.pointer none) v):v=.pointer none:=by cases h;rfl
theorem zVr.nilmap_left {σ:Sig} {v:Value} (h:zVr σ (.map none) v):v=.map none:=by cases h;rfl
theorem zVr.nilfunc_left {σ:Sig} {v:Value} (h:zVr σ .nilFunc v):v=.nilFunc:=by cases h;rfl
theorem zVr.nilIface_left {σ:Sig} {v:Value} (h:zVr σ .nilIface v):v=.nilIface:=by cases h;rfl
theorem zVr.iface_left {σ:Sig} {t:TypeId} {u v:Value} (h:zVr σ (.iface t u) v):∃t' u',v=.iface t' u':=by
 cases h with
 | atom h=>simp [AM.atom] at h
 | err=>exact ⟨_,_,rfl⟩
theorem zVr.nilslice_left {σ:Sig} {n c:Nat} {v:Value} (h:zVr σ (.slice none n c) v):n=0∧c=0∧v=.slice none 0 0:=by
 cases h with
 | atom h=>
   have h0:n=0∧c=0:=by simpa [AM.atom] using h
   obtain ⟨rfl,rfl⟩:=h0
   exact ⟨rfl,rfl,rfl⟩
theorem zVr.ptr_left {σ:Sig} {p:Addr} {v:Value} (h:zVr σ (.pointer (some p)) v):∃L,σ p.block=some L∧p.spot=none∧v=.pointer (some ⟨L.blk,L.base+p.off,none⟩):=by
 cases h with
 | atom h=>simp [AM.atom] at h
 | ptr h=>exact ⟨_,h,rfl,rfl⟩
theorem zVr.map_left {σ:Sig} {r:Nat} {v:Value} (h:zVr σ (.map (some r)) v):∃L,σ r=some L∧v=.map (some L.blk):=by
 cases h with
 | atom h=>simp [AM.atom] at h
 | map h=>exact ⟨_,h,rfl⟩
theorem zVr.func_left {σ:Sig} {f:FuncId} {a b:Array Value} {v:Value} (h:zVr σ (.func (.func f) a b) v):∃c d,v=.func (.func f) c d∧zLr σ a.toList c.toList∧zLr σ b.toList d.toList:=by
 have key:∀{x y:Array Value},x.size=y.size→(∀i (h:i<x.size) (h':i<y.size),zVr σ x[i] y[i])→zLr σ x.toList y.toList:=by
  intro x y h k
  exact zVr.tuple_iff.1 (.tuple h k)
 cases h with
 | atom h=>
   have h0:a=#[]∧b=#[]:=by simpa [AM.atom] using h
   obtain ⟨rfl,rfl⟩:=h0
   exact ⟨_,_,rfl,zLr.nil,zLr.nil⟩
 | func h1 h2 k1 k2=>exact ⟨_,_,rfl,key h1 k1,key h2 k2⟩
theorem zVr.slice_left {σ:Sig} {p:Addr} {n c:Nat} {v:Value} (h:zVr σ (.slice (some p) n c) v):p.spot=none∧∃L,σ p.block=some L∧
  ((c<2 ^ 62∧v=.slice (some ⟨L.blk,L.base+p.off,none⟩) n c)∨
   (∃e,c=loose e∧∃c',n≤c'∧p.off+c'*e≤L.room∧v=.slice (some ⟨L.blk,L.base+p.off,none⟩) n c')∨
   (∃a,(c=0∨∃e,c=loose e)∧n=0∧v=.slice (some a) 0 0)):=by
 cases h with
 | atom h=>simp [AM.atom] at h
 | slice h hc=>exact ⟨rfl,_,h,.inl ⟨hc,rfl⟩⟩
 | lslice h hn hr=>exact ⟨rfl,_,h,.inr (.inl ⟨_,rfl,_,hn,hr,rfl⟩)⟩
 | eslice h hc=>exact ⟨rfl,_,h,.inr (.inr ⟨_,hc,rfl,rfl⟩)⟩
theorem zVr.slice' {σ:Sig} {a:Addr} {L:Loc} {n c:Nat} (hs:a.spot=none) (hL:σ a.block=some L) (hc:c<2 ^ 62):zVr σ (.slice (some a) n c) (.slice (some ⟨L.blk,L.base+a.off,none⟩) n c):=by
 obtain ⟨b,o,s⟩:=a
 simp only at hs;subst hs
 exact .slice hL hc
theorem zVr.eslice' {σ:Sig} {a b:Addr} {L:Loc} {c:Nat} (hs:a.spot=none) (hL:σ a.block=some L) (hc:c=0∨∃e,c=AM.loose e):zVr σ (.slice (some a) 0 c) (.slice (some b) 0 0):=by
 obtain ⟨b,o,s⟩:=a
 simp only at hs;subst hs
 exact .eslice hL hc
theorem zVr.cells {σ:Sig} {v v':Value} (h:zVr σ v v'):zLr σ v.cells.toList v'.cells.toList:=by
 cases h with
 | agg h k o=>exact (zVr.agg_iff.1 (.agg h k o)).1
 | atom h=>
   cases v<;>first | exact zLr.cons (.atom h) zLr.nil | (simp [AM.atom] at h)
 | ptr h=>exact zLr.cons (.ptr h) zLr.nil
 | slice h hc=>exact zLr.cons (.slice h hc) zLr.nil
 | lslice h hn hr=>exact zLr.cons (.lslice h hn hr) zLr.nil
 | eslice h hc=>exact zLr.cons (.eslice h hc) zLr.nil
 | map h=>exact zLr.cons (.map h) zLr.nil
 | err=>exact zLr.cons .err zLr.nil
 | yld h=>exact zLr.cons (.yld h) zLr.nil
 | func h1 h2 k1 k2=>exact zLr.cons (.func h1 h2 k1 k2) zLr.nil
 | tuple h k=>exact zLr.cons (.tuple h k) zLr.nil
theorem zVr.cells_one {σ:Sig} {v v':Value} (h:zVr σ v v') (ht:zTu v=true):∀x∈v'.cells.toList,x.oneCell'=true:=by
 intro x hx
 cases h with
 | agg h k o=>exact (zVr.agg_iff.1 (.agg h k o)).2 x hx
 | atom h=>cases v<;>first | (simp [zTu] at ht;done) | (simp [Value.cells] at hx;subst hx;rfl) | (simp [AM.atom] at h;done)
 | tuple h k=>simp [zTu] at ht
 | _=>simp [Value.cells] at hx;subst hx;rfl
def owned:Blk→Bool
 | .dead=>false
 | .cells ro _=>!ro
 | _=>true
def alive:Blk→Bool
 | .dead=>false
 | _=>true
def NoFz (fz:Nat×Nat) (n:Nat):Prop:=fz.1=fz.2∨n≤fz.1
theorem NoFz.ok {fz:Nat×Nat} {n:Nat} (h:NoFz fz n) (o:Nat) (ho:o<n):¬(fz.1≤o∧o<fz.2):=by
 rcases h with h | h<;>omega
structure Prg where
 P:Program
 pf:FuncId→Bool
def stOf:Nat→LoopState
 | 0=>.ready
 | 1=>.busy
 | _=>.done
structure LoopRel (Pg:Prg) (σ:Sig) (x:LoopB) (lp:Loop):Prop where
 st:lp.state=stOf x.st
 pend:match x.pend with
  | none=>lp.pending=none
  | some c=>∃C,lp.pending=some C∧trCodeM Pg.P Pg.pf C=some c
 size:x.N≤lp.tmps.size
 val:∀t,zVr σ (x.fr t) (lp.tmps.getD t undef)
 params:lp.params.toList=x.params
 assign:trCodeR Pg.P Pg.pf lp.assign=some x.assign
 body:trCodeR Pg.P Pg.pf lp.body=some x.body
theorem LoopRel.mono {Pg:Prg} {σ τ:Sig} (hle:Sig.le σ τ) {x:LoopB} {lp:Loop} (h:LoopRel Pg σ x lp):LoopRel Pg τ x lp:=
 ⟨h.st,h.pend,h.size,fun t=>(h.val t).mono hle,h.params,h.assign,h.body⟩
def Stamps (n clock:Nat) (ents:Array MapEntry):Prop:=clock=n∧∀(j:Nat) e,ents[j]? = some e→e.born=j
def IterMap (σ:Sig) (m m':Option Nat):Prop:=match m with
 | none=>m'=none
 | some r=>∃L,σ r=some L∧m'=some L.blk
theorem IterMap.mono {σ τ:Sig} (hle:Sig.le σ τ) {m m':Option Nat} (h:IterMap σ m m'):IterMap τ m m':=by
 cases m with
 | none=>exact h
 | some r=>obtain ⟨L,h1,h2⟩:=h;exact ⟨L,hle _ _ h1,h2⟩
def BlkRel (Pg:Prg) (σ:Sig) (w:World) (L:Loc):Blk→Prop
 | .dead=>True
 | .cells ro c=>∃cs el fz,w.heap[L.blk]? = some (.cells cs el fz)∧
   (∀(j:Nat) v,c[j]? = some v→∃v',cs[L.base+j]? = some v'∧zVr σ v v'∧v'.oneCell'=true)∧
   (ro=false→L.base+L.room≤cs.size∧c.length≤L.room∧NoFz fz cs.size)
 | .map es=>∃ents clock,w.heap[L.blk]? = some (.map ents clock)∧ents.size=es.length∧
   (∀(j:Nat) e e',es[j]? = some e→ents[j]? = some e'→e.1=e'.key∧zVr σ e.2 e'.val)∧Stamps es.length clock ents
 | .iter m n seen=>L.base=0∧∃m',IterMap σ m m'∧w.heap[L.blk]? = some (.mapIter m' (if m.isSome then n else 0) seen.toArray (if m.isSome then n else 0))∧∀j∈seen,j<n
 | .loop x=>∃lp,w.heap[L.blk]? = some (.loop lp)∧LoopRel Pg σ x lp
 | .dfr=>w.heap[L.blk]? = some (.deferred (some []))
def Held (Pg:Prg) (w:World):Prop:=∃w0,Gl Pg.P w0∧w0.heap.size≤w.heap.size∧∀b,b<w0.heap.size→w.heap[b]? = w0.heap[b]?
structure Root (Pg:Prg) (W:Nat→Prop) (w:World):Prop where
 fresh:∀b,w.heap.size≤b→W b
 held:∃w0,Gl Pg.P w0∧w0.heap.size≤w.heap.size∧(∀b,W b→w0.heap.size≤b)∧∀b,b<w0.heap.size→w.heap[b]? = w0.heap[b]?
theorem Root.step {Pg:Prg} {W:Nat→Prop} {w w':World} (h:Root Pg W w) (hs:w.heap.size≤w'.heap.size) (hh:∀b,¬W b→w'.heap[b]? = w.heap[b]?):Root Pg W w':=by
 obtain ⟨w0,h1,h2,h3,h4⟩:=h.held
 exact ⟨fun b hb=>h.fresh b (by omega),w0,h1,by omega,h3,fun b hb=>(hh b fun q=>by have:=h3 b q;omega).trans (h4 b hb)⟩
theorem Root.to {Pg:Prg} {W:Nat→Prop} {w w':World} (h:Root Pg W w) (hs:w.heap.size≤w'.heap.size) (hh:∀b,b<w.heap.size→w'.heap[b]? = w.heap[b]?):Root Pg W w':=by
 obtain ⟨w0,h1,h2,h3,h4⟩:=h.held
 exact ⟨fun b hb=>h.fresh b (by omega),w0,h1,by omega,h3,fun b hb=>(hh b (by omega)).trans (h4 b hb)⟩
theorem Root.over {Pg:Prg} {W:Nat→Prop} {w:World} (h:Root Pg W w):Root Pg (fun k=>w.heap.size≤k) w:=by
 obtain ⟨w0,h1,h2,h3,h4⟩:=h.held
 exact ⟨fun b hb=>hb,w0,h1,h2,fun b hb=>by omega,h4⟩
theorem Root.is {Pg:Prg} {W:Nat→Prop} {w:World} (h:Root Pg W w):Held Pg w:=by
 obtain ⟨w0,h1,h2,_,h4⟩:=h.held
 exact ⟨w0,h1,h2,h4⟩
structure Inv (Pg:Prg) (W:Nat→Prop) (lim:Nat) (σ:Sig) (H:zH) (w:World):Prop extends Root Pg W w where
 blk:∀(i:Nat) b,H[i]? = some b→alive b=true→∃L,σ i=some L∧BlkRel Pg σ w L b
 inj:∀(i j:Nat) bi bj Li Lj,H[i]? = some bi→H[j]? = some bj→i≠j→owned bi=true→alive bj=true→σ i=some Li→σ j=some Lj→Li.blk≠Lj.blk
 wr:∀(i:Nat) b L,H[i]? = some b→owned b=true→lim≤i→σ i=some L→W L.blk
 dom:∀i,H.length≤i→σ i=none
structure Stp (W:Nat→Prop) (w w':World):Prop where
 os:w'.os=w.os
 tape:w'.tape=w.tape
 output:w'.output=w.output∧w.drawn≤w'.drawn
 size:w.heap.size≤w'.heap.size
 block:∀b,¬W b→w'.heap[b]? = w.heap[b]?
theorem Stp.refl (W:Nat→Prop) (w:World):Stp W w w:=⟨rfl,rfl,⟨rfl,Nat.le_refl _⟩,Nat.le_refl _,fun _ _=>rfl⟩
theorem Stp.trans {W:Nat→Prop} {a b c:World} (h:Stp W a b) (k:Stp W b c):Stp W a c:=
 ⟨k.os.trans h.os,k.tape.trans h.tape,⟨k.output.1.trans h.output.1,Nat.le_trans h.output.2 k.output.2⟩,Nat.le_trans h.size k.size,fun i hi=>(k.block i hi).trans (h.block i hi)⟩
theorem zAo {b:Blk} (h:owned b=true):alive b=true:=by cases b<;>simp_all [owned,alive]
theorem BlkRel.lt {Pg:Prg} {σ:Sig} {w:World} {L:Loc} {b:Blk} (h:BlkRel Pg σ w L b) (ha:alive b=true):L.blk<w.heap.size:=by
 have key:∀{o:Obj},w.heap[L.blk]? = some o→L.blk<w.heap.size:=fun h=>(Array.getElem?_eq_some_iff.1 h).1
 cases b with
 | dead=>simp [alive] at ha
 | cells ro c=>obtain ⟨_,_,_,hh,_⟩:=h;exact key hh
 | map es=>obtain ⟨_,_,hh,_⟩:=h;exact key hh
 | iter m n seen=>obtain ⟨_,_,_,hh,_⟩:=h;exact key hh
 | loop x=>obtain ⟨_,hh,_⟩:=h;exact key hh
 | dfr=>exact key h
theorem BlkRel.mono {Pg:Prg} {σ τ:Sig} (hle:Sig.le σ τ) {w w':World} {L:Loc} {b:Blk} (h:BlkRel Pg σ w L b) (hw:alive b=true→w'.heap[L.blk]? = w.heap[L.blk]?):BlkRel Pg τ w' L b:=by
 cases b with
 | dead=>trivial
 | cells ro c=>
   obtain ⟨cs,el,fz,hh,hc,ho⟩:=h
   refine ⟨cs,el,fz,by rw [hw rfl];exact hh,fun j v hv=>?_,ho⟩
   obtain ⟨v',h1,h2,h3⟩:=hc j v hv
   exact ⟨v',h1,h2.mono hle,h3⟩
 | map es=>
   obtain ⟨en,cl,hh,hs,hk,hst⟩:=h
   exact ⟨en,cl,by rw [hw rfl];exact hh,hs,fun j e e' h1 h2=>⟨(hk j e e' h1 h2).1,(hk j e e' h1 h2).2.mono hle⟩,hst⟩
 | iter m n seen=>
   obtain ⟨h0,m',h1,h2,h3⟩:=h
   exact ⟨h0,m',h1.mono hle,by rw [hw rfl];exact h2,h3⟩
 | loop x=>
   obtain ⟨lp,hh,hk⟩:=h
   exact ⟨lp,by rw [hw rfl];exact hh,hk.mono hle⟩
 | dfr=>show w'.heap[L.blk]? = _;rw [hw rfl];exact h
section
variable {Pg:Prg} {W:Nat→Prop} {lim:Nat} {σ:Sig} {H:zH} {w:World}
theorem hget_some {i:Nat} {b:Blk} (h:zG H i=b) (hb:alive b=true):H[i]? = some b:=by
 unfold zG at h
 rw [List.getD_eq_getElem?_getD] at h
 cases hi:H[i]? with
 | none=>rw [hi] at h;simp at h;subst h;simp [alive] at hb
 | some x=>rw [hi] at h;simp at h;rw [h]
theorem Inv.lt (h:Inv Pg W lim σ H w) {i:Nat} {L:Loc} (hi:σ i=some L):i<H.length:=by
 rcases Nat.lt_or_ge i H.length with h1 | h1
 ·exact h1
 ·rw [h.dom i h1] at hi;cases hi
theorem Inv.cells (h:Inv Pg W lim σ H w) {i:Nat} {ro:Bool} {c:List Value} (hb:zG H i=.cells ro c) {L:Loc} (hL:σ i=some L) :
  ∃cs el fz,w.heap[L.blk]? = some (.cells cs el fz)∧(∀(j:Nat) v,c[j]? = some v→∃v',cs[L.base+j]? = some v'∧zVr σ v v'∧v'.oneCell'=true)∧
   (ro=false→L.base+L.room≤cs.size∧c.length≤L.room∧NoFz fz cs.size):=by
 obtain ⟨L',h1,h2⟩:=h.blk i _ (hget_some hb rfl) rfl
 rw [hL] at h1;cases h1
 exact h2
theorem cell_of_heap {b o:Nat} {cs:Array Value} {el:TypeId} {fz:Nat×Nat} {v:Value} (h:w.heap[b]? = some (.cells cs el fz)) (hv:cs[o]? = some v):w.cell? ⟨b,o,none⟩=some v:=by
 simp [World.cell?,h,hv]
theorem Inv.loadCell (h:Inv Pg W lim σ H w) {p:Addr} {v:Value} {L:Loc} (hL:σ p.block=some L) (hv:loadCell H p=some v) :
  ∃v',w.cell? ⟨L.blk,L.base+p.off,none⟩=some v'∧zVr σ v v'∧v'.oneCell'=true:=by
 unfold AM.loadCell at hv
 split at hv
 ·rename_i ro c hb
  obtain ⟨cs,el,fz,hh,hc,_⟩:=h.cells hb hL
  obtain ⟨v',h1,h2⟩:=hc _ _ hv
  exact ⟨v',cell_of_heap hh h1,h2⟩
 ·cases hv
theorem Inv.loadCells (h:Inv Pg W lim σ H w) {p:Addr} {n:Nat} {l:List Value} {L:Loc} (hL:σ p.block=some L) (hv:loadCells H p n=some l) :
  ∃l',zLr σ l l'∧l'.length=n∧(∀y∈l',y.oneCell'=true)∧∀(j:Nat) v,l'[j]? = some v→w.cell? ⟨L.blk,L.base+p.off+j,none⟩=some v:=by
 unfold AM.loadCells at hv
 split at hv
 case h_2=>cases hv
 rename_i ro c hb
 split at hv
 case isFalse=>cases hv
 rename_i hlen
 cases hv
 obtain ⟨cs,el,fz,hh,hc,_⟩:=h.cells hb hL
 refine ⟨(List.range n).map fun j=>cs.getD (L.base+p.off+j) undef, ?_,by simp, ?_, ?_⟩
 ·refine ⟨by simp;omega,fun i x y hx hy=>?_⟩
  simp only [List.getElem?_take,List.getElem?_drop] at hx
  split at hx
  case isFalse=>cases hx
  rename_i hi
  obtain ⟨v',h1,h2,_⟩:=hc _ _ hx
  rw [List.getElem?_map,List.getElem?_range hi] at hy
  simp only [Option.map_some,Option.some.injEq] at hy
  subst hy
  rw [show L.base+p.off+i=L.base+(p.off+i) by omega,Array.getD_eq_getD_getElem?,h1]
  exact h2
 ·intro y hy
  obtain ⟨j,hj,rfl⟩:=List.mem_map.1 hy
  have hj:=List.mem_range.1 hj
  obtain ⟨v',h1,_,h3⟩:=hc (p.off+j) _ (List.getElem?_eq_getElem (by omega))
  rw [show L.base+p.off+j=L.base+(p.off+j) by omega,Array.getD_eq_getD_getElem?,h1]
  exact h3
 ·intro j v hv
  rw [List.getElem?_map] at hv
  simp only [Option.map_eq_some_iff] at hv
  obtain ⟨j',hj',rfl⟩:=hv
  have hjn:j<n:=by
   have:=(List.getElem?_eq_some_iff.1 hj').1
   simpa using this
  rw [List.getElem?_range hjn] at hj'
  cases hj'
  obtain ⟨v',h1,_⟩:=hc (p.off+j) _ (List.getElem?_eq_getElem (by omega))
  refine cell_of_heap hh ?_
  rw [show L.base+p.off+j=L.base+(p.off+j) by omega,Array.getD_eq_getD_getElem?,h1]
  rfl
def Sig.put (σ:Sig) (i:Nat) (L:Loc):Sig:=fun j=>if j=i then some L else σ j
theorem Sig.le_put {σ:Sig} {i:Nat} {L:Loc} (h:σ i=none):Sig.le σ (σ.put i L):=fun j M hj=>by
 unfold Sig.put
 split
 ·rename_i e;subst e;rw [h] at hj;cases hj
 ·exact hj
theorem Sig.put_same {σ:Sig} {i:Nat} {L:Loc}:σ.put i L i=some L:=by simp [Sig.put]
theorem place_get {dest:Option Nat} {b:Blk} {H H':zH} {i:Nat} (h:place dest b H=(i,H')) (hd:∀d,dest=some d→d<H.length) :
  H'[i]? = some b∧(∀j,j≠i→H'[j]? = H[j]?)∧H.length≤H'.length∧(∀j,H'.length≤j→H.length≤j∧j≠i)∧(dest=none→i=H.length)∧(∀d,dest=some d→i=d∧H'.length=H.length)∧i<H'.length:=by
 unfold place at h
 cases dest with
 | none=>
   simp only [Prod.mk.injEq] at h
   obtain ⟨rfl,rfl⟩:=h
   refine ⟨by simp,fun j hj=>?_,by simp,fun j hj=>?_,fun _=>rfl,fun d hd=>absurd hd (by simp),by simp⟩
   ·rcases Nat.lt_or_ge j H.length with h1 | h1
    ·rw [List.getElem?_append_left h1]
    ·rw [List.getElem?_append_right h1,List.getElem?_eq_none h1,List.getElem?_eq_none]
     simp;omega
   ·simp at hj;omega
 | some d=>
   simp only [Prod.mk.injEq] at h
   obtain ⟨rfl,rfl⟩:=h
   have hd':=hd d rfl
   refine ⟨by simp [hd'],fun j hj=>by rw [List.getElem?_set,if_neg (fun e=>hj e.symm)],by simp,fun j hj=>?_,fun h=>absurd h (by simp),(fun x hx=>by cases hx;exact ⟨rfl,by simp⟩),by simpa using hd'⟩
   simp at hj;omega
theorem Inv.adopt (h:Inv Pg W lim σ H w) {H':zH} {i:Nat} {b:Blk} {L:Loc} (hi:H'[i]? = some b) (hj:∀j,j≠i→H'[j]? = H[j]?) (hlen:∀j,H'.length≤j→H.length≤j∧j≠i)
  (hσ:σ i=none) (hb:BlkRel Pg (σ.put i L) w L b) (ho:owned b=true) (hW:W L.blk)
  (hnew:∀(j:Nat) bj Lj,j≠i→H[j]? = some bj→alive bj=true→σ j=some Lj→Lj.blk≠L.blk):Inv Pg W lim (σ.put i L) H' w:=by
 refine ⟨h.toRoot,fun j bj hbj hal=>?_,fun j k bj bk Lj Lk hbj hbk hne hoj hak hj1 hk1=>?_,fun j bj Lj hbj hoj hlj hj1=>?_,fun j hjl=>?_⟩
 ·by_cases e:j=i
  ·subst e
   rw [hi] at hbj;cases hbj
   exact ⟨L,Sig.put_same,hb⟩
  ·rw [hj j e] at hbj
   obtain ⟨Lj,h1,h2⟩:=h.blk j bj hbj hal
   exact ⟨Lj,Sig.le_put hσ _ _ h1,h2.mono (Sig.le_put hσ) fun _=>rfl⟩
 ·by_cases e:j=i
  ·subst e
   rw [hi] at hbj;cases hbj
   rw [Sig.put_same] at hj1;cases hj1
   rw [hj k (Ne.symm hne)] at hbk
   have hk2:σ k=some Lk:=by simpa [Sig.put,Ne.symm hne] using hk1
   exact fun e=>hnew k bk Lk (Ne.symm hne) hbk hak hk2 e.symm
  ·have hj2:σ j=some Lj:=by simpa [Sig.put,e] using hj1
   rw [hj j e] at hbj
   by_cases e':k=i
   ·subst e'
    rw [Sig.put_same] at hk1;cases hk1
    exact hnew j bj Lj e hbj (zAo hoj) hj2
   ·have hk2:σ k=some Lk:=by simpa [Sig.put,e'] using hk1
    rw [hj k e'] at hbk
    exact h.inj j k bj bk Lj Lk hbj hbk hne hoj hak hj2 hk2
 ·by_cases e:j=i
  ·subst e
   rw [Sig.put_same] at hj1;cases hj1
   exact hW
  ·have hj2:σ j=some Lj:=by simpa [Sig.put,e] using hj1
   rw [hj j e] at hbj
   exact h.wr j bj Lj hbj hoj hlj hj2
 ·obtain ⟨h1,h2⟩:=hlen j hjl
  simp [Sig.put,h2,h.dom j h1]
theorem Inv.world (h:Inv Pg W lim σ H w) {w':World} (hs:w.heap.size≤w'.heap.size) (hh:∀b,b<w.heap.size→w'.heap[b]? = w.heap[b]?):Inv Pg W lim σ H w':=by
 refine ⟨h.toRoot.to hs hh,fun i b hb ha=>?_,h.inj,h.wr,h.dom⟩
 obtain ⟨L,h1,h2⟩:=h.blk i b hb ha
 exact ⟨L,h1,h2.mono (Sig.le_refl σ) fun _=>hh _ (h2.lt ha)⟩
theorem heap_push (w:World) (o:Obj):(w.alloc o).heap=w.heap.push o:=rfl
theorem Stp.alloc (hf:∀b,w.heap.size≤b→W b) (o:Obj):Stp W w (w.alloc o):=by
 refine ⟨rfl,rfl,⟨rfl,Nat.le_refl _⟩,by simp,fun b hb=>?_⟩
 rw [heap_push,Array.getElem?_push]
 split
 ·rename_i e;exact absurd (hf b (by omega)) hb
 ·rfl
theorem Stp.drew:Stp W w w.drew:=⟨rfl,rfl,⟨rfl,Nat.le_succ _⟩,Nat.le_refl _,fun _ _=>rfl⟩
theorem Inv.drew (h:Inv Pg W lim σ H w):Inv Pg W lim σ H w.drew:=h.world (Nat.le_refl _) fun _ _=>rfl
theorem Inv.alloc (h:Inv Pg W lim σ H w) {dest:Option Nat} {c:List Value} {H':zH} {i:Nat} (hp:place dest (.cells false c) H=(i,H')) (hd:∀d,dest=some d→d<H.length∧σ d=none)
  {cs:Array Value} {el:TypeId} (hc:∀(j:Nat) v,c[j]? = some v→∃v',cs[j]? = some v'∧zVr σ v v'∧v'.oneCell'=true) (hn:c.length≤cs.size) :
  Inv Pg W lim (σ.put i ⟨w.heap.size,0,cs.size⟩) H' (w.alloc (.cells cs el))∧σ i=none:=by
 obtain ⟨g1,g2,g3,g4,g5,g6,g7⟩:=place_get hp fun d e=>(hd d e).1
 have hσ:σ i=none:=by
  cases dest with
  | none=>rw [g5 rfl];exact h.dom _ (Nat.le_refl _)
  | some d=>rw [(g6 d rfl).1];exact (hd d rfl).2
 refine ⟨?_,hσ⟩
 have hw:Inv Pg W lim σ H (w.alloc (.cells cs el)):=h.world (by simp) fun b hb=>by rw [heap_push,Array.getElem?_push];rw [if_neg (by omega)]
 refine hw.adopt g1 g2 g4 hσ ?_ rfl (h.fresh _ (Nat.le_refl _)) fun j bj Lj hji hbj ha hLj e=>?_
 ·refine ⟨cs,el,(0,0),by simp [heap_push],fun j v hv=>?_,fun _=>⟨by simp,by simpa using hn,.inl rfl⟩⟩
  obtain ⟨v',h1,h2,h3⟩:=hc j v hv
  exact ⟨v',by simpa using h1,h2.mono (Sig.le_put hσ),h3⟩
 ·obtain ⟨L',h1,h2⟩:=h.blk j bj hbj ha
  rw [hLj] at h1;cases h1
  have:=h2.lt ha
  simp at e
  omega
theorem Inv.allocMap (h:Inv Pg W lim σ H w) {dest:Option Nat} {H':zH} {i:Nat} (hp:place dest (.map []) H=(i,H')) (hd:∀d,dest=some d→d<H.length∧σ d=none) :
  Inv Pg W lim (σ.put i ⟨w.heap.size,0,0⟩) H' (w.alloc (.map #[] 0))∧σ i=none:=by
 obtain ⟨g1,g2,g3,g4,g5,g6,g7⟩:=place_get hp fun d e=>(hd d e).1
 have hσ:σ i=none:=by
  cases dest with
  | none=>rw [g5 rfl];exact h.dom _ (Nat.le_refl _)
  | some d=>rw [(g6 d rfl).1];exact (hd d rfl).2
 refine ⟨?_,hσ⟩
 have hw:Inv Pg W lim σ H (w.alloc (.map #[] 0)):=h.world (by simp) fun b hb=>by rw [heap_push,Array.getElem?_push];rw [if_neg (by omega)]
 refine hw.adopt g1 g2 g4 hσ ?_ rfl (h.fresh _ (Nat.le_refl _)) fun j bj Lj hji hbj ha hLj e=>?_
 ·exact ⟨#[],0,by simp [heap_push],by simp,(fun j e e' h1 h2=>by simp at h1),rfl,fun j e h1=>by simp at h1⟩
 ·obtain ⟨L',h1,h2⟩:=h.blk j bj hbj ha
  rw [hLj] at h1;cases h1
  have:=h2.lt ha
  simp at e
  omega
end
theorem setAll_length:∀(vs c:List Value) (o:Nat),(setAll c o vs).length=c.length
 | [],_,_=>rfl
 | v::vs,c,o=>by simp [setAll,setAll_length vs]
theorem setAll_out:∀(vs c:List Value) (o j:Nat),j<o∨o+vs.length≤j→(setAll c o vs)[j]? = c[j]?
 | [],_,_,_,_=>rfl
 | v::vs,c,o,j,h=>by
   simp only [List.length_cons] at h
   rw [setAll,setAll_out vs _ _ _ (by omega),List.getElem?_set,if_neg (by omega)]
theorem setAll_in:∀(vs c:List Value) (o j:Nat) v,vs[j]? = some v→o+vs.length≤c.length→(setAll c o vs)[o+j]? = some v
 | [],_,_,_,_,h,_=>by simp at h
 | u::vs,c,o,j,v,h,hl=>by
   simp only [List.length_cons] at hl
   cases j with
   | zero=>
     simp at h;subst h
     have:o<c.length:=by omega
     rw [setAll,setAll_out vs _ _ _ (by omega)]
     simp [this]
   | succ j=>
     rw [setAll,show o+(j+1)=o+1+j by omega]
     exact setAll_in vs _ (o+1) j v (by simpa using h) (by simp;omega)
theorem heap_setCell {w:World} {b o:Nat} {v:Value} {cs:Array Value} {el:TypeId} {fz:Nat×Nat} (h:w.heap[b]? = some (.cells cs el fz)) :
  (w.setCell ⟨b,o,none⟩ v).heap[b]? = some (.cells (cs.setIfInBounds o v) el fz):=by
 obtain ⟨f1,f2⟩:=fz
 simp [World.setCell,Array.getElem?_modify,h]
theorem heap_setCell_ne {w:World} {b o k:Nat} {v:Value} (h:k≠b):(w.setCell ⟨b,o,none⟩ v).heap[k]? = w.heap[k]?:=by
 simp [World.setCell,Array.getElem?_modify,Ne.symm h]
structure Wrote (w w':World) (b o:Nat) (vs:List Value) (cs:Array Value) (el:TypeId) (fz:Nat×Nat) (cs':Array Value):Prop where
 heap:w'.heap[b]? = some (.cells cs' el fz)
 size:cs'.size=cs.size
 out:∀j,j<o∨o+vs.length≤j→cs'[j]? = cs[j]?
 inn:∀(j:Nat) v,vs[j]? = some v→cs'[o+j]? = some v
 other:∀k,k≠b→w'.heap[k]? = w.heap[k]?
 len:w'.heap.size=w.heap.size
 os:w'.os=w.os
 tape:w'.tape=w.tape
 output:w'.output=w.output∧w.drawn≤w'.drawn
theorem setCells_wrote (b:Nat) (el:TypeId) (fz:Nat×Nat):∀(vs:List Value) (o:Nat) (w:World) (cs:Array Value),w.heap[b]? = some (.cells cs el fz)→o+vs.length≤cs.size→
  ∃cs',Wrote w (w.setCells b o vs) b o vs cs el fz cs'
 | [],o,w,cs,h,_=>⟨cs,h,rfl,fun _ _=>rfl,fun j v hv=>by simp at hv,fun _ _=>rfl,rfl,rfl,rfl,⟨rfl,Nat.le_refl _⟩⟩
 | v::vs,o,w,cs,h,hl=>by
   simp only [List.length_cons] at hl
   obtain ⟨cs',k⟩:=setCells_wrote b el fz vs (o+1) (w.setCell ⟨b,o,none⟩ v) _ (heap_setCell h) (by simp;omega)
   refine ⟨cs',k.heap,by rw [k.size];simp,fun j hj=>?_,fun j u hu=>?_,fun m hm=>by rw [World.setCells,k.other m hm,heap_setCell_ne hm], ?_, ?_, ?_, ?_⟩
   ·simp only [List.length_cons] at hj
    rw [k.out j (by omega),Array.getElem?_setIfInBounds_ne (by omega)]
   ·cases j with
    | zero=>
      simp at hu;subst hu
      rw [Nat.add_zero,k.out o (by omega),Array.getElem?_setIfInBounds_self]
      simp;omega
    | succ j=>
      rw [show o+(j+1)=o+1+j by omega]
      exact k.inn j u (by simpa using hu)
   ·rw [World.setCells,k.len];simp
   ·rw [World.setCells,k.os];rfl
   ·rw [World.setCells,k.tape];rfl
   ·rw [World.setCells];exact ⟨k.output.1.trans rfl,k.output.2⟩
section
variable {Pg:Prg} {W:Nat→Prop} {lim:Nat} {σ:Sig} {H:zH} {w:World}
theorem Inv.rewrite (h:Inv Pg W lim σ H w) {i:Nat} {b b':Blk} {L:Loc} (hi:H[i]? = some b) (ho:owned b=true) (hli:lim≤i) (hL:σ i=some L) {w':World} (hs:w'.heap.size=w.heap.size)
  (hh:∀k,k≠L.blk→w'.heap[k]? = w.heap[k]?) (hb':BlkRel Pg σ w' L b') (hob:alive b'=true→owned b'=true):Inv Pg W lim σ (H.set i b') w':=by
 have hil:i<H.length:=(List.getElem?_eq_some_iff.1 hi).1
 have gs:(H.set i b')[i]? = some b':=by rw [List.getElem?_set,if_pos rfl,if_pos hil]
 have gn:∀j,j≠i→(H.set i b')[j]? = H[j]?:=fun j hj=>by rw [List.getElem?_set,if_neg (Ne.symm hj)]
 refine ⟨h.toRoot.step (by omega) fun k hk=>hh k fun e=>hk (e▸h.wr i b L hi ho hli hL),fun j bj hbj ha=>?_,fun j k bj bk Lj Lk hbj hbk hne hoj hak hj1 hk1=>?_,fun j bj Lj hbj hoj hlj hj1=>?_,fun j hj=>h.dom j (by simpa using hj)⟩
 ·by_cases e:j=i
  ·subst e
   rw [gs] at hbj;cases hbj
   exact ⟨L,hL,hb'⟩
  ·rw [gn j e] at hbj
   obtain ⟨Lj,h1,h2⟩:=h.blk j bj hbj ha
   exact ⟨Lj,h1,h2.mono (Sig.le_refl σ) fun ha=>hh _ (Ne.symm (h.inj i j b bj L Lj hi hbj (Ne.symm e) ho ha hL h1))⟩
 ·by_cases e:j=i
  ·subst e
   rw [gn k (Ne.symm hne)] at hbk
   exact h.inj j k b bk Lj Lk hi hbk hne ho hak hj1 hk1
  ·rw [gn j e] at hbj
   by_cases e':k=i
   ·subst e'
    exact h.inj j k bj b Lj Lk hbj hi hne hoj (zAo ho) hj1 hk1
   ·rw [gn k e'] at hbk
    exact h.inj j k bj bk Lj Lk hbj hbk hne hoj hak hj1 hk1
 ·by_cases e:j=i
  ·subst e;exact h.wr j b Lj hi ho hlj hj1
  ·rw [gn j e] at hbj;exact h.wr j bj Lj hbj hoj hlj hj1
theorem Stp.one {w':World} {blk:Nat} (hW:W blk) (hh:∀k,k≠blk→w'.heap[k]? = w.heap[k]?) (hs:w'.heap.size=w.heap.size) (h1:w'.os=w.os) (h2:w'.tape=w.tape) (h3:w'.output=w.output∧w.drawn≤w'.drawn):Stp W w w':=
 ⟨h1,h2,h3,Nat.le_of_eq hs.symm,fun b hb=>hh b fun e=>hb (e▸hW)⟩
theorem Inv.store {P:Program} (h:Inv Pg W lim σ H w) {p:Addr} {vs vs':List Value} {H':zH} {L:Loc} (hL:σ p.block=some L) (hv:storeAt lim H p vs=some H') (hr:zLr σ vs vs') (h1:∀v∈vs',v.oneCell'=true) :
  ∃w',(storeCells ⟨L.blk,L.base+p.off,none⟩ vs').run P w=.ok () w'∧Inv Pg W lim σ H' w'∧Stp W w w'∧H'.length=H.length:=by
 unfold storeAt at hv
 split at hv
 case h_2=>cases hv
 rename_i c hb
 split at hv
 case isFalse=>cases hv
 rename_i hcond
 obtain ⟨hlim,hlen⟩:=hcond
 cases hv
 have hbs:=hget_some hb rfl
 obtain ⟨cs,el,fz,hh,hc,ho⟩:=h.cells hb hL
 obtain ⟨ho1,ho2,ho3⟩:=ho rfl
 have hl':=hr.1
 obtain ⟨cs',k⟩:=setCells_wrote L.blk el fz vs' (L.base+p.off) w cs hh (by omega)
 refine ⟨_,run_storeCells_cells (P:=P) L.blk (L.base+p.off) vs' 0 w (fun j hj=>?_) (fun j hj=>?_) h1, ?_, ?_,by simp⟩
 ·rw [cell_of_heap hh (Array.getElem?_eq_getElem (by omega))];rfl
 ·simp only [World.frozen?,hh]
  have:=ho3.ok (L.base+p.off+0+j) (by omega)
  obtain ⟨f1,f2⟩:=fz
  simp at this⊢
  exact this
 ·refine h.rewrite hbs rfl hlim hL k.len k.other ⟨cs',el,fz,k.heap,fun j v hjv=>?_,fun _=>⟨by rw [k.size];exact ho1,by rw [setAll_length];exact ho2,by rw [k.size];exact ho3⟩⟩ (fun _=>rfl)
  by_cases hj:j<p.off∨p.off+vs.length≤j
  ·rw [setAll_out vs c p.off j hj] at hjv
   obtain ⟨v',g1,g2,g3⟩:=hc j v hjv
   exact ⟨v',by rw [k.out _ (by omega)];exact g1,g2,g3⟩
  ·have hj2:j=p.off+(j-p.off):=by omega
   have hv1:vs[j-p.off]? = some (vs[j-p.off]'(by omega)):=List.getElem?_eq_getElem _
   rw [hj2,setAll_in vs c p.off (j-p.off) _ hv1 (by omega)] at hjv
   cases hjv
   obtain ⟨y,hy,hxy⟩:=hr.get hv1
   exact ⟨y,by rw [show L.base+j=L.base+p.off+(j-p.off) by omega];exact k.inn _ _ hy,hxy,h1 y (List.mem_of_getElem? hy)⟩
 ·exact Stp.one (h.wr _ _ _ hbs rfl hlim hL) k.other k.len k.os k.tape k.output
theorem Inv.killAny (h:Inv Pg W lim σ H w) (i:Nat):Inv Pg W lim σ (H.set i .dead) w:=by
 have gn:∀(j:Nat) b,(H.set i .dead)[j]? = some b→alive b=true→H[j]? = some b∧j≠i:=fun j b hb ha=>by
  rw [List.getElem?_set] at hb
  split at hb
  ·split at hb
   ·cases hb;simp [alive] at ha
   ·cases hb
  ·rename_i e;exact ⟨hb,fun e'=>e e'.symm⟩
 refine ⟨h.toRoot,fun j b hb ha=>h.blk j b (gn j b hb ha).1 ha,fun j k bj bk Lj Lk hbj hbk hne hoj hak hj1 hk1=>?_,fun j b L hb ho hl hL=>h.wr j b L (gn j b hb (zAo ho)).1 ho hl hL,fun j hj=>h.dom j (by simpa using hj)⟩
 exact h.inj j k bj bk Lj Lk (gn j bj hbj (zAo hoj)).1 (gn k bk hbk hak).1 hne hoj hak hj1 hk1
theorem Inv.appendRoom {P:Program} (h:Inv Pg W lim σ H w) {p:Addr} {old new new':List Value} {c:List Value} {L:Loc} (hb:zG H p.block=.cells false c) (hL:σ p.block=some L) (hlim:lim≤p.block)
  (hold:AM.loadCells H p old.length=some old) (hr:zLr σ new new') (h1:∀v∈new',v.oneCell'=true) (hroom:p.off+old.length+new.length≤L.room)
  {dest:Option Nat} {H':zH} {i:Nat} (hp:place dest (.cells false (old++new)) (H.set p.block .dead)=(i,H')) (hd:∀d,dest=some d→d<H.length∧σ d=none) :
  ∃w',(storeCells ⟨L.blk,L.base+p.off+old.length,none⟩ new').run P w=.ok () w'∧Inv Pg W lim (σ.put i ⟨L.blk,L.base+p.off,L.room-p.off⟩) H' w'∧Stp W w w'∧σ i=none:=by
 have hbs:=hget_some hb rfl
 obtain ⟨cs,el,fz,hh,hc,ho⟩:=h.cells hb hL
 obtain ⟨ho1,ho2,ho3⟩:=ho rfl
 have hl':=hr.1
 obtain ⟨cs',k⟩:=setCells_wrote L.blk el fz new' (L.base+p.off+old.length) w cs hh (by omega)
 have hk:Inv Pg W lim σ (H.set p.block .dead) (w.setCells L.blk (L.base+p.off+old.length) new'):=h.rewrite hbs rfl hlim hL k.len k.other trivial (fun h=>by simp [alive] at h)
 obtain ⟨g1,g2,g3,g4,g5,g6,g7⟩:=place_get hp fun d e=>by simpa using (hd d e).1
 have hσ:σ i=none:=by
  cases dest with
  | none=>rw [g5 rfl];exact hk.dom _ (Nat.le_refl _)
  | some d=>rw [(g6 d rfl).1];exact (hd d rfl).2
 have hcold:∀(j:Nat) v,old[j]? = some v→c[p.off+j]? = some v:=fun j v hv=>by
  unfold AM.loadCells at hold
  rw [hb] at hold
  simp only at hold
  split at hold
  ·have hj:=(List.getElem?_eq_some_iff.1 hv).1
   have e:(c.drop p.off).take old.length=old:=by simpa using hold
   rw [←e,List.getElem?_take,if_pos hj,List.getElem?_drop] at hv
   exact hv
  ·cases hold
 refine ⟨_,run_storeCells_cells (P:=P) L.blk (L.base+p.off+old.length) new' 0 w (fun j hj=>?_) (fun j hj=>?_) h1, ?_, ?_,hσ⟩
 ·rw [cell_of_heap hh (Array.getElem?_eq_getElem (by omega))];rfl
 ·simp only [World.frozen?,hh]
  have:=ho3.ok (L.base+p.off+old.length+0+j) (by omega)
  obtain ⟨f1,f2⟩:=fz
  simp at this⊢
  exact this
 ·refine hk.adopt g1 g2 g4 hσ ⟨cs',el,fz,k.heap,fun j v hv=>?_,fun _=>⟨by rw [k.size];simp;omega,by simp;omega,by rw [k.size];exact ho3⟩⟩ rfl (show W L.blk from h.wr _ _ _ hbs rfl hlim hL) fun j bj Lj hji hbj ha hLj=>?_
  ·show ∃v',cs'[L.base+p.off+j]? = some v'∧_
   by_cases hj:j<old.length
   ·rw [List.getElem?_append_left hj] at hv
    obtain ⟨v',e1,e2,e3⟩:=hc _ _ (hcold j v hv)
    exact ⟨v',by rw [k.out _ (by omega),show L.base+p.off+j=L.base+(p.off+j) by omega];exact e1,e2.mono (Sig.le_put hσ),e3⟩
   ·rw [List.getElem?_append_right (by omega)] at hv
    obtain ⟨y,hy,hxy⟩:=hr.get hv
    exact ⟨y,by rw [show L.base+p.off+j=L.base+p.off+old.length+(j-old.length) by omega];exact k.inn _ _ hy,hxy.mono (Sig.le_put hσ),h1 y (List.mem_of_getElem? hy)⟩
  ·by_cases e:j=p.block
   ·subst e
    rw [List.getElem?_set,if_pos rfl] at hbj
    split at hbj
    ·cases hbj;simp [alive] at ha
    ·cases hbj
   ·rw [List.getElem?_set,if_neg (Ne.symm e)] at hbj
    exact Ne.symm (h.inj p.block j _ bj L Lj hbs hbj (Ne.symm e) rfl ha hL hLj)
 ·exact Stp.one (h.wr _ _ _ hbs rfl hlim hL) k.other k.len k.os k.tape k.output
end
end Go.AM

namespace Go.AM
open Go.MapKept
def nextVal:Next→Option Value
 | .value v=>some v
 | .skip=>some undef
 | _=>none
def zOs (Pg:Prg) (W:Nat→Prop) (lim:Nat) (σ:Sig) (dest:Option Nat) (H:zH) (w:World) (run:Result Next) (v:Value) (H':zH):Prop:=
 ∃nx w' σ' v',run=.ok nx w'∧nextVal nx=some v'∧zVr σ' v v'∧Inv Pg W lim σ' H' w'∧Stp W w w'∧Sig.le σ σ'∧
  (∀j,σ' j≠σ j→dest=some j∨(dest=none∧H.length≤j))∧H.length≤H'.length∧(dest≠none→H'.length=H.length)
section
variable {P:Program} {Pg:Prg} {W:Nat→Prop} {lim:Nat} {σ:Sig} {H:zH} {w:World} {dest:Option Nat}
theorem zOs.plain (h:Inv Pg W lim σ H w) {run:Result Next} {v v':Value} (hr:run=.ok (.value v') w) (hv:zVr σ v v'):zOs Pg W lim σ dest H w run v H:=
 ⟨.value v',w,σ,v',hr,rfl,hv,h,Stp.refl W w,Sig.le_refl σ,fun j hj=>absurd rfl hj,Nat.le_refl _,fun _=>rfl⟩
theorem zOs.made (h:Inv Pg W lim σ H w) (hd:∀d,dest=some d→d<H.length∧σ d=none) {c:List Value} {H':zH} {i:Nat} (hp:place dest (.cells false c) H=(i,H'))
  {cs:Array Value} {el:TypeId} (hc:∀(j:Nat) v,c[j]? = some v→∃v',cs[j]? = some v'∧zVr σ v v'∧v'.oneCell'=true) (hn:c.length≤cs.size)
  {w0:World} (hw0:Inv Pg W lim σ H w0) (hs0:Stp W w w0) {run:Result Next} {v v':Value} (hr:run=.ok (.value v') (w0.alloc (.cells cs el)))
  (hv:zVr (σ.put i ⟨w0.heap.size,0,cs.size⟩) v v'):zOs Pg W lim σ dest H w run v H':=by
 obtain ⟨hi,hσ⟩:=hw0.alloc (el:=el) hp hd hc hn
 obtain ⟨g1,g2,g3,g4,g5,g6,g7⟩:=place_get hp fun d e=>(hd d e).1
 refine ⟨_,_,_,v',hr,rfl,hv,hi,hs0.trans (Stp.alloc hw0.fresh _),Sig.le_put hσ,fun j hj=>?_,g3,fun hdn=>?_⟩
 ·by_cases e:j=i
  ·subst e
   cases dest with
   | none=>exact .inr ⟨rfl,by rw [g5 rfl];exact Nat.le_refl _⟩
   | some d=>exact .inl (by rw [(g6 d rfl).1])
  ·simp [Sig.put,e] at hj
 ·cases dest with
  | none=>exact absurd rfl hdn
  | some d=>exact (g6 d rfl).2
theorem okOps {o:Oper} (h:o.op.operands.toList.all zOo=true) {x:Operand} (hx:x∈o.op.operands):zOo x=true:=
 List.all_eq_true.1 h x (Array.mem_toList_iff.2 hx)
theorem fill_eq (place:Nat→Option (Nat×Nat)) (off:Nat):∀(vs:List Value) (k:Nat) (cs:Array Value),(vs.zipIdx k).foldl (fun cs (x:Value×Nat)=>cs.setIfInBounds (off+x.2) x.1) cs=(setAll cs.toList (off+k) vs).toArray
 | [],k,cs=>by simp [setAll]
 | v::vs,k,cs=>by
   rw [List.zipIdx_cons,List.foldl_cons,fill_eq place off vs (k+1),setAll]
   simp [Nat.add_assoc]
theorem fillParts_sound (ρ ρ':Operand→Value) (place:Nat→Option (Nat×Nat)) :
  ∀(src:List (Nat×Operand)) (ps:List (Nat×Nat×Operand)) (z c z':List Value),(src.length=ps.length)→
   (∀(j:Nat) s p,src[j]? = some s→ps[j]? = some p→place s.1=some (p.1,p.2.1)∧p.2.2=s.2∧zVr σ (ρ s.2) (ρ' s.2))→
   fillParts ρ ps z=some c→zLr σ z z'→(∀y∈z',y.oneCell'=true)→
   ∃c',Instr.fill place z'.toArray (src.map fun x=>(x.1,ρ' x.2))=some c'.toArray∧zLr σ c c'∧(∀y∈c',y.oneCell'=true)
 | [],[],z,c,z',_,_,hf,hz,h1=>by
   simp [fillParts] at hf;subst hf
   exact ⟨z',by simp [Instr.fill],hz,h1⟩
 | s::src,p::ps,z,c,z',hl,hp,hf,hz,h1=>by
   obtain ⟨off,size,x⟩:=p
   obtain ⟨i,x'⟩:=s
   obtain ⟨e1,e2,e3⟩:=hp 0 _ _ rfl rfl
   simp only at e1 e2 e3
   subst e2
   simp only [fillParts] at hf
   split at hf
   case isFalse=>cases hf
   rename_i hc
   obtain ⟨q1,q2,q3⟩:=hc
   have hcl:=e3.cells
   have hone:=e3.cells_one q3
   have q1':(ρ x).cells.size=size:=by simpa using q1
   have hlen:(ρ' x).cells.size=size:=by have:=hcl.1;simp at this;omega
   have hz1:=hz.1
   have hset:∀(vs vs':List Value) (o:Nat) (a b:List Value),zLr σ vs vs'→zLr σ a b→zLr σ (setAll a o vs) (setAll b o vs'):=by
    intro vs
    induction vs with
    | nil=>intro vs' o a b h k;have:vs'=[]:=by have:=h.1;simpa using this.symm
           subst this;exact k
    | cons v vs ih=>intro vs' o a b h k
                    cases vs' with
                    | nil=>have:=h.1;simp at this
                    | cons v' vs'=>exact ih vs' _ _ _ h.tail (k.set h.head o)
   have hone2:∀(vs:List Value) (o:Nat) (b:List Value),(∀y∈vs,y.oneCell'=true)→(∀y∈b,y.oneCell'=true)→∀y∈setAll b o vs,y.oneCell'=true:=by
    intro vs
    induction vs with
    | nil=>intro o b _ hb;exact hb
    | cons v vs ih=>intro o b hv hb
                    refine ih _ _ (fun y hy=>hv y (List.mem_cons_of_mem _ hy)) fun y hy=>?_
                    rcases List.mem_or_eq_of_mem_set hy with h | h
                    ·exact hb y h
                    ·subst h;exact hv _ (List.mem_cons_self)
   obtain ⟨c',g1,g2,g3⟩:=fillParts_sound ρ ρ' place src ps _ c (setAll z' off (ρ' x).cells.toList) (by simpa using hl) (fun j s p hs hp'=>hp (j+1) s p (by simpa using hs) (by simpa using hp')) hf (hset _ _ off _ _ hcl hz) (hone2 _ off _ hone h1)
   refine ⟨c', ?_,g2,g3⟩
   simp only [List.map_cons,Instr.fill,e1]
   have:¬((ρ' x).cells.size≠size||off+(ρ' x).cells.size > z'.toArray.size)=true:=by simp [hlen];omega
   rw [if_neg this]
   rw [←g1]
   congr 1
   rw [←Array.foldl_toList]
   simp only [Array.toList_zipIdx]
   rw [fill_eq (fun _=>none) off (ρ' x).cells.toList 0 z'.toArray]
   simp
end
section
variable {P:Program} {Pg:Prg} {W:Nat→Prop} {lim:Nat} {σ:Sig} {H H':zH} {w:World} {dest:Option Nat} {ρ ρ':Operand→Value} {v:Value}
theorem zRv (P:Program) (w:World) (s:Sem Value) {x:Value} {w':World} (h:s.run P w=.ok x w'):(do pure (Next.value (←s)):Sem Next).run P w=.ok (.value x) w':=by
 simp [h]
theorem run_unit (P:Program) (w:World) (s:Sem Unit) {w':World} (h:s.run P w=.ok () w'):(do s;pure Next.skip:Sem Next).run P w=.ok .skip w':=by
 simp [h]
theorem run_eqGuard_int (op:BinOp) (t:TypeId) (x y:Operand) (k k':IntKind) (a b:Int):(eqGuard op t x y (.int k a) (.int k' b)).run P w=.ok () w:=by
 cases op<;>simp [eqGuard]
theorem run_eqGuard_string (op:BinOp) (t:TypeId) (x y:Operand) (a b:ByteArray):(eqGuard op t x y (.string a) (.string b)).run P w=.ok () w:=by
 cases op<;>simp [eqGuard]
theorem aBin_sound (op:BinOp) (t:TypeId) (x y:Operand) {a b r:Value} (h:zB op a b=some r):(do eqGuard op t x y a b;binOp op t a b:Sem Value).run P w=.ok r w:=by
 unfold zB at h
 split at h
 ·rename_i k a k' b
  simp only [Sem.run_bind,run_eqGuard_int,Result.andThen_ok]
  split at h
  ·split at h
   ·cases h
   ·rename_i hb
    cases h
    simp [binOp,Op.shift,hb]
  ·split at h
   ·cases h
   ·rename_i hb
    cases h
    simp [binOp,Op.shift,hb]
  ·rename_i hns1 hns2
   split at h
   case isFalse=>cases h
   rename_i hk
   subst hk
   cases op<;>simp at h<;>first
    | (exact absurd rfl hns1) | (exact absurd rfl hns2)
    | (subst h;simp [binOp,Op.intArith,Op.intBits,Op.intCmp];done)
    | (obtain ⟨hb,rfl⟩:=h;simp [binOp,Op.intDiv,hb];done)
 ·rename_i a b
  simp only [Sem.run_bind,run_eqGuard_string,Result.andThen_ok]
  cases op<;>simp at h<;>first
   | (subst h;simp [binOp,Op.stringOp];done)
   | (obtain ⟨hb,rfl⟩:=h
      simp [binOp,Op.stringOp]
      exact hb)
 ·cases h
theorem aUn_sound (op:UnOp) {a r:Value} (h:aUn op a=some r):(Op.unary op a).run P w=.ok r w:=by
 unfold aUn at h
 split at h
 ·cases h;simp [Op.unary]
 ·cases h;simp [Op.unary,Op.intArith]
 ·cases h;simp [Op.unary,Op.intBits]
 ·cases h
theorem zEg (op:BinOp) (t:TypeId) (x y:Operand) {a b:Value} (h1:a≠.nilIface) (h2:∀xs,a≠.agg xs) :
  (eqGuard op t x y a b).run P w=.ok () w:=by
 unfold eqGuard
 cases a<;>first | (exact absurd rfl h1) | (exact absurd rfl (h2 _)) | (cases op<;>simp)
theorem run_isAgg {t:TypeId} {b:Bool} (h:isAggT P t=some b):(isAgg t).run P w=.ok b w:=by
 unfold isAggT at h
 cases hd:P.underlying t with
 | none=>simp [hd] at h
 | some d=>
   rw [hd] at h
   cases d<;>simp at h<;>subst h<;>simp [isAgg,run_underlying hd]
theorem run_size {t:TypeId} {n:Nat} (h:zSz P t=some n):(sizeOf t).run P w=.ok n w:=by
 unfold zSz at h
 cases hi:P.info? t with
 | none=>simp [hi] at h
 | some i=>rw [hi] at h;simp at h;subst h;simp [sizeOf,typeInfo,hi]
theorem run_part1 {t:TypeId} {cs:Array Value} {off:Nat} {x:Value} (h:isAggT P t=some false) (hx:cs[off]? = some x):(part t cs off).run P w=.ok x w:=by
 simp [part,run_isAgg h,hx]
theorem run_partN {t:TypeId} {cs:Array Value} {off n:Nat} (h:isAggT P t=some true) (hn:zSz P t=some n):(part t cs off).run P w=.ok (.agg (cs.extract off (off+n))) w:=by
 simp [part,run_isAgg h,run_size hn]
theorem extract_toList (cs:Array Value) (off n:Nat):(cs.extract off (off+n)).toList=(cs.toList.drop off).take n:=by
 rw [Array.toList_extract]
 simp [List.extract]
theorem load1_sound (h:Inv Pg W lim σ H w) {t:TypeId} (ht:isAggT P t=some false) {p:Addr} {L:Loc} (hL:σ p.block=some L) {v:Value} (hv:loadCell H p=some v) :
  ∃v',(loadVar t ⟨L.blk,L.base+p.off,none⟩).run P w=.ok v' w∧zVr σ v v':=by
 obtain ⟨v',h1,h2,h3⟩:=h.loadCell hL hv
 exact ⟨v',by simp [loadVar,run_isAgg ht,h1],h2⟩
theorem loadN_run (h:Inv Pg W lim σ H w) {p:Addr} {L:Loc} (hL:σ p.block=some L) {n:Nat} {l:List Value} (hv:AM.loadCells H p n=some l) :
  ∃l',(Go.loadCells ⟨L.blk,L.base+p.off,none⟩ n).run P w=.ok l'.toArray w∧zLr σ l l'∧l'.length=n∧∀y∈l',y.oneCell'=true:=by
 obtain ⟨l',h1,h2,h3,h4⟩:=h.loadCells hL hv
 have:=run_loadCells_list (P:=P) w ⟨L.blk,L.base+p.off,none⟩ l' fun j v hj=>by rw [Addr.add_mid];exact h4 j v hj
 rw [h2] at this
 exact ⟨l',this,h1,h2,h3⟩
theorem loadN_sound (h:Inv Pg W lim σ H w) {t:TypeId} (ht:isAggT P t=some true) {n:Nat} (hn:zSz P t=some n) {p:Addr} {L:Loc} (hL:σ p.block=some L) {l:List Value} (hv:AM.loadCells H p n=some l) :
  ∃v',(loadVar t ⟨L.blk,L.base+p.off,none⟩).run P w=.ok v' w∧zVr σ (.agg l.toArray) v':=by
 obtain ⟨l',h1,h2,h3,h4⟩:=loadN_run (P:=P) h hL hv
 exact ⟨.agg l'.toArray,by simp [loadVar,run_isAgg ht,run_size hn,h1],zVr.agg_iff.2 ⟨by simpa using h2,by simpa using h4⟩⟩
theorem bound_sound {x x':Value} {m n:Nat} (h:bound x m=some n) (hr:zVr σ x x') (code:BoundsCode):(Instr.sliceBound x' m code).run P w=.ok n w:=by
 unfold bound at h
 split at h
 ·rename_i k i
  split at h
  ·rename_i hi
   cases h
   rw [hr.int_left]
   simp [Instr.sliceBound,asIntOf,hi]
  ·cases h
 ·cases h
theorem bound_le {v:Value} {a n:Nat} (hb:bound v a=some n):n≤a:=by
 unfold bound at hb
 split at hb
 ·split at hb
  ·cases hb;omega
  ·cases hb
 ·cases hb
theorem bound_wide {v:Value} {a b n:Nat} (hab:a≤b) (hb:bound v a=some n):bound v b=some n:=by
 unfold bound at hb⊢
 split at hb
 ·split at hb
  ·rename_i hi;cases hb
   exact if_pos (by omega)
  ·cases hb
 ·cases hb
theorem bounds_sound {len cap cap':Nat} {lo hi mx:Option Operand} {l h m:Nat} (hb:bounds ρ len cap lo hi mx=some (l,h,m)) (hρ:∀x∈lo.toList++hi.toList++mx.toList,zVr σ (ρ x) (ρ' x))
  (hc:cap≤cap') (isSlice:Bool):∃m',(Instr.sliceBounds isSlice len cap' (lo.map ρ') (hi.map ρ') (mx.map ρ')).run P w=.ok (l,h,m') w∧(mx=none→m'=cap'∧m=cap)∧(mx≠none→m'=m)∧
   l≤h∧m≤cap∧(hi=none→mx=none∧h=len)∧(hi≠none→h≤m):=by
 unfold bounds at hb
 cases mx with
 | none=>
   simp only at hb
   cases hi with
   | none=>
     simp only at hb
     cases lo with
     | none=>simp at hb;obtain ⟨rfl,rfl,rfl⟩:=hb;exact ⟨cap',by simp [Instr.sliceBounds],fun _=>⟨rfl,rfl⟩,fun h=>absurd rfl h,Nat.zero_le _,Nat.le_refl _,fun _=>⟨rfl,rfl⟩,fun h=>absurd rfl h⟩
     | some x=>
       simp only at hb
       cases h1:bound (ρ x) len with
       | none=>simp [h1] at hb
       | some a=>
         simp [h1] at hb;obtain ⟨rfl,rfl,rfl⟩:=hb
         exact ⟨cap',by simp [Instr.sliceBounds,bound_sound h1 (hρ x (by simp))],fun _=>⟨rfl,rfl⟩,fun h=>absurd rfl h,bound_le h1,Nat.le_refl _,fun _=>⟨rfl,rfl⟩,fun h=>absurd rfl h⟩
   | some y=>
     simp only at hb
     cases h2:bound (ρ y) cap with
     | none=>simp [h2] at hb
     | some b=>
       simp only [h2] at hb
       cases lo with
       | none=>
         simp at hb;obtain ⟨rfl,rfl,rfl⟩:=hb
         exact ⟨cap',by simp [Instr.sliceBounds,bound_sound (bound_wide hc h2) (hρ y (by simp))],fun _=>⟨rfl,rfl⟩,fun h=>absurd rfl h,Nat.zero_le _,Nat.le_refl _,fun h=>by simp at h,fun _=>bound_le h2⟩
       | some x=>
         simp only at hb
         cases h1:bound (ρ x) b with
         | none=>simp [h1] at hb
         | some a=>
           simp [h1] at hb;obtain ⟨rfl,rfl,rfl⟩:=hb
           exact ⟨cap',by simp [Instr.sliceBounds,bound_sound (bound_wide hc h2) (hρ y (by simp)),bound_sound h1 (hρ x (by simp))],fun _=>⟨rfl,rfl⟩,fun h=>absurd rfl h,bound_le h1,Nat.le_refl _,fun h=>by simp at h,fun _=>bound_le h2⟩
 | some z=>
   simp only at hb
   cases h3:bound (ρ z) cap with
   | none=>simp [h3] at hb
   | some c=>
     simp only [h3] at hb
     cases hi with
     | none=>simp at hb
     | some y=>
       simp only at hb
       cases h2:bound (ρ y) c with
       | none=>simp [h2] at hb
       | some b=>
         simp only [h2] at hb
         cases lo with
         | none=>
           simp at hb;obtain ⟨rfl,rfl,rfl⟩:=hb
           exact ⟨c,by simp [Instr.sliceBounds,bound_sound (bound_wide hc h3) (hρ z (by simp)),bound_sound h2 (hρ y (by simp))],fun h=>by simp at h,fun _=>rfl,Nat.zero_le _,bound_le h3,fun h=>by simp at h,fun _=>bound_le h2⟩
         | some x=>
           simp only at hb
           cases h1:bound (ρ x) b with
           | none=>simp [h1] at hb
           | some a=>
             simp [h1] at hb;obtain ⟨rfl,rfl,rfl⟩:=hb
             exact ⟨c,by simp [Instr.sliceBounds,bound_sound (bound_wide hc h3) (hρ z (by simp)),bound_sound h2 (hρ y (by simp)),bound_sound h1 (hρ x (by simp))],fun h=>by simp at h,fun _=>rfl,bound_le h1,bound_le h3,fun h=>by simp at h,fun _=>bound_le h2⟩
end
end Go.AM

namespace Go.AM
theorem cellsEq_length:∀{l:List KK} {a c:List Value} {r:Bool},zCe l a c=some r→a.length=l.length∧c.length=l.length
 | [],[],[],_,_=>⟨rfl,rfl⟩
 | _::l,_::a,_::c,r,h=>by
   simp only [zCe] at h
   split at h
   ·rename_i h2
    have:=cellsEq_length h2
    simp [this.1,this.2]
   ·cases h
 | [],_::_,_,_,h=>by simp [zCe] at h
 | [],[],_::_,_,h=>by simp [zCe] at h
 | _::_,[],_,_,h=>by simp [zCe] at h
 | _::_,_::_,[],_,h=>by simp [zCe] at h
theorem cellsEq_append:∀{l m:List KK} {a c:List Value} {r:Bool},zCe (l++m) a c=some r→
  ∃r1 r2,zCe l (a.take l.length) (c.take l.length)=some r1∧zCe m (a.drop l.length) (c.drop l.length)=some r2∧r=(r1&&r2)
 | [],m,a,c,r,h=>⟨true,r,by simp [zCe],by simpa using h,by simp⟩
 | k::l,m,x::a,y::c,r,h=>by
   simp only [List.cons_append,zCe] at h
   split at h
   ·rename_i p q h1 h2
    cases h
    obtain ⟨r1,r2,g1,g2,rfl⟩:=cellsEq_append h2
    exact ⟨p&&r1,r2,by simp [zCe,h1,g1],by simpa using g2,by rw [Bool.and_assoc]⟩
   ·cases h
 | k::l,m,[],c,r,h=>by simp [zCe] at h
 | k::l,m,_::_,[],r,h=>by simp [zCe] at h
theorem cellsEq_one {k:KK} {a c:List Value} {r:Bool} (h:zCe [k] a c=some r):∃x y,a=[x]∧c=[y]∧cellEq k x y=some r:=by
 match a,c,h with
 | [x],[y],h=>
   refine ⟨x,y,rfl,rfl, ?_⟩
   simp only [zCe] at h
   split at h
   ·rename_i h1 h2
    cases h2
    cases h
    simpa using h1
   ·cases h
 | [],_,h=>simp [zCe] at h
 | [_],[],h=>simp [zCe] at h
 | [_],_::_::_,h=>simp [zCe] at h
 | _::_::_,[],h=>simp [zCe] at h
 | _::_::_,[_],h=>simp [zCe] at h
 | _::_::_,_::_::_,h=>simp [zCe] at h
section
variable {P:Program} (w:World)
theorem keyKind_one {t:TypeId} {k:KK} (h:keyKind P t=some k):(∃l,k=.ints l)∨(P.underlying t=some .bool∧k=.bool)∨(P.underlying t=some .string∧k=.str)∨∃q,P.underlying t=some (.int q)∧k=.int q:=by
 unfold keyKind at h
 cases hu:P.underlying t with
 | none=>simp [hu] at h
 | some d=>
   rw [hu] at h
   have wide:(match zSk P 20 t with | some l=>(intKinds l).map KK.ints | none=>none)=some k→∃l,k=.ints l:=fun h=>by
    split at h
    ·simp only [Option.map_eq_some_iff] at h
     obtain ⟨a,_,rfl⟩:=h
     exact ⟨a,rfl⟩
    ·cases h
   cases d
   case bool=>simp at h;exact .inr (.inl ⟨rfl,h.symm⟩)
   case string=>simp at h;exact .inr (.inr (.inl ⟨rfl,h.symm⟩))
   case int q=>simp at h;exact .inr (.inr (.inr ⟨q,rfl,h.symm⟩))
   case struct fs=>exact .inl (wide h)
   case array n e=>exact .inl (wide h)
   all_goals (simp at h;done)
theorem run_cellEq (d:Nat) (t:TypeId) {k:KK} {x y:Value} {r:Bool} (h:cellEq k x y=some r) (ht:keyKind P t=some k):(Op.equalIn (d+1) t x y).run P w=.ok r w:=by
 rcases keyKind_one ht with ⟨l,rfl⟩ | ⟨hq,rfl⟩ | ⟨hq,rfl⟩ | ⟨q,hq,rfl⟩
 ·cases x<;>cases y<;>simp [cellEq] at h
 ·cases x<;>cases y<;>simp [cellEq] at h
  subst h
  exact run_equalIn_bool w d t _ _ hq
 ·cases x<;>cases y<;>simp [cellEq] at h
  subst h
  exact run_equalIn_string w d t _ _ hq
 ·cases x<;>cases y<;>simp only [cellEq] at h<;>try (cases h;done)
  split at h
  ·rename_i hk
   cases h
   obtain ⟨rfl,rfl⟩:=hk
   exact run_equalIn_int w d t _ _ _ _ hq
  ·cases h
def EqOk (P:Program) (w:World) (d:Nat) (t:TypeId) (l:List KK):Prop:=
 ∀(x y:Value) (r:Bool),(isAggT P t=some true→(∃xs,x=.agg xs)∧∃ys,y=.agg ys)→(isAggT P t=some false→x.cells=#[x]∧y.cells=#[y])→
  zCe l x.cells.toList y.cells.toList=some r→(Op.equalIn d t x y).run P w=.ok r w
theorem run_part_seg (t:TypeId) {b:Bool} (hb:isAggT P t=some b) {n:Nat} (hn:zSz P t=some n) (cs:Array Value) (off:Nat) (hoff:off+n≤cs.size) (h1:b=false→n=1) :
  ∃v,(part t cs off).run P w=.ok v w∧(isAggT P t=some true→∃xs,v=.agg xs)∧(b=false→cs[off]? = some v)∧(b=true→v.cells.toList=(cs.toList.drop off).take n):=by
 cases b with
 | true=>exact ⟨_,run_partN hb hn,fun _=>⟨_,rfl⟩,(fun h=>by cases h),fun _=>extract_toList cs off n⟩
 | false=>
   have:=h1 rfl
   subst this
   exact ⟨cs[off]'(by omega),run_part1 hb (Array.getElem?_eq_getElem (by omega)),(fun h=>by rw [hb] at h;cases h),fun _=>Array.getElem?_eq_getElem (by omega),(fun h=>by cases h)⟩
theorem step_seg {d:Nat} {t:TypeId} {l:List KK} (IH:EqOk P w d t l) {b:Bool} (hb:isAggT P t=some b) (hn:zSz P t=some l.length) (h1:b=false→l.length=1) (xs ys:Array Value) (off:Nat)
  {r:Bool} (h:zCe l ((xs.toList.drop off).take l.length) ((ys.toList.drop off).take l.length)=some r) (hx:off+l.length≤xs.size) (hy:off+l.length≤ys.size) :
  ∃a c,(part t xs off).run P w=.ok a w∧(part t ys off).run P w=.ok c w∧(Op.equalIn d t a c).run P w=.ok r w:=by
 obtain ⟨a,a1,a2,a3,a4⟩:=run_part_seg w t hb hn xs off hx h1
 obtain ⟨c,c1,c2,c3,c4⟩:=run_part_seg w t hb hn ys off hy h1
 refine ⟨a,c,a1,c1,IH a c r (fun h=>⟨a2 h,c2 h⟩) (fun hf=>?_) ?_⟩
 ·rw [hb] at hf;cases hf
  have hl:=h1 rfl
  rw [hl] at h
  have one:∀{zs:Array Value} {z:Value},zs[off]? = some z→(zs.toList.drop off).take 1=[z]:=fun {zs z} hz=>by
   have:=(Array.getElem?_eq_some_iff.1 hz)
   obtain ⟨h1,h2⟩:=this
   rw [List.drop_eq_getElem_cons (by simpa using h1)]
   simp [h2]
  rw [one (a3 rfl),one (c3 rfl)] at h
  have hk:∃k,l=[k]:=by
   match l,hl with
   | [k],_=>exact ⟨k,rfl⟩
  obtain ⟨k,rfl⟩:=hk
  obtain ⟨x,y,e1,e2,e3⟩:=cellsEq_one h
  simp only [List.cons.injEq,and_true] at e1 e2
  subst e1 e2
  unfold cellEq at e3
  split at e3<;>first | exact ⟨rfl,rfl⟩ | (cases e3;done)
 ·cases b with
  | true=>rw [a4 rfl,c4 rfl];exact h
  | false=>
    have hl:=h1 rfl
    rw [hl] at h
    have one:∀{zs:Array Value} {z:Value},zs[off]? = some z→(zs.toList.drop off).take 1=[z]:=fun {zs z} hz=>by
     obtain ⟨h1,h2⟩:=(Array.getElem?_eq_some_iff.1 hz)
     rw [List.drop_eq_getElem_cons (by simpa using h1)]
     simp [h2]
    rw [one (a3 rfl),one (c3 rfl)] at h
    have hk:∃k,l=[k]:=by
     match l,hl with
     | [k],_=>exact ⟨k,rfl⟩
    obtain ⟨k,rfl⟩:=hk
    obtain ⟨x,y,e1,e2,e3⟩:=cellsEq_one h
    simp only [List.cons.injEq,and_true] at e1 e2
    subst e1 e2
    have cellsOf1:a.cells=#[a]∧c.cells=#[c]:=by
     unfold cellEq at e3
     split at e3<;>first | exact ⟨rfl,rfl⟩ | (cases e3;done)
    rw [cellsOf1.1,cellsOf1.2]
    exact h
theorem items_sound {d:Nat} {e:TypeId} {l:List KK} (IH:EqOk P w d e l) {b:Bool} (hb:isAggT P e=some b) (hn:zSz P e=some l.length) (h1:b=false→l.length=1) (xs ys:Array Value) :
  ∀(m s:Nat) (r:Bool),zCe (List.replicate m l).flatten (xs.toList.drop (s*l.length)) (ys.toList.drop (s*l.length))=some r→
   (Op.eqItems d e l.length xs ys (List.range' s m)).run P w=.ok r w
 | 0,s,r,h=>by
   simp only [List.replicate_zero,List.flatten_nil] at h
   have:r=true:=by
    generalize xs.toList.drop (s*l.length)=u at h
    generalize ys.toList.drop (s*l.length)=v at h
    cases u<;>cases v<;>simp [zCe] at h
    exact h
   subst this
   simp [Op.eqItems]
 | m+1,s,r,h=>by
   simp only [List.replicate_succ,List.flatten_cons] at h
   have hlen:=cellsEq_length h
   simp only [List.length_append,List.length_drop,Array.length_toList] at hlen
   obtain ⟨r1,r2,g1,g2,rfl⟩:=cellsEq_append h
   have hs:xs.size≥s*l.length∨l.length=0:=by
    by_cases h0:l.length=0
    ·exact .inr h0
    ·left;omega
   have hs':ys.size≥s*l.length∨l.length=0:=by
    by_cases h0:l.length=0
    ·exact .inr h0
    ·left;omega
   have hx:s*l.length+l.length≤xs.size:=by
    rcases hs with h | h
    ·omega
    ·rw [h];omega
   have hy:s*l.length+l.length≤ys.size:=by
    rcases hs' with h | h
    ·omega
    ·rw [h];omega
   obtain ⟨a,c,p1,p2,p3⟩:=step_seg w IH hb hn h1 xs ys (s*l.length) g1 hx hy
   have ih:=items_sound IH hb hn h1 xs ys m (s+1) r2 (by
    rw [show (s+1)*l.length=s*l.length+l.length by rw [Nat.add_mul];omega,←List.drop_drop,←List.drop_drop];exact g2)
   rw [List.range'_succ]
   simp only [Op.eqItems,Sem.run_bind,p1,p2,p3,Result.andThen_ok]
   cases r1
   ·simp
   ·simpa using ih
theorem fields_sound (n d:Nat) (IH:∀t l,zSk P n t=some l→EqOk P w d t l) (xs ys:Array Value) :
  ∀(fs:List Field) (off:Nat) (l:List KK) (r:Bool),kindsGo P (zSk P n) fs off=some l→zCe l (xs.toList.drop off) (ys.toList.drop off)=some r→(l≠[]→off≤xs.size∧off≤ys.size)→
   (Op.eqFields d xs ys fs).run P w=.ok r w
 | [],off,l,r,hl,h,_=>by
   simp [kindsGo] at hl;subst hl
   have:r=true:=by
    generalize xs.toList.drop off=u at h
    generalize ys.toList.drop off=v at h
    cases u<;>cases v<;>simp [zCe] at h
    exact h
   subst this
   simp [Op.eqFields]
 | f::fs,off,l,r,hl,h,ho=>by
   simp only [kindsGo] at hl
   split at hl
   ·cases hl
   rename_i hf
   split at hl
   case h_2=>cases hl
   rename_i l1 hl1
   split at hl
   case isFalse=>cases hl
   rename_i hc
   simp only [Option.map_eq_some_iff] at hl
   obtain ⟨l2,hl2,rfl⟩:=hl
   obtain ⟨hc,hne⟩:=hc
   have hname:f.name≠ "_":=fun e=>hf (.inl e)
   have hoff:f.offset=off:=Decidable.byContradiction fun e=>hf (.inr e)
   have hlen:=cellsEq_length h
   simp only [List.length_append,List.length_drop,Array.length_toList] at hlen
   obtain ⟨r1,r2,g1,g2,rfl⟩:=cellsEq_append h
   have hu:∃dsc,P.underlying f.type=some dsc:=by
    cases hd:P.underlying f.type with
    | some x=>exact ⟨x,rfl⟩
    | none=>cases n<;>simp [zSk,hd] at hl1
   obtain ⟨dsc,hu⟩:=hu
   obtain ⟨i,hi⟩:=info_of_underlying hu
   have hsz:zSz P f.type=some l1.length:=by
    rw [hc];simp [zSz,Program.cellsOf,hi]
   have hagg:∃b,isAggT P f.type=some b∧(b=false→l1.length=1):=by
    cases n with
    | zero=>simp [zSk] at hl1
    | succ n=>
      unfold zSk at hl1
      unfold isAggT
      rw [hu] at hl1⊢
      cases dsc<;>simp at hl1<;>first
       | (subst hl1;exact ⟨false,rfl,fun _=>rfl⟩)
       | exact ⟨true,rfl,fun h=>by cases h⟩
   obtain ⟨b,hb,hb1⟩:=hagg
   have hx:off+l1.length≤xs.size∧off+l1.length≤ys.size:=by
    have:=ho (fun e=>hne (by rw [(List.append_eq_nil_iff.1 e).1];rfl));omega
   obtain ⟨a,c,p1,p2,p3⟩:=step_seg w (IH _ _ hl1) hb hsz hb1 xs ys off g1 hx.1 hx.2
   have ih:=fields_sound n d IH xs ys fs (off+l1.length) l2 r2 hl2 (by rw [←List.drop_drop,←List.drop_drop];exact g2) (fun _=>hx)
   simp only [Op.eqFields,hname,ne_eq,not_false_eq_true,if_true,Sem.run_bind,hoff,p1,p2,p3,Result.andThen_ok]
   cases r1
   ·simp
   ·simpa using ih
theorem simple_sound:∀(n:Nat) (t:TypeId) (l:List KK),zSk P n t=some l→∀d,EqOk P w (d+n) t l
 | 0,t,l,h,_=>by simp [zSk] at h
 | n+1,t,l,h,d=>by
   intro x y r hagg hcell hr
   unfold zSk at h
   have cell:∀k,keyKind P t=some k→l=[k]→isAggT P t=some false→(Op.equalIn (d+(n+1)) t x y).run P w=.ok r w:=by
    intro k hk hl hf
    subst hl
    obtain ⟨h1,h2⟩:=hcell hf
    rw [h1,h2] at hr
    obtain ⟨a,c,e1,e2,e3⟩:=cellsEq_one hr
    simp at e1 e2
    subst e1 e2
    exact run_cellEq w (d+n) t e3 hk
   split at h
   ·rename_i hu;cases h
    exact cell .bool (by simp [keyKind,hu]) rfl (by simp [isAggT,hu])
   ·rename_i k hu;cases h
    exact cell (.int k) (by simp [keyKind,hu]) rfl (by simp [isAggT,hu])
   ·rename_i hu;cases h
    exact cell .str (by simp [keyKind,hu]) rfl (by simp [isAggT,hu])
   ·rename_i len e hu
    split at h
    case h_2=>cases h
    rename_i l1 hl1
    split at h
    case isFalse=>cases h
    rename_i hc
    cases h
    obtain ⟨⟨xs,rfl⟩,⟨ys,rfl⟩⟩:=hagg (by simp [isAggT,hu])
    have hue:∃dsc,P.underlying e=some dsc:=by
     cases hd:P.underlying e with
     | some x=>exact ⟨x,rfl⟩
     | none=>cases n<;>simp [zSk,hd] at hl1
    obtain ⟨dsc,hue⟩:=hue
    obtain ⟨i,hi⟩:=info_of_underlying hue
    have hsz:zSz P e=some l1.length:=by
     rw [hc];simp [zSz,Program.cellsOf,hi]
    have hb:∃b,isAggT P e=some b∧(b=false→l1.length=1):=by
     cases n with
     | zero=>simp [zSk] at hl1
     | succ n=>
       unfold zSk at hl1
       unfold isAggT
       rw [hue] at hl1⊢
       cases dsc<;>simp at hl1<;>first
        | (subst hl1;exact ⟨false,rfl,fun _=>rfl⟩)
        | exact ⟨true,rfl,fun h=>by cases h⟩
    obtain ⟨b,hb,hb1⟩:=hb
    rw [show d+(n+1)=(d+n)+1 from rfl,run_equalIn_array w (d+n) xs ys hu hi,←hc,List.range_eq_range']
    exact items_sound w (simple_sound n e l1 hl1 d) hb hsz hb1 xs ys len 0 r (by simpa [Value.cells] using hr)
   ·rename_i fs hu
    split at h
    ·cases h
    rename_i hst
    obtain ⟨⟨xs,rfl⟩,⟨ys,rfl⟩⟩:=hagg (by simp [isAggT,hu])
    have hfs:P.fieldsOf t=fs:=by simp [Program.fieldsOf,hu]
    rw [show d+(n+1)=(d+n)+1 from rfl,run_equalIn_struct w (d+n) t xs ys (by rw [hfs];exact hu) (by simpa using hst),hfs]
    exact fields_sound w n (d+n) (fun t l hl=>simple_sound n t l hl d) xs ys fs.toList 0 l r h (by simpa [Value.cells] using hr) (fun _=>⟨Nat.zero_le _,Nat.zero_le _⟩)
   ·cases h
theorem run_eqGuard_agg (op:BinOp) (t:TypeId) (x y:Operand) (xs ys:Array Value) (h:P.eqGuardType P.depth t=false):(eqGuard op t x y (.agg xs) (.agg ys)).run P w=.ok () w:=by
 cases op<;>simp [eqGuard,h]
theorem eqn_ptr1 (d:Nat) (t e:TypeId) (q:Option Addr) (h:P.underlying t=some (.pointer e)):(Op.equalIn (d+1) t (.pointer none) (.pointer q)).run P w=.ok q.isNone w:=by simp [Op.equalIn,run_underlying h]
theorem eqn_ptr2 (d:Nat) (t e:TypeId) (q:Addr) (h:P.underlying t=some (.pointer e)):(Op.equalIn (d+1) t (.pointer (some q)) (.pointer none)).run P w=.ok false w:=by simp [Op.equalIn,run_underlying h]
theorem eqn_sl1 (d:Nat) (t e:TypeId) (q:Option Addr) (a b c f:Nat) (h:P.underlying t=some (.slice e)):(Op.equalIn (d+1) t (.slice none a b) (.slice q c f)).run P w=.ok q.isNone w:=by simp [Op.equalIn,run_underlying h]
theorem eqn_sl2 (d:Nat) (t e:TypeId) (q:Addr) (a b c f:Nat) (h:P.underlying t=some (.slice e)):(Op.equalIn (d+1) t (.slice (some q) a b) (.slice none c f)).run P w=.ok false w:=by simp [Op.equalIn,run_underlying h]
theorem eqn_map1 (d:Nat) (t e f:TypeId) (q:Option Nat) (h:P.underlying t=some (.map e f)):(Op.equalIn (d+1) t (.map none) (.map q)).run P w=.ok q.isNone w:=by simp [Op.equalIn,run_underlying h]
theorem eqn_map2 (d:Nat) (t e f:TypeId) (q:Nat) (h:P.underlying t=some (.map e f)):(Op.equalIn (d+1) t (.map (some q)) (.map none)).run P w=.ok false w:=by simp [Op.equalIn,run_underlying h]
theorem eqn_fn0 (d:Nat) (t:TypeId) {e f:Array TypeId} {g:Bool} (h:P.underlying t=some (.func e f g)):(Op.equalIn (d+1) t .nilFunc .nilFunc).run P w=.ok true w:=by simp [Op.equalIn,run_underlying h]
theorem eqn_fn1 (d:Nat) (t:TypeId) {e f:Array TypeId} {g:Bool} (q:Fn) (i j:Array Value) (h:P.underlying t=some (.func e f g)):(Op.equalIn (d+1) t .nilFunc (.func q i j)).run P w=.ok false w:=by simp [Op.equalIn,run_underlying h]
theorem eqn_fn2 (d:Nat) (t:TypeId) {e f:Array TypeId} {g:Bool} (q:Fn) (i j:Array Value) (h:P.underlying t=some (.func e f g)):(Op.equalIn (d+1) t (.func q i j) .nilFunc).run P w=.ok false w:=by simp [Op.equalIn,run_underlying h]
theorem eqn_if0 (d:Nat) (t:TypeId) {m} (h:P.underlying t=some (.interface m)):(Op.equalIn (d+1) t .nilIface .nilIface).run P w=.ok true w:=by simp [Op.equalIn,run_underlying h]
theorem eqn_if1 (d:Nat) (t u:TypeId) (q:Value) {m} (h:P.underlying t=some (.interface m)):(Op.equalIn (d+1) t (.iface u q) .nilIface).run P w=.ok false w:=by simp [Op.equalIn,run_underlying h]
theorem run_eqGuard_nil (op:BinOp) (t:TypeId) (x:Operand) (c:Value):(eqGuard op t x (.const c) .nilIface .nilIface).run P w=.ok () w:=by cases op<;>simp [eqGuard]
theorem aEq_iface {σ:Sig} (neg:Bool) {t:TypeId} {m} (hu:P.underlying t=some (.interface m)) (x:Operand) (c:Value) {a b a' b':Value} (ha:zVr σ a a') (hb:zVr σ b b') {r:Bool} (h:aEq .iface a b=some r) :
  (do eqGuard (if neg then .neq else .eql) t x (.const c) a' b';binOp (if neg then .neq else .eql) t a' b':Sem Value).run P w=.ok (.bool (if neg then !r else r)) w:=by
 unfold aEq at h
 split at h<;>try (first | cases h | (rename_i hk;cases hk))
 all_goals (try contradiction)
 ·rw [ha.nilIface_left,hb.nilIface_left]
  have e:=eqn_if0 w 9999 t hu
  cases neg
  ·simp only [Bool.false_eq_true,if_false]
   rw [Sem.run_bind,run_eqGuard_nil];simp [binOp];rw [show Op.equal t .nilIface .nilIface=Op.equalIn (9999+1) t .nilIface .nilIface from rfl,e];rfl
  ·simp only [if_true]
   rw [Sem.run_bind,run_eqGuard_nil];simp [binOp];rw [show Op.equal t .nilIface .nilIface=Op.equalIn (9999+1) t .nilIface .nilIface from rfl,e];rfl
 ·obtain ⟨u,q,rfl⟩:=ha.iface_left
  rw [hb.nilIface_left]
  have e:=eqn_if1 w 9999 t u q hu
  cases neg
  ·simp only [Bool.false_eq_true,if_false]
   rw [Sem.run_bind,zEg _ _ _ _ (by simp) (by simp)];simp [binOp];rw [show Op.equal t (.iface u q) .nilIface=Op.equalIn (9999+1) t (.iface u q) .nilIface from rfl,e];rfl
  ·simp only [if_true]
   rw [Sem.run_bind,zEg _ _ _ _ (by simp) (by simp)];simp [binOp];rw [show Op.equal t (.iface u q) .nilIface=Op.equalIn (9999+1) t (.iface u q) .nilIface from rfl,e];rfl
theorem aEq_sound {σ:Sig} (neg:Bool) {k:EqKind} {t:TypeId} (hk:eqKind P t=some k) (x y:Operand) {a b a' b':Value} (ha:zVr σ a a') (hb:zVr σ b b') {r:Bool} (h:aEq k a b=some r) :
  (do eqGuard (if neg then .neq else .eql) t x y a' b';binOp (if neg then .neq else .eql) t a' b':Sem Value).run P w=.ok (.bool (if neg then !r else r)) w:=by
 have fin:(eqGuard (if neg then .neq else .eql) t x y a' b').run P w=.ok () w→(Op.equal t a' b').run P w=.ok r w→
   (∀(op:BinOp),op=.eql∨op=.neq→binOp op t a' b'=(if op=.eql then (do pure (.bool (←Op.equal t a' b'))) else (do pure (.bool (!(←Op.equal t a' b'))))))→
   (do eqGuard (if neg then .neq else .eql) t x y a' b';binOp (if neg then .neq else .eql) t a' b':Sem Value).run P w=.ok (.bool (if neg then !r else r)) w:=by
  intro h1 h2 h3
  cases neg
  ·simp only [Bool.false_eq_true,if_false] at h1⊢
   rw [Sem.run_bind,h1,h3 .eql (.inl rfl)];simp [h2]
  ·simp only [if_true] at h1⊢
   rw [Sem.run_bind,h1,h3 .neq (.inr rfl)];simp [h2]
 unfold aEq at h
 split at h
 ·
  cases h
  rw [ha.bool_left,hb.bool_left] at *
  have hu:P.underlying t=some .bool:=by unfold eqKind at hk;split at hk<;>simp_all
  exact fin (zEg _ _ _ _ (by simp) (by simp)) (run_equalIn_bool w 9999 t _ _ hu) (by rintro op (rfl | rfl)<;>simp [binOp])
 ·cases h
  rename_i q
  rw [ha.nilptr_left] at *
  have hu:∃e,P.underlying t=some (.pointer e):=by unfold eqKind at hk;split at hk<;>simp_all
  obtain ⟨e,hu⟩:=hu
  have hb':∃q',b'=.pointer q'∧q'.isNone=q.isNone:=by
   cases hb with
   | atom hb=>exact ⟨_,rfl,rfl⟩
   | ptr hb=>exact ⟨_,rfl,rfl⟩
  obtain ⟨q',rfl,hq⟩:=hb'
  refine fin (zEg _ _ _ _ (by simp) (by simp)) ?_ (by rintro op (rfl | rfl)<;>cases q'<;>simp [binOp])
  rw [←hq]
  exact eqn_ptr1 w 9999 t _ _ hu
 ·cases h
  obtain ⟨L,h1,h2,rfl⟩:=ha.ptr_left
  rw [hb.nilptr_left] at *
  have hu:∃e,P.underlying t=some (.pointer e):=by unfold eqKind at hk;split at hk<;>simp_all
  obtain ⟨e,hu⟩:=hu
  refine fin (zEg _ _ _ _ (by simp) (by simp)) ?_ (by rintro op (rfl | rfl)<;>simp [binOp])
  exact eqn_ptr2 w 9999 t _ _ hu
 ·cases h
  rename_i n c q m cc
  obtain ⟨rfl,rfl,rfl⟩:=ha.nilslice_left
  have hu:∃e,P.underlying t=some (.slice e):=by unfold eqKind at hk;split at hk<;>simp_all
  obtain ⟨e,hu⟩:=hu
  have hb':∃q' m' c',b'=.slice q' m' c'∧q'.isNone=q.isNone:=by
   cases hb<;>exact ⟨_,_,_,rfl,rfl⟩
  obtain ⟨q',m',c',rfl,hq⟩:=hb'
  refine fin (zEg _ _ _ _ (by simp) (by simp)) ?_ (by rintro op (rfl | rfl)<;>simp [binOp])
  rw [←hq]
  exact eqn_sl1 w 9999 t _ _ _ _ _ _ hu
 ·cases h
  rename_i q n c m cc
  obtain ⟨rfl,rfl,rfl⟩:=hb.nilslice_left
  have hu:∃e,P.underlying t=some (.slice e):=by unfold eqKind at hk;split at hk<;>simp_all
  obtain ⟨e,hu⟩:=hu
  have ha':∃q' m' c',a'=.slice (some q') m' c':=by
   obtain ⟨_,L,_,h | ⟨_,_,_,_,_,h⟩ | ⟨_,_,_,h⟩⟩:=ha.slice_left
   ·exact ⟨_,_,_,h.2⟩
   ·exact ⟨_,_,_,h⟩
   ·exact ⟨_,_,_,h⟩
  obtain ⟨q',m',c',rfl⟩:=ha'
  refine fin (zEg _ _ _ _ (by simp) (by simp)) ?_ (by rintro op (rfl | rfl)<;>simp [binOp])
  exact eqn_sl2 w 9999 t _ _ _ _ _ _ hu
 ·cases h
  rename_i q
  rw [ha.nilmap_left] at *
  have hu:∃e f,P.underlying t=some (.map e f):=by unfold eqKind at hk;split at hk<;>simp_all
  obtain ⟨e,f,hu⟩:=hu
  have hb':∃q',b'=.map q'∧q'.isNone=q.isNone:=by
   cases hb with
   | atom hb=>exact ⟨_,rfl,rfl⟩
   | map hb=>exact ⟨_,rfl,rfl⟩
  obtain ⟨q',rfl,hq⟩:=hb'
  refine fin (zEg _ _ _ _ (by simp) (by simp)) ?_ (by rintro op (rfl | rfl)<;>simp [binOp])
  rw [←hq]
  exact eqn_map1 w 9999 t _ _ _ hu
 ·cases h
  obtain ⟨L,h1,rfl⟩:=ha.map_left
  rw [hb.nilmap_left] at *
  have hu:∃e f,P.underlying t=some (.map e f):=by unfold eqKind at hk;split at hk<;>simp_all
  obtain ⟨e,f,hu⟩:=hu
  refine fin (zEg _ _ _ _ (by simp) (by simp)) ?_ (by rintro op (rfl | rfl)<;>simp [binOp])
  exact eqn_map2 w 9999 t _ _ _ hu
 ·cases h
  rw [ha.nilfunc_left,hb.nilfunc_left] at *
  have hu:∃e f g,P.underlying t=some (.func e f g):=by unfold eqKind at hk;split at hk<;>simp_all
  obtain ⟨e,f,g,hu⟩:=hu
  refine fin (zEg _ _ _ _ (by simp) (by simp)) ?_ (by rintro op (rfl | rfl)<;>simp [binOp])
  exact eqn_fn0 w 9999 t hu
 ·cases h
  rw [ha.nilfunc_left] at *
  have hu:∃e f g,P.underlying t=some (.func e f g):=by unfold eqKind at hk;split at hk<;>simp_all
  obtain ⟨e,f,g,hu⟩:=hu
  have hb':∃q i j,b'=.func q i j:=by cases hb<;>exact ⟨_,_,_,rfl⟩
  obtain ⟨q,i,j,rfl⟩:=hb'
  refine fin (zEg _ _ _ _ (by simp) (by simp)) ?_ (by rintro op (rfl | rfl)<;>simp [binOp])
  exact eqn_fn1 w 9999 t _ _ _ hu
 ·cases h
  rw [hb.nilfunc_left] at *
  have hu:∃e f g,P.underlying t=some (.func e f g):=by unfold eqKind at hk;split at hk<;>simp_all
  obtain ⟨e,f,g,hu⟩:=hu
  have ha':∃q i j,a'=.func q i j:=by cases ha<;>exact ⟨_,_,_,rfl⟩
  obtain ⟨q,i,j,rfl⟩:=ha'
  refine fin (zEg _ _ _ _ (by simp) (by simp)) ?_ (by rintro op (rfl | rfl)<;>simp [binOp])
  exact eqn_fn2 w 9999 t _ _ _ hu
 ·exfalso;unfold eqKind at hk;split at hk<;>simp_all
 ·exfalso;unfold eqKind at hk;split at hk<;>simp_all
 ·rename_i l xs ys
  obtain ⟨xs',rfl,hxl,_⟩:=ha.agg_left
  obtain ⟨ys',rfl,hyl,_⟩:=hb.agg_left
  have hg:P.eqGuardType P.depth t=false∧zSk P 20 t=some l∧isAggT P t=some true:=by
   unfold eqKind at hk
   split at hk<;>simp_all [isAggT]
  have same:∀{l:List KK} {a b c d:List Value} {r:Bool},zLr σ a c→zLr σ b d→zCe l a b=some r→zCe l c d=some r:=by
   intro l
   induction l with
   | nil=>
     intro a b c d r h1 h2 h
     cases a<;>cases b<;>simp [zCe] at h
     have:=h1.1;have:=h2.1
     cases c<;>cases d<;>simp_all [zCe]
   | cons k l ih=>
     intro a b c d r h1 h2 h
     cases a with
     | nil=>simp [zCe] at h
     | cons x a=>
       cases b with
       | nil=>simp [zCe] at h
       | cons y b=>
         cases c with
         | nil=>have:=h1.1;simp at this
         | cons x' c=>
           cases d with
           | nil=>have:=h2.1;simp at this
           | cons y' d=>
             simp only [zCe] at h⊢
             have hx:cellEq k x y=cellEq k x' y'∨cellEq k x y=none:=by
              cases k<;>cases hxx:x<;>cases hyy:y<;>first
               | (right;rfl)
               | (left;subst hxx hyy;first | rw [h1.head.int_left,h2.head.int_left] | rw [h1.head.bool_left,h2.head.bool_left] | rw [h1.head.string_left,h2.head.string_left])
             split at h
             ·rename_i p q e1 e2
              cases h
              rcases hx with hx | hx
              ·rw [←hx,e1,ih h1.tail h2.tail e2]
              ·rw [hx] at e1;cases e1
             ·cases h
  refine fin (run_eqGuard_agg w _ t x y xs' ys' hg.1) ?_ (by rintro op (rfl | rfl)<;>simp [binOp])
  exact simple_sound w 20 t l hg.2.1 9980 (.agg xs') (.agg ys') r (fun _=>⟨⟨_,rfl⟩,⟨_,rfl⟩⟩) (fun h=>by rw [hg.2.2] at h;cases h) (same hxl hyl h)
 ·cases h
end
end Go.AM

namespace Go.AM
open Go.MapKept
section
variable {P:Program} {pureF:FuncId→Bool} {Pg:Prg} {W:Nat→Prop} {lim:Nat} {σ:Sig} {H H':zH} {w:World} {dest:Option Nat} {ρ ρ':Operand→Value} {v:Value}
theorem zero_info {t:TypeId} {z:List Value} (h:zeroOf P t=some z):∃i zv,P.info? t=some i∧i.zero=some zv∧z=zv.cells.toList∧(∀x∈z,atom x=true∧x.oneCell'=true):=by
 unfold zeroOf at h
 split at h
 ·rename_i i hi
  split at h
  ·rename_i zv hz
   split at h
   ·rename_i ha
    cases h
    refine ⟨i,zv,hi,hz,rfl,fun x hx=>?_⟩
    have:=List.all_eq_true.1 ha x hx
    simpa using this
   ·cases h
  ·cases h
 ·cases h
theorem size_info {t:TypeId} {n:Nat} (h:zSz P t=some n):∃i,P.info? t=some i∧i.size=n:=by
 simpa [zSz] using h
theorem bytes_info {t:TypeId} {n:Nat} (h:bytesOfT P t=some n):∃i,P.info? t=some i∧i.bytes=n:=by
 simpa [bytesOfT] using h
theorem alloc_sound (hinv:Inv Pg W lim σ H w) (hd:∀d,dest=some d→d<H.length∧σ d=none) {e:TypeId} {z:List Value} (hz:zeroOf P e=some z)
  (hx:aOp lim dest (.alloc z) ρ H=some (v,H')) (o:Oper) (ho:o.op=.alloc e):zOs Pg W lim σ dest H w ((execOp ρ' o).run P w) v H':=by
 obtain ⟨i,zv,hi,hzv,rfl,hat⟩:=zero_info hz
 simp only [aOp] at hx
 cases hp:place dest (.cells false zv.cells.toList) H with
 | mk k K=>
 rw [hp] at hx
 cases hx
 refine zOs.made hinv hd hp (cs:=zv.cells) (el:=e) (fun j x hj=>⟨x,by simpa using hj,.atom (hat x (List.mem_of_getElem? hj)).1,(hat x (List.mem_of_getElem? hj)).2⟩) (by simp) hinv (Stp.refl _ _)
  (v':=.pointer (some ⟨w.heap.size,0,none⟩)) ?_ (by simpa using zVr.ptr (σ:=σ.put k ⟨w.heap.size,0,zv.cells.size⟩) (i:=k) (k:=0) Sig.put_same)
 simp [execOp,ho,Instr.alloc,zeroValue,typeInfo,hi,hzv,newVar,newRow]
theorem box_sound (hinv:Inv Pg W lim σ H w) (hd:∀d,dest=some d→d<H.length∧σ d=none) {e:TypeId} {x:Operand} (hv:zVr σ (ρ x) (ρ' x))
  (hx:aOp lim dest (.box x) ρ H=some (v,H')) (o:Oper) (ho:o.op=.box e x):zOs Pg W lim σ dest H w ((execOp ρ' o).run P w) v H':=by
 simp only [aOp] at hx
 split at hx
 case isFalse=>cases hx
 rename_i ht
 cases hp:place dest (.cells false (ρ x).cells.toList) H with
 | mk k K=>
 rw [hp] at hx
 cases hx
 refine zOs.made hinv hd hp (cs:=(ρ' x).cells) (el:=e) (fun j y hj=>?_) (by have:=hv.cells.1;simp at this;simp;omega) hinv (Stp.refl _ _)
  (v':=.pointer (some ⟨w.heap.size,0,none⟩)) ?_ (by simpa using zVr.ptr (σ:=σ.put k ⟨w.heap.size,0,(ρ' x).cells.size⟩) (i:=k) (k:=0) Sig.put_same)
 ·obtain ⟨y',h1,h2⟩:=hv.cells.get hj
  exact ⟨y',by simpa using h1,h2,hv.cells_one ht y' (List.mem_of_getElem? h1)⟩
 ·simp [execOp,ho,Instr.box,newVar,newRow]
theorem mapM_fields (P:Program) (w:World):∀(fs:List Field),(fs.all fun f=>(P.info? f.type).isSome)=true→
  (fs.mapM fun f=>(do pure (f.offset,←sizeOf f.type):Sem (Nat×Nat))).run P w=.ok (fs.map fun f=>(f.offset,P.cellsOf f.type)) w
 | [],_=>rfl
 | f::fs,h=>by
   simp only [List.all_cons,Bool.and_eq_true] at h
   obtain ⟨i,hi⟩:=Option.isSome_iff_exists.1 h.1
   have ih:=mapM_fields P w fs h.2
   have h1:(do pure (f.offset,←sizeOf f.type):Sem (Nat×Nat)).run P w=.ok (f.offset,P.cellsOf f.type) w:=by simp [sizeOf,typeInfo,hi,Program.cellsOf]
   rw [List.mapM_cons,Sem.run_bind,h1]
   simp only [Result.andThen_ok,Sem.run_bind,ih,Sem.run_pure,List.map_cons]
theorem zero_rel {z:List Value} (h:∀x∈z,atom x=true∧x.oneCell'=true):zLr σ z z:=zLr.refl_of fun x hx=>.atom (h x hx).1
theorem run_mapM_array (P:Program) (w:World) (fs:Array Field) (h:(fs.toList.all fun f=>(P.info? f.type).isSome)=true) :
  (fs.mapM fun f=>(do pure (f.offset,←sizeOf f.type):Sem (Nat×Nat))).run P w=.ok (fs.map fun f=>(f.offset,P.cellsOf f.type)) w:=by
 rw [Array.mapM_eq_mapM_toList]
 rw [Sem.run_map,mapM_fields P w fs.toList h]
 simp only [Result.andThen_ok]
 congr 1
 apply Array.ext'
 simp
theorem build_struct_sound (hinv:Inv Pg W lim σ H w) {t:TypeId} {fs:Array Field} (hu:P.underlying t=some (.struct fs)) {z:List Value} (hz:zeroOf P t=some z) {parts:Array (Nat×Operand)} {ps:List (Nat×Nat×Operand)}
  (hps:parts.toList.mapM (trPart P fs)=some ps) (hall:(fs.toList.all fun f=>(P.info? f.type).isSome)=true) (hρ:∀x,zOo x=true→zVr σ (ρ x) (ρ' x))
  (hx:aOp lim dest (.build z ps) ρ H=some (v,H')) (o:Oper) (ho:o.op=.build t parts):zOs Pg W lim σ dest H w ((execOp ρ' o).run P w) v H':=by
 obtain ⟨i,zv,hi,hzv,rfl,hat⟩:=zero_info hz
 simp only [aOp,Option.map_eq_some_iff,Prod.mk.injEq] at hx
 obtain ⟨c,hc,rfl,rfl⟩:=hx
 have key:parts.toList.length=ps.length∧∀(j:Nat) s p,parts.toList[j]? = some s→ps[j]? = some p→((fs.map fun f=>(f.offset,P.cellsOf f.type))[s.1]? = some (p.1,p.2.1))∧p.2.2=s.2∧zVr σ (ρ s.2) (ρ' s.2):=by
  generalize parts.toList=l at hps
  clear hc ho hz
  induction l generalizing ps with
  | nil=>simp at hps;subst hps;exact ⟨rfl,fun j s p h=>by simp at h⟩
  | cons a l ih=>
    rw [List.mapM_cons] at hps
    simp only [bind,Option.bind_eq_some_iff,pure,Option.some.injEq] at hps
    obtain ⟨q,hq,qs,hqs,rfl⟩:=hps
    obtain ⟨g1,g2⟩:=ih hqs
    refine ⟨by simp [g1],fun j s p hs hp=>?_⟩
    cases j with
    | zero=>
      simp at hs hp;subst hs hp
      simp only [trPart,bind,Option.bind_eq_some_iff] at hq
      obtain ⟨f,hf,n,hn,hq⟩:=hq
      split at hq
      case isFalse=>cases hq
      rename_i hok
      cases hq
      obtain ⟨i2,hi2,hin⟩:=size_info hn
      refine ⟨by simp [hf,Program.cellsOf,hi2,hin],rfl,hρ _ hok⟩
    | succ j=>exact g2 j s p (by simpa using hs) (by simpa using hp)
 obtain ⟨c',h1,h2,h3⟩:=fillParts_sound (σ:=σ) ρ ρ' (fun j=>(fs.map fun f=>(f.offset,P.cellsOf f.type))[j]?) parts.toList ps zv.cells.toList c zv.cells.toList key.1 key.2 hc (zero_rel hat) (fun y hy=>(hat y hy).2)
 refine zOs.plain hinv (v':=.agg c'.toArray) ?_ (zVr.agg_iff.2 ⟨by simpa using h2,by simpa using h3⟩)
 simp only [execOp,ho]
 refine zRv P w _ ?_
 simp only [Instr.build,Sem.run_bind,zeroValue,typeInfo,run_program,Result.andThen_ok,hi,hzv,Sem.run_pure,run_underlying hu,run_mapM_array P w fs hall]
 have e:((parts.map fun x=>(x.1,ρ' x.2)).toList)=parts.toList.map fun x=>(x.1,ρ' x.2):=by simp
 rw [e]
 have e2:(zv.cells.toList).toArray=zv.cells:=by simp
 rw [e2] at h1
 rw [h1]
 simp
theorem build_array_sound (hinv:Inv Pg W lim σ H w) {t e:TypeId} {n:Nat} (hu:P.underlying t=some (.array n e)) {z:List Value} (hz:zeroOf P t=some z) {s:Nat} (hs:zSz P e=some s) {parts:Array (Nat×Operand)}
  (hok:∀x∈parts.toList,zVr σ (ρ x.2) (ρ' x.2))
  (hx:aOp lim dest (.build z (parts.toList.map fun x=>(x.1*s,s,x.2))) ρ H=some (v,H')) (o:Oper) (ho:o.op=.build t parts):zOs Pg W lim σ dest H w ((execOp ρ' o).run P w) v H':=by
 obtain ⟨i,zv,hi,hzv,rfl,hat⟩:=zero_info hz
 simp only [aOp,Option.map_eq_some_iff,Prod.mk.injEq] at hx
 obtain ⟨c,hc,rfl,rfl⟩:=hx
 obtain ⟨c',h1,h2,h3⟩:=fillParts_sound (σ:=σ) ρ ρ' (fun j=>some (j*s,s)) parts.toList _ zv.cells.toList c zv.cells.toList (by simp) (fun j a p ha hp=>by
  rw [List.getElem?_map,ha] at hp
  simp at hp;subst hp
  exact ⟨rfl,rfl,hok a (List.mem_of_getElem? ha)⟩) hc (zero_rel hat) (fun y hy=>(hat y hy).2)
 refine zOs.plain hinv (v':=.agg c'.toArray) ?_ (zVr.agg_iff.2 ⟨by simpa using h2,by simpa using h3⟩)
 simp only [execOp,ho]
 refine zRv P w _ ?_
 simp only [Instr.build,Sem.run_bind,zeroValue,typeInfo,run_program,Result.andThen_ok,hi,hzv,Sem.run_pure,run_underlying hu,run_size hs]
 have e:((parts.map fun x=>(x.1,ρ' x.2)).toList)=parts.toList.map fun x=>(x.1,ρ' x.2):=by simp
 rw [e]
 have e2:(zv.cells.toList).toArray=zv.cells:=by simp
 rw [e2] at h1
 rw [h1]
 simp
theorem buildSlice_sound (hinv:Inv Pg W lim σ H w) (hd:∀d,dest=some d→d<H.length∧σ d=none) {t e:TypeId} {len:Nat} (hu:P.underlying t=some (.slice e)) {z:List Value} (hz:zeroOf P e=some z) {s:Nat} (hs:zSz P e=some s)
  (hzs:z.length=s) (hs0:s≠0) (hlen:len*s≤2 ^ 20) {parts:Array (Nat×Operand)} (hok:∀x∈parts.toList,zVr σ (ρ x.2) (ρ' x.2))
  (hx:aOp lim dest (.buildSlice len ((List.range (len*s)).map fun j=>z.getD (j % z.length) undef) (parts.toList.map fun x=>(x.1*s,s,x.2))) ρ H=some (v,H')) (o:Oper) (ho:o.op=.buildSlice t len parts) :
  zOs Pg W lim σ dest H w ((execOp ρ' o).run P w) v H':=by
 obtain ⟨i,zv,hi,hzv,rfl,hat⟩:=zero_info hz
 simp only [aOp] at hx
 split at hx
 case h_2=>cases hx
 rename_i c hc
 have hzget:∀j,atom (zv.cells.toList.getD (j % zv.cells.toList.length) undef)=true∧(zv.cells.toList.getD (j % zv.cells.toList.length) undef).oneCell'=true:=fun j=>by
  have hj:j % zv.cells.toList.length<zv.cells.toList.length:=Nat.mod_lt _ (by omega)
  rw [List.getD_eq_getElem?_getD,List.getElem?_eq_getElem hj]
  exact hat _ (List.getElem_mem hj)
 have hzr:∀x∈((List.range (len*s)).map fun j=>zv.cells.toList.getD (j % zv.cells.toList.length) undef),atom x=true∧x.oneCell'=true:=fun x hx=>by
  obtain ⟨j,_,rfl⟩:=List.mem_map.1 hx
  exact hzget j
 obtain ⟨c',h1,h2,h3⟩:=fillParts_sound (σ:=σ) ρ ρ' (fun j=>some (j*s,s)) parts.toList _ _ c _ (by simp) (fun j a p ha hp=>by
  rw [List.getElem?_map,ha] at hp
  simp at hp;subst hp
  exact ⟨rfl,rfl,hok a (List.mem_of_getElem? ha)⟩) hc (zero_rel hzr) (fun y hy=>(hzr y hy).2)
 cases hp:place dest (.cells false c) H with
 | mk k K=>
 rw [hp] at hx
 cases hx
 refine zOs.made hinv hd hp (cs:=c'.toArray) (el:=e) (fun j y hj=>?_) (by have:=h2.1;simp;omega) hinv (Stp.refl _ _)
  (v':=.slice (some ⟨w.heap.size,0,none⟩) len len) ?_ ?_
 ·obtain ⟨y',g1,g2⟩:=h2.get hj
  exact ⟨y',by simpa using g1,g2,h3 y' (List.mem_of_getElem? g1)⟩
 ·simp only [execOp,ho]
  refine zRv P w _ ?_
  have hbig:¬(len*s > 2 ^ 24):=by omega
  have e:((parts.map fun x=>(x.1,ρ' x.2)).toList)=parts.toList.map fun x=>(x.1,ρ' x.2):=by simp
  have e3:∀m,(Array.map (fun x=>zv.cells[x % zv.cells.size]!) (Array.range m))=((List.range m).map fun j=>zv.cells.toList.getD (j % zv.cells.toList.length) undef).toArray:=fun m=>by
   apply Array.ext'
   simp only [Array.toList_map,Array.toList_range,Array.length_toList]
   refine List.map_congr_left fun j _=>?_
   have hj:j % zv.cells.size<zv.cells.size:=Nat.mod_lt _ (by simp at hzs;omega)
   rw [List.getD_eq_getElem?_getD,Array.getElem?_toList,Array.getElem?_eq_getElem hj]
   simp [hj]
  by_cases h0:len*s=0
  ·have hl0:len=0:=by
    rcases Nat.mul_eq_zero.1 h0 with h | h
    ·exact h
    ·exact absurd h hs0
   subst hl0
   simp only [Instr.buildSlice,Sem.run_bind,run_underlying hu,Result.andThen_ok,run_size hs,Nat.zero_mul,e]
   simp only [Nat.zero_mul,List.range_zero,List.map_nil] at h1
   have:¬(0 > 2 ^ 24):=by omega
   have e0:∀f:Nat→Value,Array.map f (Array.range 0)=#[]:=fun f=>by apply Array.ext';simp
   simp [e0,h1,newRow]
  ·simp only [Instr.buildSlice,Sem.run_bind,run_underlying hu,Result.andThen_ok,run_size hs,if_neg hbig,if_neg h0,e,zeroValue,typeInfo,run_program,hi,hzv,Sem.run_pure,e3,h1]
   simp [newRow]
 ·have h62:len<2 ^ 62:=by
   have:len*1≤len*s:=Nat.mul_le_mul_left _ (by omega)
   omega
  simpa using zVr.slice (σ:=σ.put k ⟨w.heap.size,0,c'.toArray.size⟩) (i:=k) (k:=0) (n:=len) Sig.put_same h62
end
section
variable {P:Program} {Pg:Prg} {W:Nat→Prop} {lim:Nat} {σ:Sig} {H H':zH} {w:World} {dest:Option Nat} {ρ ρ':Operand→Value} {v:Value}
theorem add_off (a:Addr) (n:Nat) (hs:a.spot=none):a.add n=⟨a.block,a.off+n,none⟩:=by
 obtain ⟨b,o,s⟩:=a
 simp only at hs;subst hs
 unfold Addr.add
 split
 ·rename_i h;subst h;rfl
 ·rfl
theorem zVr.ptr_add {a:Addr} {L:Loc} (hL:σ a.block=some L) (hs:a.spot=none) (n:Nat) :
  zVr σ (.pointer (some (a.add n))) (.pointer (some ((⟨L.blk,L.base+a.off,none⟩:Addr).add n))):=by
 rw [add_off a n hs,add_off _ n rfl]
 have:=zVr.ptr (σ:=σ) (i:=a.block) (k:=a.off+n) hL
 rw [←Nat.add_assoc] at this
 exact this
theorem run_fieldAt {s f:Nat} {fs:Array Field} {fd:Field} {n:Nat} (hu:P.underlying s=some (.struct fs)) (hf:fs[f]? = some fd) (hn:zSz P fd.type=some n) (h0:n≠0) (a:Addr) :
  (Instr.fieldAt s (.pointer (some a)) f).run P w=.ok (.pointer (some (a.add fd.offset))) w:=by
 simp [Instr.fieldAt,run_underlying hu,hf,Instr.sureAddr,fieldPlace,run_size hn,h0]
theorem run_indexAt_slice' {t e:TypeId} {s:Nat} (hu:P.underlying t=some (.slice e)) (hs:zSz P e=some s) (a:Addr) (len cap:Nat) (k:IntKind) (n:Int) (h:0≤n∧n<(len:Int)) :
  (Instr.indexAt t (.slice (some a) len cap) (.int k n)).run P w=.ok (.pointer (some (a.add (n.toNat*s)))) w:=by
 simp [Instr.indexAt,asIntOf,run_underlying hu,run_size hs,h]
theorem run_indexAt_array' {t e:TypeId} {s len:Nat} (hu:P.underlying t=some (.array len e)) (hs:zSz P e=some s) (a:Addr) (k:IntKind) (n:Int) (h:0≤n∧n<(len:Int)) :
  (Instr.indexAt t (.pointer (some a)) (.int k n)).run P w=.ok (.pointer (some (a.add (n.toNat*s)))) w:=by
 simp [Instr.indexAt,asIntOf,run_underlying hu,run_size hs,Instr.sureAddr,h]
theorem run_index_array' {t e:TypeId} {s len:Nat} (hu:P.underlying t=some (.array len e)) (hs:zSz P e=some s) (cs:Array Value) (k:IntKind) (n:Int) (h:0≤n∧n<(len:Int)) :
  (Instr.index t (.agg cs) (.int k n)).run P w=(part e cs (n.toNat*s)).run P w:=by
 simp [Instr.index,asIntOf,run_underlying hu,run_size hs,h]
theorem run_index_string' {t:TypeId} (hu:P.underlying t=some .string) (s:ByteArray) (k:IntKind) (n:Int) {b:UInt8} (h0:0≤n) (h:s.data.toList[n.toNat]? = some b) :
  (Instr.index t (.string s) (.int k n)).run P w=.ok (.int .u8 b.toNat) w:=by
 have h':s[n.toNat]? = some b:=by
  obtain ⟨hl,hb⟩:=List.getElem?_eq_some_iff.1 h
  have hl':n.toNat<s.size:=by simpa using hl
  show (if h:n.toNat<s.size then some s[n.toNat] else none)=some b
  rw [dif_pos hl',←hb]
  rfl
 simp [Instr.index,asIntOf,run_underlying hu,h0,h']
theorem sliceS_sound {t e:TypeId} {s:Nat} (hu:P.underlying t=some (.slice e)) (hs:zSz P e=some s) {x x':Value} (hx:zVr σ x x') {lo hi mx:Option Operand}
  (hρ:∀y∈lo.toList++hi.toList++mx.toList,zVr σ (ρ y) (ρ' y)) (h:aSliceS s ρ x lo hi mx=some v) :
  ∃v',(Instr.sliceAt t x' (lo.map ρ') (hi.map ρ') (mx.map ρ')).run P w=.ok v' w∧zVr σ v v':=by
 unfold aSliceS at h
 split at h
 case h_2=>cases h
 rename_i a len cap
 have run:∀(a':Option Addr) (len' cap' l h' m':Nat),(Instr.sliceBounds true len' cap' (lo.map ρ') (hi.map ρ') (mx.map ρ')).run P w=.ok (l,h',m') w→
   (Instr.sliceAt t (.slice a' len' cap') (lo.map ρ') (hi.map ρ') (mx.map ρ')).run P w=.ok (.slice (if m'=l then a' else a'.map (·.add (l*s))) (h'-l) (m'-l)) w:=by
  intro a' len' cap' l h' m' hb
  simp [Instr.sliceAt,Instr.slice,run_underlying hu,hb,run_size hs]
 cases a with
 | none=>
   obtain ⟨rfl,rfl,rfl⟩:=hx.nilslice_left
   have h62:¬(0=loose s):=by unfold loose;omega
   rw [if_neg h62,if_pos (by omega)] at h
   split at h
   ·cases h
   ·rename_i l h' m hb
    cases h
    obtain ⟨m',r1,r2,r3,r4,r5,r6,r7⟩:=bounds_sound (P:=P) (w:=w) hb hρ (Nat.le_refl _) true
    have hm:m'=m:=by
     by_cases e:mx=none
     ·rw [(r2 e).1,(r2 e).2]
     ·exact r3 e
    subst hm
    have hz:l=0∧h'=0∧m'=0:=by
     by_cases e:hi=none
     ·have:=r6 e;omega
     ·have:=r7 e;omega
    obtain ⟨rfl,rfl,rfl⟩:=hz
    exact ⟨_,run _ _ _ _ _ _ r1,by simpa using zVr.atom (by rfl)⟩
 | some a=>
   obtain ⟨hsp,L,hL,hc⟩:=hx.slice_left
   split at h
   ·
    rename_i hcap
    split at h
    ·cases h
    rename_i l h' m hb
    rcases hc with ⟨hlt,_⟩ | ⟨e',he,c',hn,hr,rfl⟩ | ⟨a',he,hn,rfl⟩
    ·rw [hcap] at hlt;unfold loose at hlt;omega
    ·have hes:e'=s:=by rw [hcap] at he;unfold loose at he;omega
     subst hes
     obtain ⟨m',r1,r2,r3,r4,r5,r6,r7⟩:=bounds_sound (P:=P) (w:=w) hb hρ hn true
     have hh:h'≤len:=by
      by_cases e:hi=none
      ·have:=r6 e;omega
      ·have:=r7 e;omega
     refine ⟨_,run _ _ _ _ _ _ r1, ?_⟩
     cases mx with
     | none=>
       simp only at h;cases h
       obtain ⟨e1,e2⟩:=r2 rfl
       subst e1
       by_cases hml:m'=l
       ·rw [if_pos hml]
        have:h'-l=0:=by omega
        rw [this,hml,Nat.sub_self]
        simp only [Option.map_some]
        rw [add_off a _ hsp]
        exact .eslice hL (.inr ⟨_,rfl⟩)
       ·rw [if_neg hml]
        simp only [Option.map_some]
        rw [add_off a _ hsp,add_off _ _ rfl]
        have key:a.off+l*e'+(m'-l)*e'≤L.room:=by
         have:l*e'+(m'-l)*e'=m'*e':=by rw [←Nat.add_mul];congr 1;omega
         omega
        have:=zVr.lslice (σ:=σ) (i:=a.block) (k:=a.off+l*e') (n:=h'-l) (e:=e') (c:=m'-l) hL (by omega) key
        rw [←Nat.add_assoc] at this
        exact this
     | some z=>
       simp only at h
       split at h
       case isFalse=>cases h
       rename_i hm62
       cases h
       have hmm:=r3 (by simp)
       subst hmm
       split
       ·exact zVr.slice' hsp hL (by omega)
       ·simp only [Option.map_some]
        rw [add_off a _ hsp,add_off _ _ rfl]
        have:=zVr.slice (σ:=σ) (i:=a.block) (k:=a.off+l*e') (n:=h'-l) (c:=m'-l) hL (by omega)
        rw [←Nat.add_assoc] at this
        exact this
    ·subst hn
     obtain ⟨m',r1,r2,r3,r4,r5,r6,r7⟩:=bounds_sound (P:=P) (w:=w) hb hρ (Nat.le_refl _) true
     have hm:m'=m:=by
      by_cases e:mx=none
      ·rw [(r2 e).1,(r2 e).2]
      ·exact r3 e
     subst hm
     have hz:l=0∧h'=0∧m'=0:=by
      by_cases e:hi=none
      ·have:=r6 e;omega
      ·have:=r7 e;omega
     obtain ⟨rfl,rfl,rfl⟩:=hz
     refine ⟨_,run _ _ _ _ _ _ r1, ?_⟩
     cases mx with
     | none=>
       simp only at h;cases h
       simp only [Option.map_some,if_true,Nat.sub_self]
       rw [add_off a _ hsp]
       exact .eslice hL (.inr ⟨_,rfl⟩)
     | some z=>
       simp at h;subst h
       exact zVr.eslice' hsp hL (.inl rfl)
   ·split at h
    case isFalse=>cases h
    rename_i hlt
    split at h
    ·cases h
    rename_i l h' m hb
    cases h
    rcases hc with ⟨_,rfl⟩ | ⟨e',he,_⟩ | ⟨a',he,hn,rfl⟩
    ·obtain ⟨m',r1,r2,r3,r4,r5,r6,r7⟩:=bounds_sound (P:=P) (w:=w) hb hρ (Nat.le_refl _) true
     have hm:m'=m:=by
      by_cases e:mx=none
      ·rw [(r2 e).1,(r2 e).2]
      ·exact r3 e
     subst hm
     refine ⟨_,run _ _ _ _ _ _ r1, ?_⟩
     split
     ·exact zVr.slice' hsp hL (by omega)
     ·simp only [Option.map_some]
      rw [add_off a _ hsp,add_off _ _ rfl]
      have:=zVr.slice (σ:=σ) (i:=a.block) (k:=a.off+l*s) (n:=h'-l) (c:=m'-l) hL (by omega)
      rw [←Nat.add_assoc] at this
      exact this
    ·exact absurd he (by unfold loose at *;omega)
    ·subst hn
     have hc0:cap=0:=by
      rcases he with h | ⟨e,h⟩
      ·exact h
      ·exact absurd h (by unfold loose at *;omega)
     subst hc0
     obtain ⟨m',r1,r2,r3,r4,r5,r6,r7⟩:=bounds_sound (P:=P) (w:=w) hb hρ (Nat.le_refl _) true
     have hm:m'=m:=by
      by_cases e:mx=none
      ·rw [(r2 e).1,(r2 e).2]
      ·exact r3 e
     subst hm
     have hz:l=0∧h'=0∧m'=0:=by
      by_cases e:hi=none
      ·have:=r6 e;omega
      ·have:=r7 e;omega
     obtain ⟨rfl,rfl,rfl⟩:=hz
     refine ⟨_,run _ _ _ _ _ _ r1, ?_⟩
     simp only [if_true,Nat.sub_self]
     exact zVr.eslice' hsp hL (.inl rfl)
end
section
variable {P:Program} {Pg:Prg} {W:Nat→Prop} {lim:Nat} {σ:Sig} {H H':zH} {w:World} {dest:Option Nat} {v:Value}
theorem src_sound (hinv:Inv Pg W lim σ H w) {xt:TypeId} {esz m:Nat} {str:Bool} (hxt:if str then P.underlying xt=some .string∧esz=1 else ∃e',P.underlying xt=some (.slice e')) {x x':Value} (hx:zVr σ x x')
  {new:List Value} (hn:firstCells H esz str x=some new) (hm:lenOf x=some m) :
  ∃news,Src P esz xt x' m news w∧zLr σ new news∧(∀y∈news,y.oneCell'=true)∧new.length=m*esz:=by
 unfold firstCells at hn
 split at hn
 ·rename_i n c
  obtain ⟨rfl,rfl,rfl⟩:=hx.nilslice_left
  simp [lenOf] at hm;subst hm
  split at hn
  ·cases hn
  ·rename_i hs
   cases hn
   simp at hs
   rw [hs] at hxt
   obtain ⟨e',he'⟩:=hxt
   exact ⟨[],Src.ofNil w he' 0,zLr.nil,fun y hy=>by simp at hy,by simp⟩
 ·rename_i a n c
  simp [lenOf] at hm;subst hm
  split at hn
  ·cases hn
  ·rename_i hs
   simp at hs
   rw [hs] at hxt
   obtain ⟨e',he'⟩:=hxt
   obtain ⟨hsp,L,hL,hc⟩:=hx.slice_left
   have norm:∀c',x'=.slice (some ⟨L.blk,L.base+a.off,none⟩) n c'→∃news,Src P esz xt x' n news w∧zLr σ new news∧(∀y∈news,y.oneCell'=true)∧new.length=n*esz:=by
    intro c' hx'
    by_cases h00:n=0
    ·subst h00
     rw [if_pos rfl] at hn;cases hn
     subst hx'
     exact ⟨[],Src.ofSlice w he' _ 0 c' [] (by simp) (fun j u hu=>by simp at hu) (fun u hu=>by simp at hu),zLr.nil,fun y hy=>by simp at hy,by simp⟩
    rw [if_neg h00] at hn
    obtain ⟨l',h1,h2,h3,h4⟩:=hinv.loadCells hL hn
    subst hx'
    refine ⟨l',Src.ofSlice w he' _ n c' l' h2 (fun j u hu=>by rw [Addr.add_mid];exact h4 j u hu) h3,h1,h3,by rw [h1.1,h2]⟩
   rcases hc with ⟨_,hx'⟩ | ⟨e,_,c',_,_,hx'⟩ | ⟨a',_,h0,hx'⟩
   ·exact norm _ hx'
   ·exact norm _ hx'
   ·subst h0 hx'
    rw [if_pos rfl] at hn;cases hn
    exact ⟨[],Src.ofSlice w he' _ 0 0 [] (by simp) (fun j u hu=>by simp at hu) (fun u hu=>by simp at hu),zLr.nil,fun y hy=>by simp at hy,by simp⟩
 ·rename_i s
  simp [lenOf] at hm;subst hm
  split at hn
  case isFalse=>cases hn
  rename_i hs
  cases hn
  rw [if_pos hs] at hxt
  obtain ⟨hxt,rfl⟩:=hxt
  rw [hx.string_left]
  refine ⟨byteCells s,Src.ofString w hxt s,zLr.refl_of fun y hy=>?_,fun y hy=>?_,by simp⟩
  ·obtain ⟨b,_,rfl⟩:=List.mem_map.1 hy;exact .atom rfl
  ·obtain ⟨b,_,rfl⟩:=List.mem_map.1 hy;rfl
 ·cases hn
theorem append_sound (hinv:Inv Pg W lim σ H w) (hd:∀d,dest=some d→d<H.length∧σ d=none) {st xt ty e:TypeId} (hu:P.underlying st=some (.slice e)) {esz bytes:Nat} {str:Bool}
  (hxt:if str then P.underlying xt=some .string∧esz=1 else ∃e',P.underlying xt=some (.slice e')) (hes:zSz P e=some esz) (heb:bytesOfT P e=some bytes) {z:List Value} (hz:zeroOf P e=some z) (hzl:z.length=esz)
  {s s' x x':Value} (hs:zVr σ s s') (hx:zVr σ x x') (h:zAa lim dest esz bytes str s x H=some (v,H')) {run:Result Next}
  (hrun:run=((Builtin.append_ #[st,xt] ty #[s',x']).run P w).andThen fun v w'=>.ok (.value v) w'):zOs Pg W lim σ dest H w run v H':=by
 obtain ⟨i,hi,his⟩:=size_info hes
 obtain ⟨i2,hi2,hib⟩:=bytes_info heb
 rw [hi] at hi2;cases hi2
 obtain ⟨i3,zv,hi3,hzv,hzz,hat⟩:=zero_info hz
 rw [hi] at hi3;cases hi3
 have hzs:zv.cells.size=esz:=by rw [←hzl,hzz];simp
 subst his hib
 unfold zAa at h
 split at h
 case h_2=>cases h
 rename_i base n cap new m hnew hm
 obtain ⟨news,hsrc,hrel,hone,hnl⟩:=src_sound hinv hxt hx hnew hm
 split at h
 ·cases h
 rename_i hcond
 have hc1:i.size≠0:=fun e=>hcond (.inl e)
 have hc2:¬(n+m)*i.bytes > maxBytes:=fun e=>hcond (.inr (.inl e))
 have hc3:¬n+m≥2 ^ 62:=fun e=>hcond (.inr (.inr (.inl e)))
 have hc4:¬cap<n:=fun e=>hcond (.inr (.inr (.inr e)))
 have hbytes:(n+m)*i.bytes≤140737488355328:=by unfold maxBytes at hc2;omega
 split at h
 ·rename_i hm0
  subst hm0
  have hn0:news=[]:=by have:=hrel.1;simp at hnl;subst hnl;simpa using this.symm
  subst hn0
  cases h
  have fin:∀b' n' c',s'=.slice b' n' c'→n'≤c'→zOs Pg W lim σ dest H w run (.slice base n cap) H:=fun b' n' c' hs' hle=>by
   refine zOs.plain hinv (v':=s') ?_ hs
   subst hs'
   rw [hrun,run_append_nothing w st xt ty e i hu hi b' n' c' hle x' hsrc]
   rfl
  cases base with
  | none=>obtain ⟨_,_,hs'⟩:=hs.nilslice_left;exact fin _ _ _ hs' (Nat.le_refl _)
  | some a=>
    obtain ⟨_,L,hL,⟨_,hs'⟩ | ⟨_,_,c',hn,_,hs'⟩ | ⟨_,_,_,hs'⟩⟩:=hs.slice_left
    ·exact fin _ _ _ hs' (by omega)
    ·exact fin _ _ _ hs' hn
    ·exact fin _ _ _ hs' (Nat.le_refl _)
 rename_i hm0
 have hmpos:0<m:=by omega
 have grow:∀(H0:zH) (base':Option Addr) (n' c':Nat) (old olds:List Value) (k:Nat) (K:zH),Inv Pg W lim σ H0 w→H0.length=H.length→s'=.slice base' n' c'→n'=n→zLr σ old olds→(∀y∈olds,y.oneCell'=true)→old.length=n*i.size→
   (Builtin.firstCells i.size n' (.slice base' n' c')).run P w.drew=.ok olds.toArray w.drew→c'<n+m→place dest (.cells false (old++new)) H0=(k,K)→
   zOs Pg W lim σ dest H w run (.slice (some ⟨k,0,none⟩) (n+m) (loose i.size)) K:=by
  intro H0 base' n' c' old olds k K hI hlen hs' hn' hor holdone hol hfirst hlt hp
  subst hs' hn'
  have hg:=run_append_grow_src w st xt ty e i zv hu hi hzv base' n' c' olds hfirst x' m news hsrc hlt (by omega) (growslice_fits hlt hbytes)
  have hge:=grownCap_ge w (n'+m) c' e
  have hd':∀d,dest=some d→d<H0.length∧σ d=none:=fun d e=>by rw [hlen];exact hd d e
  have hsize:(((olds++news).toArray++Builtin.zeroCells zv.cells (grownCap w (n'+m) c' e-(n'+m))).size)=grownCap w (n'+m) c' e*i.size:=by
   simp only [Array.size_append,size_zeroCells,hzs,List.size_toArray,List.length_append,←hor.1,←hrel.1,hol,hnl]
   rw [←Nat.add_mul,←Nat.add_mul];congr 1;omega
  obtain ⟨q1,q2⟩:=hI.drew.alloc (lim:=lim) (el:=e) hp hd' (cs:=(olds++news).toArray++Builtin.zeroCells zv.cells (grownCap w (n'+m) c' e-(n'+m))) (fun j y hj=>by
   obtain ⟨y',h1,h2⟩:=(hor.append hrel).get hj
   refine ⟨y', ?_,h2, ?_⟩
   ·rw [Array.getElem?_append_left (by have:=(List.getElem?_eq_some_iff.1 h1).1;simpa using this)]
    simpa using h1
   ·rcases List.mem_append.1 (List.mem_of_getElem? h1) with h | h
    ·exact holdone _ h
    ·exact hone _ h) (by rw [hsize];simp only [List.length_append,hol,hnl,←Nat.add_mul];exact Nat.mul_le_mul_right _ hge)
  obtain ⟨g1,g2,g3,g4,g5,g6,g7⟩:=place_get hp fun d e=>(hd' d e).1
  refine ⟨_,_,_,_,by rw [hrun,hg];rfl,rfl, ?_,q1,Stp.drew.trans (Stp.alloc hI.drew.fresh _),Sig.le_put q2,fun j hj=>?_,by omega,fun hdn=>?_⟩
  ·have hrm:0+grownCap w (n'+m) c' e*i.size≤((olds++news).toArray++Builtin.zeroCells zv.cells (grownCap w (n'+m) c' e-(n'+m))).size:=by omega
   have:=zVr.lslice (σ:=σ.put k ⟨w.drew.heap.size,0,_⟩) (i:=k) (k:=0) (n:=n'+m) (e:=i.size) (c:=grownCap w (n'+m) c' e) Sig.put_same hge hrm
   simpa [Nat.add_assoc] using this
  ·by_cases e:j=k
   ·subst e
    cases dest with
    | none=>exact .inr ⟨rfl,by rw [g5 rfl,hlen];exact Nat.le_refl _⟩
    | some d=>exact .inl (by rw [(g6 d rfl).1])
   ·simp [Sig.put,e] at hj
  ·cases dest with
   | none=>exact absurd rfl hdn
   | some d=>rw [(g6 d rfl).2,hlen]
 cases base with
 | none=>
   simp only at h
   split at h
   case isFalse=>cases h
   rename_i h0
   obtain ⟨rfl,rfl⟩:=h0
   obtain ⟨_,_,hs'⟩:=hs.nilslice_left
   cases hp:place dest (.cells false new) H with
   | mk k K=>
   rw [hp] at h
   cases h
   have:=grow H none 0 0 [] [] k K hinv rfl hs' rfl zLr.nil (fun y hy=>by simp at hy) (by simp) (run_firstCells_none w.drew i.size 0 0 0) (by omega) (by simpa using hp)
   simpa using this
 | some a=>
   simp only at h
   split at h
   ·cases h
   rename_i old hold
   obtain ⟨hsp,L,hL,hc⟩:=hs.slice_left
   have hol:old.length=n*i.size:=by
    unfold AM.loadCells at hold
    split at hold
    ·split at hold
     ·cases hold;simp;omega
     ·cases hold
    ·cases hold
   obtain ⟨olds,ho1,ho2,ho3,ho4⟩:=hinv.loadCells hL hold
   have hfirst:∀c',(Builtin.firstCells i.size n (.slice (some ⟨L.blk,L.base+a.off,none⟩) n c')).run P w.drew=.ok olds.toArray w.drew:=fun c'=>
    run_firstCells_some w.drew i.size n _ n c' olds ho2 fun j u hu=>by rw [Addr.add_mid];simpa using ho4 j u hu
   have empty:n=0→old=[]:=fun h0=>by subst h0;simpa using hol
   split at h
   ·
    rename_i hcap
    split at h
    case h_2=>cases h
    rename_i cb hb
    split at h
    case isFalse=>cases h
    rename_i hlim
    cases hp:place dest (.cells false (old++new)) (H.set a.block .dead) with
    | mk k K=>
    rw [hp] at h
    cases h
    rcases hc with ⟨hlt,_⟩ | ⟨e',he,c',hn,hr,hs'⟩ | ⟨a',he,hn,hs'⟩
    ·rw [hcap] at hlt;unfold loose at hlt;omega
    ·have hes2:e'=i.size:=by rw [hcap] at he;unfold loose at he;omega
     subst hes2
     by_cases hroom:n+m≤c'
     ·
      have hrm:a.off+old.length+new.length≤L.room:=by
       rw [hol,hnl,Nat.add_assoc,←Nat.add_mul]
       have:(n+m)*i.size≤c'*i.size:=Nat.mul_le_mul_right _ hroom
       omega
      obtain ⟨w',q1,q2,q3,q4⟩:=hinv.appendRoom (P:=P) hb hL hlim (by rw [hol];exact hold) hrel hone hrm hp hd
      obtain ⟨cs,el,fz,hh,hcc,ho⟩:=hinv.cells hb hL
      obtain ⟨hoo1,hoo2,hoo3⟩:=ho rfl
      have hcell:∀j,j<news.length→(w.cell? ⟨L.blk,L.base+a.off+n*i.size+j,none⟩).isSome=true:=fun j hj=>by
       rw [cell_of_heap hh (Array.getElem?_eq_getElem (by have:=hrel.1;omega))];rfl
      have hfz:∀j,j<news.length→w.frozen? ⟨L.blk,L.base+a.off+n*i.size+j,none⟩=false:=fun j hj=>by
       simp only [World.frozen?,hh]
       have:=hoo3.ok (L.base+a.off+n*i.size+j) (by have:=hrel.1;omega)
       obtain ⟨f1,f2⟩:=fz
       simp at this⊢
       exact this
      have hrs:=run_append_room_src w st xt ty e i hu hi L.blk (L.base+a.off) n c' x' m news hsrc hroom hcell hfz
      have hst:=run_storeCells_cells (P:=P) L.blk (L.base+a.off+n*i.size) news 0 w (by simpa using hcell) (by simpa using hfz) hone
      rw [hol] at q1
      rw [Nat.add_zero] at hst
      have hw':w'=w.setCells L.blk (L.base+a.off+n*i.size) news:=by
       have:=q1.symm.trans hst
       simpa using this
      obtain ⟨g1,g2,g3,g4,g5,g6,g7⟩:=place_get hp fun d e=>by simpa using (hd d e).1
      subst hs'
      refine ⟨_,w',_,_,by rw [hrun,hrs,hw'];rfl,rfl, ?_,q2,q3,Sig.le_put q4,fun j hj=>?_,by simpa using g3,fun hdn=>?_⟩
      ·have hrm2:0+c'*i.size≤L.room-a.off:=by omega
       have:=zVr.lslice (σ:=σ.put k ⟨L.blk,L.base+a.off,L.room-a.off⟩) (i:=k) (k:=0) (n:=n+m) (e:=i.size) (c:=c') Sig.put_same hroom hrm2
       simpa using this
      ·by_cases e:j=k
       ·subst e
        cases dest with
        | none=>exact .inr ⟨rfl,by rw [g5 rfl];simp⟩
        | some d=>exact .inl (by rw [(g6 d rfl).1])
       ·simp [Sig.put,e] at hj
      ·cases dest with
       | none=>exact absurd rfl hdn
       | some d=>rw [(g6 d rfl).2];simp
     ·exact grow (H.set a.block .dead) _ n c' old olds k K (hinv.killAny _) (by simp) hs' rfl ho1 ho3 hol (hfirst c') (by omega) hp
    ·subst hn
     have:=empty rfl
     subst this
     have ho0:olds=[]:=by have:=ho1.1;simpa using this.symm
     subst ho0
     exact grow (H.set a.block .dead) (some a') 0 0 [] [] k K (hinv.killAny _) (by simp) hs' rfl zLr.nil (fun y hy=>by simp at hy) (by simp) (run_firstCells_some w.drew i.size 0 _ 0 0 [] (by simp) (fun j u hu=>by simp at hu)) (by omega) hp
   ·split at h
    case isFalse=>cases h
    rename_i hcap hc62
    split at h
    ·
     rename_i hroom
     split at h
     case h_2=>cases h
     rename_i H2 hst
     cases h
     rcases hc with ⟨_,hs'⟩ | ⟨e',he,_⟩ | ⟨a',he,hn,hs'⟩
     ·rw [add_off a _ hsp] at hst
      obtain ⟨w',q1,q2,q3,q4⟩:=hinv.store (P:=P) (p:=⟨a.block,a.off+n*i.size,none⟩) hL hst hrel hone
      unfold storeAt at hst
      split at hst
      case h_2=>cases hst
      rename_i cb hb
      split at hst
      case isFalse=>cases hst
      rename_i hcl
      obtain ⟨cs,el,fz,hh,hcc,ho⟩:=hinv.cells hb hL
      obtain ⟨hoo1,hoo2,hoo3⟩:=ho rfl
      simp only at hcl
      have hcell:∀j,j<news.length→(w.cell? ⟨L.blk,L.base+a.off+n*i.size+j,none⟩).isSome=true:=fun j hj=>by
       rw [cell_of_heap hh (Array.getElem?_eq_getElem (by have:=hrel.1;omega))];rfl
      have hfz:∀j,j<news.length→w.frozen? ⟨L.blk,L.base+a.off+n*i.size+j,none⟩=false:=fun j hj=>by
       simp only [World.frozen?,hh]
       have:=hoo3.ok (L.base+a.off+n*i.size+j) (by have:=hrel.1;omega)
       obtain ⟨f1,f2⟩:=fz
       simp at this⊢
       exact this
      have hrs:=run_append_room_src w st xt ty e i hu hi L.blk (L.base+a.off) n cap x' m news hsrc hroom hcell hfz
      have hst2:=run_storeCells_cells (P:=P) L.blk (L.base+a.off+n*i.size) news 0 w (by simpa using hcell) (by simpa using hfz) hone
      rw [Nat.add_zero] at hst2
      rw [show L.base+(a.off+n*i.size)=L.base+a.off+n*i.size by omega] at q1
      have hw':w'=w.setCells L.blk (L.base+a.off+n*i.size) news:=by
       have:=q1.symm.trans hst2
       simpa using this
      subst hs'
      exact ⟨_,w',σ,_,by rw [hrun,hrs,hw'];rfl,rfl,zVr.slice' hsp hL hc62,q2,q3,Sig.le_refl σ,fun j hj=>absurd rfl hj,by omega,fun _=>q4⟩
     ·exact absurd he (by unfold loose at *;omega)
     ·exact absurd he (by unfold loose at *;omega)
    ·rename_i hroom
     cases hp:place dest (.cells false (old++new)) H with
     | mk k K=>
     rw [hp] at h
     cases h
     rcases hc with ⟨_,hs'⟩ | ⟨e',he,_⟩ | ⟨a',he,hn,hs'⟩
     ·exact grow H _ n cap old olds k K hinv rfl hs' rfl ho1 ho3 hol (hfirst cap) (by omega) hp
     ·exact absurd he (by unfold loose at *;omega)
     ·subst hn
      have:=empty rfl
      subst this
      exact grow H (some a') 0 0 [] [] k K hinv rfl hs' rfl zLr.nil (fun y hy=>by simp at hy) (by simp) (run_firstCells_some w.drew i.size 0 _ 0 0 [] (by simp) (fun j u hu=>by simp at hu)) (by omega) hp
end
section
variable {P:Program} {Pg:Prg} {W:Nat→Prop} {lim:Nat} {σ:Sig} {H H':zH} {w:World} {dest:Option Nat} {ρ ρ':Operand→Value} {v:Value}
theorem intKinds_map:∀{l:List KK} {ks:List IntKind},intKinds l=some ks→l=ks.map .int
 | [],ks,h=>by simp [intKinds] at h;subst h;rfl
 | .int k::l,ks,h=>by
   simp only [intKinds,Option.map_eq_some_iff] at h
   obtain ⟨r,h1,rfl⟩:=h
   rw [intKinds_map h1];rfl
 | .str::l,ks,h=>by simp [intKinds] at h
 | .bool::l,ks,h=>by simp [intKinds] at h
 | .ints _::l,ks,h=>by simp [intKinds] at h
theorem intsEq_cells:∀{ks:List IntKind} {xs ys:List Value} {r:Bool},intsOk ks xs=true→intsEq xs ys=some r→zCe (ks.map .int) xs ys=some r
 | [],[],ys,r,_,h=>by
   cases ys with
   | nil=>simpa [intsEq,zCe] using h
   | cons y ys=>simp [intsEq] at h
 | [],x::xs,ys,r,h1,_=>by simp [intsOk] at h1
 | k::ks,[],ys,r,h1,_=>by simp [intsOk] at h1
 | k::ks,x::xs,ys,r,h1,h=>by
   cases x<;>simp only [intsOk,Bool.false_eq_true] at h1
   rename_i k' a
   rw [Bool.and_eq_true,beq_iff_eq] at h1
   obtain ⟨rfl,h1⟩:=h1
   cases ys with
   | nil=>simp [intsEq] at h
   | cons y ys=>
     cases y<;>simp only [intsEq] at h<;>try (cases h;done)
     rename_i k2 b
     split at h
     ·rename_i hk
      subst hk
      simp only [Option.map_eq_some_iff] at h
      obtain ⟨r',h2,rfl⟩:=h
      have:=intsEq_cells h1 h2
      simp only [List.map_cons,zCe,cellEq,this,and_self,if_true]
     ·cases h
theorem intsOk_length:∀{ks:List IntKind} {xs:List Value},intsOk ks xs=true→xs.length=ks.length
 | [],[],_=>rfl
 | [],x::xs,h=>by simp [intsOk] at h
 | k::ks,[],h=>by simp [intsOk] at h
 | k::ks,x::xs,h=>by
   cases x<;>simp only [intsOk,Bool.false_eq_true] at h
   rw [Bool.and_eq_true] at h
   simp [intsOk_length h.2]
theorem intsEq_true:∀{xs ys:List Value},intsEq xs ys=some true→ys=xs
 | [],[],_=>rfl
 | [],y::ys,h=>by simp [intsEq] at h
 | x::xs,[],h=>by cases x<;>simp [intsEq] at h
 | x::xs,y::ys,h=>by
   cases x<;>cases y<;>simp only [intsEq] at h<;>try (cases h;done)
   split at h
   ·rename_i hk
    subst hk
    simp only [Option.map_eq_some_iff,Bool.and_eq_true,beq_iff_eq] at h
    obtain ⟨r,h1,rfl,rfl⟩:=h
    rw [intsEq_true h1]
   ·cases h
theorem intsOk_rel:∀{ks:List IntKind} {xs ys:List Value},intsOk ks xs=true→zLr σ xs ys→ys=xs
 | [],[],ys,_,h=>by
   have:=h.1
   cases ys with
   | nil=>rfl
   | cons y ys=>simp at this
 | [],x::xs,ys,h,_=>by simp [intsOk] at h
 | k::ks,[],ys,h,_=>by simp [intsOk] at h
 | k::ks,x::xs,ys,h,hr=>by
   cases ys with
   | nil=>have:=hr.1;simp at this
   | cons y ys=>
     cases x<;>simp only [intsOk,Bool.false_eq_true] at h
     rw [Bool.and_eq_true] at h
     rw [intsOk_rel h.2 hr.tail,hr.head.int_left]
theorem isAgg_len {n:Nat} {t:TypeId} {l:List KK} (h:zSk P n t=some l):∃b,isAggT P t=some b∧(b=false→l.length=1):=by
 cases n with
 | zero=>simp [zSk] at h
 | succ n=>
   unfold zSk at h
   unfold isAggT
   cases hu:P.underlying t with
   | none=>simp [hu] at h
   | some dsc=>
     rw [hu] at h
     cases dsc<;>simp at h<;>first
      | (subst h;exact ⟨false,rfl,fun _=>rfl⟩)
      | exact ⟨true,rfl,fun h=>by cases h⟩
theorem run_checkKey_simple (em:Bool) (d:Nat):∀(n:Nat) (t:TypeId) (l:List KK),zSk P n t=some l→∀x,(isAggT P t=some true→∃xs,x=.agg xs∧l.length≤xs.size)→(Instr.checkKey em (d+n) t x).run P w=.ok () w
 | 0,t,l,h,_,_=>by simp [zSk] at h
 | n+1,t,l,h,x,hx=>by
   rw [show d+(n+1)=(d+n)+1 from rfl]
   unfold zSk at h
   split at h
   ·rename_i hu
    simp only [Instr.checkKey,Sem.run_bind,run_underlying hu,Result.andThen_ok]
    cases x<;>rfl
   ·rename_i k hu
    simp only [Instr.checkKey,Sem.run_bind,run_underlying hu,Result.andThen_ok]
    cases x<;>rfl
   ·rename_i hu
    simp only [Instr.checkKey,Sem.run_bind,run_underlying hu,Result.andThen_ok]
    cases x<;>rfl
   ·rename_i len e hu
    split at h
    case h_2=>cases h
    rename_i l1 hl1
    split at h
    case isFalse=>cases h
    rename_i hc
    cases h
    obtain ⟨xs,rfl,hsz⟩:=hx (by simp [isAggT,hu])
    have hue:∃dsc,P.underlying e=some dsc:=by
     cases hd:P.underlying e with
     | some x=>exact ⟨x,rfl⟩
     | none=>cases n<;>simp [zSk,hd] at hl1
    obtain ⟨dsc,hue⟩:=hue
    obtain ⟨i,hi⟩:=info_of_underlying hue
    have hsz1:zSz P e=some l1.length:=by
     rw [hc];simp [zSz,Program.cellsOf,hi]
    have his:i.size=l1.length:=by
     have:=hsz1;simpa [zSz,hi] using this
    obtain ⟨b,hb,hb1⟩:=isAgg_len hl1
    have hlen:(List.replicate len l1).flatten.length=len*l1.length:=by simp
    rw [hlen] at hsz
    simp only [Instr.checkKey,Sem.run_bind,run_underlying hu,Result.andThen_ok]
    simp only [Std.Legacy.Range.forIn_eq_forIn_range',Std.Legacy.Range.size,Nat.sub_zero,Nat.add_one_sub_one,Nat.div_one]
    have each:∀j∈List.range' 0 len,j<len:=fun j hj=>by simpa using (List.mem_range'_1.1 hj).2
    generalize List.range' 0 len=is at each
    induction is with
    | nil=>simp
    | cons j is ih=>
      have hj:=each j (by simp)
      have hjl:j*l1.length+l1.length≤xs.size:=by
       have:=Nat.mul_le_mul_right l1.length (Nat.succ_le_of_lt hj)
       rw [Nat.succ_mul] at this
       omega
      obtain ⟨a,p1,p2,p3,p4⟩:=run_part_seg w e hb hsz1 xs (j*l1.length) hjl hb1
      have q:=run_checkKey_simple em d n e l1 hl1 a (fun ht=>by
       obtain ⟨zs,rfl⟩:=p2 ht
       refine ⟨zs,rfl, ?_⟩
       rw [hb] at ht
       cases ht
       have:=congrArg List.length (p4 rfl)
       simp only [Value.cells,Array.length_toList,List.length_take,List.length_drop] at this
       omega)
      simp only [List.forIn_cons,Sem.run_bind,run_sizeOf w hi,Result.andThen_ok,←hc,p1,q,Sem.run_pure]
      exact ih (fun y hy=>each y (by simp [hy]))
   ·rename_i fs hu
    split at h
    ·cases h
    obtain ⟨xs,rfl,hsz⟩:=hx (by simp [isAggT,hu])
    simp only [Instr.checkKey,Sem.run_bind,run_underlying hu,Result.andThen_ok]
    rw [←Array.forIn_toList]
    have ho:0+l.length≤xs.size∨l=[]:=.inl (by omega)
    clear hx hsz
    generalize fs.toList=L at h
    generalize (0:Nat)=off at h ho
    induction L generalizing off l with
    | nil=>simp
    | cons f L ih=>
      simp only [kindsGo] at h
      split at h
      ·cases h
      rename_i hf
      split at h
      case h_2=>cases h
      rename_i l1 hl1
      split at h
      case isFalse=>cases h
      rename_i hc
      simp only [Option.map_eq_some_iff] at h
      obtain ⟨l2,hl2,rfl⟩:=h
      obtain ⟨hc,hne⟩:=hc
      have hname:f.name≠ "_":=fun e=>hf (.inl e)
      have hoff:f.offset=off:=Decidable.byContradiction fun e=>hf (.inr e)
      have hsz2:off+(l1.length+l2.length)≤xs.size:=by
       rcases ho with h | h
       ·simpa using h
       ·simp at h;exact absurd (by rw [h.1];rfl) hne
      have hue:∃dsc,P.underlying f.type=some dsc:=by
       cases hd:P.underlying f.type with
       | some x=>exact ⟨x,rfl⟩
       | none=>cases n<;>simp [zSk,hd] at hl1
      obtain ⟨dsc,hue⟩:=hue
      obtain ⟨i,hi⟩:=info_of_underlying hue
      have hsz1:zSz P f.type=some l1.length:=by
       rw [hc];simp [zSz,Program.cellsOf,hi]
      obtain ⟨b,hb,hb1⟩:=isAgg_len hl1
      obtain ⟨a,p1,p2,p3,p4⟩:=run_part_seg w f.type hb hsz1 xs off (by omega) hb1
      have q:=run_checkKey_simple em d n f.type l1 hl1 a (fun ht=>by
       obtain ⟨zs,rfl⟩:=p2 ht
       refine ⟨zs,rfl, ?_⟩
       rw [hb] at ht
       cases ht
       have:=congrArg List.length (p4 rfl)
       simp only [Value.cells,Array.length_toList,List.length_take,List.length_drop] at this
       omega)
      simp only [List.forIn_cons,Sem.run_bind,hname,ne_eq,not_false_eq_true,if_true,hoff,p1,q,Result.andThen_ok,Sem.run_pure]
      exact ih l2 (off+l1.length) hl2 (.inl (by omega))
   ·cases h
theorem keyKind_desc {t:TypeId} {kk:KK} (h:keyKind P t=some kk) {x:Value} (hx:keyOk kk x=true) (w:World):(∀e,(Instr.checkKey e 10000 t x).run P w=.ok () w)∧(Instr.keyThatStays x x).run P w=.ok x w∧
  ∃d,P.underlying t=some d∧((IsKey d x∧∀y r,keyEq x y=some r→Instr.sameNow d x y=some r)∨
   ((∀y,Instr.sameNow d x y=none)∧∀y r,keyEq x y=some r→(Op.equal t x y).run P w=.ok r w)):=by
 unfold keyKind at h
 cases hu:P.underlying t with
 | none=>simp [hu] at h
 | some d=>
   rw [hu] at h
   by_cases hw:∃ks cs,kk=.ints ks∧x=.agg cs
   ·obtain ⟨ks,cs,rfl,rfl⟩:=hw
    have hs:zSk P 20 t=some (ks.map .int)∧isAggT P t=some true:=by
     cases d<;>simp at h
     all_goals
      split at h
      ·rename_i l hl
       simp only [Option.map_eq_some_iff,KK.ints.injEq,exists_eq_right] at h
       rw [hl,intKinds_map h]
       exact ⟨rfl,by simp [isAggT,hu]⟩
      ·cases h
    obtain ⟨hs,hag⟩:=hs
    have hok:intsOk ks cs.toList=true:=hx
    have hlen:=intsOk_length hok
    refine ⟨fun e=>?_, ?_,d,rfl,.inr ⟨fun y=>?_,fun y r hr=>?_⟩⟩
    ·exact run_checkKey_simple (w:=w) e 9980 20 t _ hs (.agg cs) (fun _=>⟨cs,rfl,by rw [List.length_map,←hlen];simp⟩)
    ·have hsb:Instr.sameBits 10000 (.agg cs) (.agg cs)=true:=by
      show Instr.sameBits (9999+1) (.agg cs) (.agg cs)=true
      simp only [Instr.sameBits,beq_self_eq_true,Bool.true_and,List.all_eq_true]
      intro p hp
      have key:∀(ks:List IntKind) (xs:List Value),intsOk ks xs=true→∀p∈xs.zip xs,Instr.sameBits 9999 p.1 p.2=true:=by
       intro ks
       induction ks with
       | nil=>
         intro xs h p hp
         cases xs with
         | nil=>simp at hp
         | cons x xs=>simp [intsOk] at h
       | cons k ks ih=>
         intro xs h p hp
         cases xs with
         | nil=>simp at hp
         | cons x xs=>
           cases x<;>simp only [intsOk,Bool.false_eq_true] at h
           rw [Bool.and_eq_true] at h
           rw [List.zip_cons_cons,List.mem_cons] at hp
           rcases hp with rfl | hp
           ·simp [Instr.sameBits]
           ·exact ih xs h.2 p hp
      exact key ks _ hok p hp
     simp [Instr.keyThatStays,hsb]
    ·cases d<;>rfl
    ·cases y<;>simp only [keyEq] at hr<;>try (cases hr;done)
     rename_i ys
     have:=simple_sound w 20 t _ hs 9980 (.agg cs) (.agg ys) r (fun _=>⟨⟨_,rfl⟩,⟨_,rfl⟩⟩) (fun hf=>by rw [hag] at hf;cases hf) (intsEq_cells hok hr)
     exact this
   ·have hk:IsKey d x∧∀y r,keyEq x y=some r→Instr.sameNow d x y=some r:=by
     constructor
     ·cases d<;>simp at h<;>first
       | (subst h;cases x<;>simp_all [keyOk,IsKey];done)
       | (split at h
          ·rename_i l hl
           cases hi:intKinds l with
           | none=>simp [hi] at h
           | some ks=>
             simp [hi] at h
             subst h
             cases x<;>simp [keyOk] at hx
             exact absurd ⟨_,_,rfl,rfl⟩ hw
          ·cases h)
     ·intro y r hr
      cases d<;>simp at h<;>first
       | (subst h;cases x<;>simp [keyOk] at hx<;>cases y<;>simp_all [keyEq,Instr.sameNow];done)
       | (split at h
          ·rename_i l hl
           cases hi:intKinds l with
           | none=>simp [hi] at h
           | some ks=>
             simp [hi] at h
             subst h
             cases x<;>simp [keyOk] at hx
             exact absurd ⟨_,_,rfl,rfl⟩ hw
          ·cases h)
    exact ⟨fun e=>MapKept.run_checkKey hu hk.1 e 9999,run_keyThatStays hk.1,d,rfl,.inl hk⟩
theorem keyEq_rel {x:Value} {kk:KK} (hx:keyOk kk x=true) {y:Value} (h:zVr σ x y):y=x:=by
 cases kk<;>cases x<;>simp [keyOk] at hx<;>first
  | exact h.int_left
  | exact h.string_left
  | exact h.bool_left
  | (obtain ⟨ys,rfl,hl,_⟩:=h.agg_left
     have:=intsOk_rel hx hl
     congr 1
     exact Array.toList_inj.1 this)
theorem keyEq_true {a b:Value} (h:keyEq a b=some true):b=a:=by
 unfold keyEq at h
 split at h
 ·split at h
  ·rename_i hk;subst hk
   simp at h;rw [h]
  ·cases h
 ·rename_i a b
  have h2:(a == b)=true:=by simpa using h
  rw [beq_toListBytes,ByteArray.toList_eq,ByteArray.toList_eq] at h2
  have h3:a.data.toList=b.data.toList:=by simpa using h2
  obtain ⟨⟨x⟩⟩:=a
  obtain ⟨⟨y⟩⟩:=b
  simp at h3
  rw [h3]
 ·simp at h;rw [h]
 ·congr 1
  exact Array.toList_inj.1 (intsEq_true h)
 ·cases h
theorem findKey_sound {t:TypeId} {kk:KK} (hk:keyKind P t=some kk) {x:Value} (hx:keyOk kk x=true) {es:List (Value×Value)} {ents:Array MapEntry} (hlen:ents.size=es.length)
  (hrel:∀(j:Nat) e e',es[j]? = some e→ents[j]? = some e'→e.1=e'.key∧zVr σ e.2 e'.val) {r:Option (Nat×Value)} (h:findKey x es 0=some r) :
  (Instr.findKey t x ents.toList).run P w=.ok (r.map fun p=>(p.1,(ents.getD p.1 default).val)) w∧
   (∀p,r=some p→∃e e',es[p.1]? = some e∧ents[p.1]? = some e'∧e.2=p.2∧keyEq x e.1=some true):=by
 obtain ⟨_,_,d,hd,hcase⟩:=keyKind_desc hk hx w
 have found:∀(es:List (Value×Value)) (l:List MapEntry) (i:Nat),l.length=es.length→∀r,findKey x es i=some r→∀p,r=some p→i≤p.1∧∃e e',es[p.1-i]? = some e∧l[p.1-i]? = some e'∧e.2=p.2∧keyEq x e.1=some true:=by
  intro es
  induction es with
  | nil=>intro l i _ r hr p hp;simp [findKey] at hr;subst hr;cases hp
  | cons a es ih=>
    intro l i hl r hr p hp
    cases l with
    | nil=>simp at hl
    | cons b l=>
      obtain ⟨k',v'⟩:=a
      simp only [findKey] at hr
      split at hr
      ·rename_i he
       cases hr
       cases hp
       exact ⟨Nat.le_refl _,(k',v'),b,by simp,by simp,rfl,he⟩
      ·obtain ⟨h1,e,e',h2,h3,h4,h5⟩:=ih l (i+1) (by simpa using hl) r hr p hp
       refine ⟨by omega,e,e', ?_, ?_,h4,h5⟩
       ·rw [show p.1-i=(p.1-(i+1))+1 by omega];simpa using h2
       ·rw [show p.1-i=(p.1-(i+1))+1 by omega];simpa using h3
      ·cases hr
 have hj0:∀(j:Nat) e e',es[j]? = some e→ents.toList[j]? = some e'→e.1=e'.key:=fun j e e' h1 h2=>(hrel j e e' h1 (by simpa using h2)).1
 have hl0:ents.toList.length=es.length:=by simpa using hlen
 refine ⟨?_,fun p hp=>?_⟩
 ·rcases hcase with ⟨_,hsame⟩ | ⟨hnone,heq⟩
  ·have key:∀(es:List (Value×Value)) (l:List MapEntry) (i:Nat),l.length=es.length→(∀(j:Nat) e e',es[j]? = some e→l[j]? = some e'→e.1=e'.key)→∀r,findKey x es i=some r→
     Instr.findNow d x l i=some (r.map fun p=>(p.1,(l.getD (p.1-i) default).val)):=by
    intro es
    induction es with
    | nil=>
      intro l i hl _ r hr
      have:l=[]:=by simpa using hl
      subst this
      simp [findKey] at hr;subst hr
      rfl
    | cons a es ih=>
      intro l i hl hj r hr
      cases l with
      | nil=>simp at hl
      | cons b l=>
        have hfd:=found (a::es) (b::l) i hl r hr
        obtain ⟨k',v'⟩:=a
        have hkb:k'=b.key:=hj 0 (k',v') b rfl rfl
        simp only [findKey] at hr
        split at hr
        ·rename_i he
         cases hr
         have:=hsame _ _ he
         rw [hkb] at this
         simp [Instr.findNow,this]
        ·rename_i he
         have hs:=hsame _ _ he
         rw [hkb] at hs
         have g1:=ih l (i+1) (by simpa using hl) (fun j e e' h1 h2=>hj (j+1) e e' (by simpa using h1) (by simpa using h2)) r hr
         have g2:=found es l (i+1) (by simpa using hl) r hr
         simp only [Instr.findNow,hs,g1]
         cases r with
         | none=>rfl
         | some p=>
           obtain ⟨h1,_⟩:=g2 p rfl
           simp only [Option.map_some]
           rw [show p.1-i=(p.1-(i+1))+1 by omega]
           rfl
        ·cases hr
   have g1:=key es ents.toList 0 hl0 hj0 r h
   have:=run_findKey (w:=w) (kt:=t) hd g1
   rw [this]
   cases r with
   | none=>rfl
   | some p=>simp
  ·
   have key:∀(es:List (Value×Value)) (l:List MapEntry) (i:Nat),l.length=es.length→(∀(j:Nat) e e',es[j]? = some e→l[j]? = some e'→e.1=e'.key)→∀r,findKey x es i=some r→
     (Instr.findAsking t x l i).run P w=.ok (r.map fun p=>(p.1,(l.getD (p.1-i) default).val)) w:=by
    intro es
    induction es with
    | nil=>
      intro l i hl _ r hr
      have:l=[]:=by simpa using hl
      subst this
      simp [findKey] at hr;subst hr
      simp [Instr.findAsking]
    | cons a es ih=>
      intro l i hl hj r hr
      cases l with
      | nil=>simp at hl
      | cons b l=>
        obtain ⟨k',v'⟩:=a
        have hkb:k'=b.key:=hj 0 (k',v') b rfl rfl
        simp only [findKey] at hr
        split at hr
        ·rename_i he
         cases hr
         have:=heq _ _ he
         rw [hkb] at this
         simp [Instr.findAsking,this]
        ·rename_i he
         have hs:=heq _ _ he
         rw [hkb] at hs
         have g1:=ih l (i+1) (by simpa using hl) (fun j e e' h1 h2=>hj (j+1) e e' (by simpa using h1) (by simpa using h2)) r hr
         have g2:=found es l (i+1) (by simpa using hl) r hr
         simp only [Instr.findAsking,Sem.run_bind,hs,Result.andThen_ok,Bool.false_eq_true,if_false,g1]
         cases r with
         | none=>rfl
         | some p=>
           obtain ⟨h1,_⟩:=g2 p rfl
           simp only [Option.map_some]
           rw [show p.1-i=(p.1-(i+1))+1 by omega]
           rfl
        ·cases hr
   have g1:=key es ents.toList 0 hl0 hj0 r h
   have hfn:Instr.findNow d x ents.toList 0=none∨ents.toList=[]:=by
    cases ents.toList with
    | nil=>exact .inr rfl
    | cons b l=>exact .inl (by simp [Instr.findNow,hnone])
   rcases hfn with hfn | hfn
   ·simp only [Instr.findKey,Sem.run_bind,run_underlying hd,Result.andThen_ok,hfn,g1]
    cases r with
    | none=>rfl
    | some p=>simp
   ·have hes:es=[]:=by rw [hfn] at hl0;simpa using hl0.symm
    subst hes
    simp [findKey] at h
    subst h
    rw [hfn]
    simp [Instr.findKey,run_underlying hd,Instr.findNow]
 ·obtain ⟨_,e,e',h2,h3,h4,h5⟩:=found es ents.toList 0 hl0 r h p hp
  exact ⟨e,e',by simpa using h2,by simpa using h3,h4,h5⟩
theorem Inv.entries (h:Inv Pg W lim σ H w) {m m':Value} (hm:zVr σ m m') {es:List (Value×Value)} (he:mapEntries H m=some es) :
  (m'=.map none∧es=[])∨∃(r:Nat) (L:Loc) (ents:Array MapEntry) (clock:Nat),m=.map (some r)∧zG H r=.map es∧σ r=some L∧m'=.map (some L.blk)∧w.heap[L.blk]? = some (.map ents clock)∧ents.size=es.length∧
   ∀(j:Nat) e e',es[j]? = some e→ents[j]? = some e'→e.1=e'.key∧zVr σ e.2 e'.val:=by
 unfold mapEntries at he
 split at he
 ·cases he;exact .inl ⟨hm.nilmap_left,rfl⟩
 ·rename_i r
  split at he
  ·rename_i es' hb
   cases he
   obtain ⟨L,hL,rfl⟩:=hm.map_left
   obtain ⟨L',h1,ents,clock,h2,h3,h4,_⟩:=h.blk r _ (hget_some hb rfl) rfl
   rw [hL] at h1;cases h1
   exact .inr ⟨r,L,ents,clock,rfl,hb,hL,rfl,h2,h3,h4⟩
  ·cases he
 ·cases he
theorem Inv.stamps (h:Inv Pg W lim σ H w) {r:Nat} {L:Loc} {es:List (Value×Value)} {ents:Array MapEntry} {clock:Nat} (hb:zG H r=.map es) (hL:σ r=some L) (hh:w.heap[L.blk]? = some (.map ents clock)):Stamps es.length clock ents:=by
 obtain ⟨L',h1,ents',clock',h2,h3,h4,h5⟩:=h.blk r _ (hget_some hb rfl) rfl
 rw [hL] at h1;cases h1
 rw [hh] at h2;cases h2
 exact h5
theorem zeroVal_info {t:TypeId} {z:Value} (h:zeroVal P t=some z):∃i,P.info? t=some i∧i.zero=some z∧∀τ,zVr τ z z:=by
 unfold zeroVal at h
 split at h
 ·rename_i i hi
  split at h
  ·rename_i zv hz
   split at h
   ·rename_i ha
    cases h
    refine ⟨i,hi,hz,fun τ=>?_⟩
    have hc:∀x∈z.cells.toList,atom x=true∧x.oneCell'=true:=fun x hx=>by
     have:=List.all_eq_true.1 ha x hx
     simpa using this
    by_cases hag:∃cs,z=.agg cs
    ·obtain ⟨cs,rfl⟩:=hag
     exact zVr.agg_iff.2 ⟨zLr.refl_of fun x hx=>.atom (hc x hx).1,fun y hy=>(hc y hy).2⟩
    ·refine .atom (hc z ?_).1
     cases z<;>first | (exact absurd ⟨_,rfl⟩ hag) | simp [Value.cells]
   ·cases h
  ·cases h
 ·cases h
theorem lookup_sound (hinv:Inv Pg W lim σ H w) {t kt e:TypeId} (hu:P.underlying t=some (.map kt e)) {kk:KK} (hk:keyKind P kt=some kk) {z:Value} (hz:zeroVal P e=some z)
  {ok:Bool} {m key:Operand} (hm:zVr σ (ρ m) (ρ' m)) (hkey:zVr σ (ρ key) (ρ' key))
  (hx:aOp lim dest (.lookup kk z ok m key) ρ H=some (v,H')) (o:Oper) (ho:o.op=.lookup t m key ok):zOs Pg W lim σ dest H w ((execOp ρ' o).run P w) v H':=by
 obtain ⟨i,hi,hzv,hzr⟩:=zeroVal_info hz
 simp only [aOp] at hx
 split at hx
 case h_2=>cases hx
 rename_i es hes
 split at hx
 case isFalse=>cases hx
 rename_i hko
 obtain ⟨hck,hst,d,hd,_⟩:=keyKind_desc hk hko w
 have hke:=keyEq_rel hko hkey
 have zrun:(zeroValue e).run P w=.ok z w:=by simp [zeroValue,typeInfo,hi,hzv]
 have pack:∀{a b:Value} {c:Bool},zVr σ a b→zVr σ (if ok then .tuple #[a,.bool c] else a) (if ok then .tuple #[b,.bool c] else b):=by
  intro a b c h
  cases ok
  ·exact h
  ·exact zVr.tuple_iff.2 (zLr.cons h (zLr.cons (.atom rfl) zLr.nil))
 rcases hinv.entries hm hes with ⟨hm',rfl⟩ | ⟨r,L,ents,clock,hm0,hb,hL,hm',hh,hlen,hrel⟩
 ·simp [findKey] at hx
  obtain ⟨rfl,rfl⟩:=hx
  refine zOs.plain hinv (v':=if ok then .tuple #[z,.bool false] else z) ?_ (pack (hzr σ))
  simp only [execOp,ho]
  refine zRv P w _ ?_
  rw [hm',hke]
  simp [Instr.lookup,run_underlying hu,hck,Instr.findKey,run_underlying hd,Instr.findNow,zrun]
 ·have hf0:∃res,findKey (ρ key) es 0=some res:=by
   cases hf:findKey (ρ key) es 0 with
   | none=>simp [hf] at hx
   | some res=>exact ⟨res,rfl⟩
  obtain ⟨res,hf⟩:=hf0
  obtain ⟨g1,g2⟩:=findKey_sound (P:=P) (w:=w) (σ:=σ) hk hko hlen hrel hf
  cases res with
  | none=>
    simp [hf] at hx
    obtain ⟨rfl,rfl⟩:=hx
    refine zOs.plain hinv (v':=if ok then .tuple #[z,.bool false] else z) ?_ (pack (hzr σ))
    simp only [execOp,ho]
    refine zRv P w _ ?_
    rw [hm',hke]
    simp only [Option.map_none] at g1
    simp [Instr.lookup,run_underlying hu,MapKept.run_getObj_map hh,hck,g1,zrun]
  | some p=>
    obtain ⟨e1,e2,q1,q2,q3,q4⟩:=g2 p rfl
    obtain ⟨p1,p2⟩:=p
    simp [hf] at hx
    obtain ⟨rfl,rfl⟩:=hx
    simp only at q1 q2 q3
    have hval:(ents.getD p1 default).val=e2.val:=by rw [Array.getD_eq_getD_getElem?,q2];rfl
    refine zOs.plain hinv (v':=if ok then .tuple #[e2.val,.bool true] else e2.val) ?_ (pack (by rw [←q3];exact (hrel _ _ _ q1 q2).2))
    simp only [execOp,ho]
    refine zRv P w _ ?_
    rw [hm',hke]
    simp only [Option.map_some,hval] at g1
    simp [Instr.lookup,run_underlying hu,MapKept.run_getObj_map hh,hck,g1]
theorem Inv.setMap (h:Inv Pg W lim σ H w) {r:Nat} {L:Loc} {es es':List (Value×Value)} (hb:zG H r=.map es) (hL:σ r=some L) (hlim:lim≤r) {ents:Array MapEntry} {clock:Nat} (hlt:L.blk<w.heap.size) (hlen:ents.size=es'.length)
  (hrel:∀(j:Nat) e e',es'[j]? = some e→ents[j]? = some e'→e.1=e'.key∧zVr σ e.2 e'.val) (hst:Stamps es'.length clock ents) :
  Inv Pg W lim σ (H.set r (.map es')) { w with heap:=w.heap.setIfInBounds L.blk (.map ents clock) }∧Stp W w { w with heap:=w.heap.setIfInBounds L.blk (.map ents clock) }:=by
 have hbs:=hget_some hb rfl
 have hs:({ w with heap:=w.heap.setIfInBounds L.blk (.map ents clock) }:World).heap.size=w.heap.size:=by simp
 have hh:∀k,k≠L.blk→({ w with heap:=w.heap.setIfInBounds L.blk (.map ents clock) }:World).heap[k]? = w.heap[k]?:=fun k hk=>by
  simp [Array.getElem?_setIfInBounds,Ne.symm hk]
 refine ⟨h.rewrite hbs rfl hlim hL hs hh ⟨ents,clock, ?_,hlen,hrel,hst⟩ (fun _=>rfl),Stp.one (h.wr _ _ _ hbs rfl hlim hL) hh hs rfl rfl ⟨rfl,Nat.le_refl _⟩⟩
 simp [hlt]
theorem mapUpdate_run (hinv:Inv Pg W lim σ H w) {t kt e:TypeId} (hu:P.underlying t=some (.map kt e)) {kk:KK} (hk:keyKind P kt=some kk) {m key x:Operand} (hm:zVr σ (ρ m) (ρ' m)) (hkey:zVr σ (ρ key) (ρ' key)) (hval:zVr σ (ρ x) (ρ' x))
  (hx:aOp lim dest (.mapUpdate kk m key x) ρ H=some (v,H')):∃w',(Instr.mapUpdate t (ρ' m) (ρ' key) (ρ' x)).run P w=.ok () w'∧Inv Pg W lim σ H' w'∧Stp W w w'∧H'.length=H.length∧v=undef:=by
 simp only [aOp] at hx
 split at hx
 case h_2=>cases hx
 rename_i r hr
 split at hx
 case h_2=>cases hx
 rename_i es hb
 split at hx
 case isFalse=>cases hx
 rename_i hcond
 obtain ⟨hko,hlim⟩:=hcond
 obtain ⟨hck,hst,d,hd,_⟩:=keyKind_desc hk hko w
 have hke:=keyEq_rel hko hkey
 have hes:mapEntries H (ρ m)=some es:=by rw [hr];simp [mapEntries,hb]
 rcases hinv.entries hm hes with ⟨hm',rfl⟩ | ⟨r',L,ents,clock,hm0,hb',hL,hm',hh,hlen,hrel⟩
 ·rw [hr] at hm;obtain ⟨L,_,h2⟩:=hm.map_left;rw [hm'] at h2;cases h2
 rw [hr] at hm0;cases hm0
 have hlt:L.blk<w.heap.size:=(Array.getElem?_eq_some_iff.1 hh).1
 have hf0:∃res,findKey (ρ key) es 0=some res:=by
  cases hf:findKey (ρ key) es 0 with
  | none=>simp [hf] at hx
  | some res=>exact ⟨res,rfl⟩
 obtain ⟨res,hf⟩:=hf0
 obtain ⟨g1,g2⟩:=findKey_sound (P:=P) (w:=w) (σ:=σ) hk hko hlen hrel hf
 rw [hm',hke]
 cases res with
 | none=>
   simp [hf] at hx
   obtain ⟨rfl,rfl⟩:=hx
   obtain ⟨i1,i2⟩:=hinv.setMap (es':=es++[(ρ key,ρ x)]) hb hL hlim (ents:=ents.push { key:=ρ key,val:=ρ' x,born:=clock }) (clock:=clock+1) hlt (by simp [hlen]) (fun j a b ha hb2=>by
    by_cases hj:j<es.length
    ·rw [List.getElem?_append_left hj] at ha
     rw [Array.getElem?_push,if_neg (by omega)] at hb2
     exact hrel j a b ha hb2
    ·have hj2:j=es.length:=by
      have:=(List.getElem?_eq_some_iff.1 ha).1
      simp at this;omega
     subst hj2
     simp at ha
     rw [←hlen] at hb2
     simp at hb2
     subst ha hb2
     exact ⟨rfl,hval⟩) (by
    obtain ⟨t1,t2⟩:=hinv.stamps hb hL hh
    refine ⟨by simp [t1],fun j e hj=>?_⟩
    rw [Array.getElem?_push] at hj
    split at hj
    ·cases hj;simp only;omega
    ·exact t2 j e hj)
   simp only [Option.map_none] at g1
   exact ⟨_,by simp [Instr.mapUpdate,run_underlying hu,MapKept.run_getObj_map hh,hck,g1,MapKept.run_setObj_map _ hh],i1,i2,by simp,rfl⟩
 | some p=>
   obtain ⟨p1,p2⟩:=p
   obtain ⟨e1,e2,q1,q2,q3,q4⟩:=g2 _ rfl
   simp only at q1 q2 q3
   simp [hf] at hx
   obtain ⟨rfl,rfl⟩:=hx
   have hkk:e2.key=ρ key:=by
    rw [←(hrel _ _ _ q1 q2).1]
    exact keyEq_true q4
   have hp1:p1<ents.size:=(Array.getElem?_eq_some_iff.1 q2).1
   obtain ⟨i1,i2⟩:=hinv.setMap (es':=es.set p1 (ρ key,ρ x)) hb hL hlim (ents:=ents.modify p1 fun e=>{ e with key:=ρ key,val:=ρ' x }) (clock:=clock) hlt (by simp [hlen]) (fun j a b ha hb2=>by
    rw [List.getElem?_set] at ha
    rw [Array.getElem?_modify] at hb2
    by_cases hj:p1=j
    ·subst hj
     rw [if_pos rfl,if_pos (by rw [←hlen];exact hp1)] at ha
     rw [if_pos rfl,q2] at hb2
     simp at ha hb2
     subst ha hb2
     exact ⟨rfl,hval⟩
    ·rw [if_neg hj] at ha
     rw [if_neg hj] at hb2
     exact hrel j a b ha hb2) (by
    obtain ⟨t1,t2⟩:=hinv.stamps hb hL hh
    refine ⟨by simp [t1],fun j e hj=>?_⟩
    rw [Array.getElem?_modify] at hj
    split at hj
    ·simp only [Option.map_eq_some_iff] at hj
     obtain ⟨a,ha,rfl⟩:=hj
     exact t2 j a ha
    ·exact t2 j e hj)
   simp only [Option.map_some] at g1
   have hq:((ents[p1]?).map (·.key)).getD (ρ key)=ρ key:=by rw [q2];simp [hkk]
   refine ⟨_, ?_,i1,i2,by simp,rfl⟩
   simp only [Instr.mapUpdate,Sem.run_bind,run_underlying hu,Result.andThen_ok,MapKept.run_getObj_map hh,hck,g1,hq]
   rw [hst]
   simp [MapKept.run_setObj_map _ hh]
theorem mapEntry_run (hinv:Inv Pg W lim σ H w) {t kt e:TypeId} (hu:P.underlying t=some (.map kt e)) {kk:KK} (hk:keyKind P kt=some kk) {z:Value} (hz:zeroVal P e=some z) {m key:Operand} (hm:zVr σ (ρ m) (ρ' m)) (hkey:zVr σ (ρ key) (ρ' key))
  (hx:aOp lim dest (.mapEntry kk z m key) ρ H=some (v,H')):∃v' w',(Instr.mapEntry t (ρ' m) (ρ' key)).run P w=.ok v' w'∧zVr σ v v'∧Inv Pg W lim σ H' w'∧Stp W w w'∧H'.length=H.length:=by
 simp only [aOp] at hx
 split at hx
 case h_2=>cases hx
 rename_i r hr
 split at hx
 case h_2=>cases hx
 rename_i es hb
 split at hx
 case isFalse=>cases hx
 rename_i hcond
 obtain ⟨hko,hlim⟩:=hcond
 obtain ⟨hck,hst,d,hd,_⟩:=keyKind_desc hk hko w
 have hke:=keyEq_rel hko hkey
 have hes:mapEntries H (ρ m)=some es:=by rw [hr];simp [mapEntries,hb]
 rcases hinv.entries hm hes with ⟨hm',rfl⟩ | ⟨r',L,ents,clock,hm0,hb',hL,hm',hh,hlen,hrel⟩
 ·rw [hr] at hm;obtain ⟨L,_,h2⟩:=hm.map_left;rw [hm'] at h2;cases h2
 rw [hr] at hm0;cases hm0
 have hlt:L.blk<w.heap.size:=(Array.getElem?_eq_some_iff.1 hh).1
 obtain ⟨t1,t2⟩:=hinv.stamps hb hL hh
 have hf0:∃res,findKey (ρ key) es 0=some res:=by
  cases hf:findKey (ρ key) es 0 with
  | none=>simp [hf] at hx
  | some res=>exact ⟨res,rfl⟩
 obtain ⟨res,hf⟩:=hf0
 obtain ⟨g1,g2⟩:=findKey_sound (P:=P) (w:=w) (σ:=σ) hk hko hlen hrel hf
 obtain ⟨zi,hzi,hzv,hzr⟩:=zeroVal_info hz
 have zrun:(zeroValue e).run P w=.ok z w:=by simp [zeroValue,typeInfo,hzi,hzv]
 rw [hm',hke]
 cases res with
 | none=>
   simp [hf] at hx
   obtain ⟨rfl,rfl⟩:=hx
   obtain ⟨i1,i2⟩:=hinv.setMap (es':=es++[(ρ key,z)]) hb hL hlim (ents:=ents.push { key:=ρ key,val:=z,born:=clock }) (clock:=clock+1) hlt (by simp [hlen]) (fun j a b ha hb2=>by
    by_cases hj:j<es.length
    ·rw [List.getElem?_append_left hj] at ha
     rw [Array.getElem?_push,if_neg (by omega)] at hb2
     exact hrel j a b ha hb2
    ·have hj2:j=es.length:=by
      have:=(List.getElem?_eq_some_iff.1 ha).1
      simp at this;omega
     subst hj2
     simp at ha
     rw [←hlen] at hb2
     simp at hb2
     subst ha hb2
     exact ⟨rfl,hzr σ⟩) (by
    refine ⟨by simp [t1],fun j e hj=>?_⟩
    rw [Array.getElem?_push] at hj
    split at hj
    ·cases hj;simp only;omega
    ·exact t2 j e hj)
   simp only [Option.map_none] at g1
   refine ⟨.tuple #[z,goInt clock],_,by simp [Instr.mapEntry,run_underlying hu,MapKept.run_getObj_map hh,hck,g1,zrun,MapKept.run_setObj_map _ hh], ?_,i1,i2,by simp⟩
   have:(clock:Int)=(es.length:Int):=by omega
   rw [show goInt (clock:Int)=.int .i64 (es.length:Int) by rw [this];rfl]
   exact zVr.tuple_iff.2 (zLr.cons (hzr σ) (zLr.cons (.atom rfl) zLr.nil))
 | some p=>
   obtain ⟨p1,p2⟩:=p
   obtain ⟨e1,e2,q1,q2,q3,q4⟩:=g2 _ rfl
   simp only at q1 q2 q3
   simp [hf] at hx
   obtain ⟨rfl,rfl⟩:=hx
   have hkk:e2.key=ρ key:=by
    rw [←(hrel _ _ _ q1 q2).1]
    exact keyEq_true q4
   have hp1:p1<ents.size:=(Array.getElem?_eq_some_iff.1 q2).1
   have hset:H.set r (.map es)=H:=by
    by_cases hr':r<H.length
    ·have:H[r]=.map es:=by
      have:=hb
      unfold zG at this
      rw [List.getD_eq_getElem?_getD,List.getElem?_eq_getElem hr'] at this
      exact this
     rw [←this,List.set_getElem_self]
    ·exact List.set_eq_of_length_le (by omega)
   obtain ⟨i1,i2⟩:=hinv.setMap (es':=es) hb hL hlim (ents:=ents.modify p1 fun e=>{ e with key:=ρ key }) (clock:=clock) hlt (by simp [hlen]) (fun j a b ha hb2=>by
    rw [Array.getElem?_modify] at hb2
    by_cases hj:p1=j
    ·subst hj
     rw [if_pos rfl,q2] at hb2
     simp at hb2
     have:=hrel _ _ _ ha q2
     subst hb2
     exact ⟨by rw [this.1];exact hkk,this.2⟩
    ·rw [if_neg hj] at hb2
     exact hrel j a b ha hb2) (by
    refine ⟨by simp [t1],fun j e hj=>?_⟩
    rw [Array.getElem?_modify] at hj
    split at hj
    ·simp only [Option.map_eq_some_iff] at hj
     obtain ⟨a,ha,rfl⟩:=hj
     exact t2 j a ha
    ·exact t2 j e hj)
   rw [hset] at i1
   simp only [Option.map_some] at g1
   have hq:((ents[p1]?).map (·.key)).getD (ρ key)=ρ key:=by rw [q2];simp [hkk]
   have hbn:((ents[p1]?).map (fun x=>(x.born:Int))).getD 0=(p1:Int):=by rw [q2];exact congrArg Int.ofNat (t2 _ _ q2)
   have hvl:(ents.getD p1 default).val=e2.val:=by rw [Array.getD_eq_getD_getElem?,q2];rfl
   refine ⟨.tuple #[e2.val,goInt p1],_, ?_, ?_,i1,i2,rfl⟩
   ·simp only [Instr.mapEntry,Sem.run_bind,run_underlying hu,Result.andThen_ok,MapKept.run_getObj_map hh,hck,g1,hq]
    rw [hst]
    simp only [Sem.run_bind,Sem.run_pure,Result.andThen_ok,MapKept.run_setObj_map _ hh,hbn,hvl]
   ·have hv:=(hrel _ _ _ q1 q2).2
    exact zVr.tuple_iff.2 (zLr.cons (by first | exact hv | exact q3▸hv) (zLr.cons (.atom rfl) zLr.nil))
theorem entryStore_run (hinv:Inv Pg W lim σ H w) (t:TypeId) {m s x:Operand} (hm:zVr σ (ρ m) (ρ' m)) (hs:zVr σ (ρ s) (ρ' s)) (hval:zVr σ (ρ x) (ρ' x))
  (hx:aOp lim dest (.entryStore m s x) ρ H=some (v,H')):∃w',(Instr.entryStore t (ρ' m) (ρ' s) (ρ' x)).run P w=.ok () w'∧Inv Pg W lim σ H' w'∧Stp W w w'∧H'.length=H.length∧v=undef:=by
 simp only [aOp] at hx
 split at hx
 case h_2=>cases hx
 rename_i r n hr hn
 split at hx
 case h_2=>cases hx
 rename_i es hb
 split at hx
 case isFalse=>cases hx
 rename_i hcond
 obtain ⟨h0,hlt1,hlim⟩:=hcond
 cases hx
 have hes:mapEntries H (ρ m)=some es:=by rw [hr];simp [mapEntries,hb]
 rcases hinv.entries hm hes with ⟨hm',rfl⟩ | ⟨r',L,ents,clock,hm0,hb',hL,hm',hh,hlen,hrel⟩
 ·rw [hr] at hm;obtain ⟨L,_,h2⟩:=hm.map_left;rw [hm'] at h2;cases h2
 rw [hr] at hm0;cases hm0
 have hlt:L.blk<w.heap.size:=(Array.getElem?_eq_some_iff.1 hh).1
 obtain ⟨t1,t2⟩:=hinv.stamps hb hL hh
 rw [hn] at hs
 rw [hm',hs.int_left]
 have hne:n.toNat<ents.size:=by omega
 have hfi:ents.findIdx? (fun e=>(e.born:Int) == n)=some n.toNat:=by
  rw [Array.findIdx?_eq_some_iff_getElem]
  refine ⟨hne, ?_,fun j hj=>?_⟩
  ·have:=t2 n.toNat _ (Array.getElem?_eq_getElem hne)
   simp [this];omega
  ·have:=t2 j _ (Array.getElem?_eq_getElem (by omega))
   simp [this];omega
 obtain ⟨i1,i2⟩:=hinv.setMap (es':=es.set n.toNat ((es.getD n.toNat (undef,undef)).1,ρ x)) hb hL hlim (ents:=ents.modify n.toNat fun e=>{ e with val:=ρ' x }) (clock:=clock) hlt (by simp [hlen]) (fun j a b ha hb2=>by
  rw [List.getElem?_set] at ha
  rw [Array.getElem?_modify] at hb2
  by_cases hj:n.toNat=j
  ·subst hj
   rw [if_pos rfl,if_pos hlt1] at ha
   rw [if_pos rfl,Array.getElem?_eq_getElem hne] at hb2
   simp at ha hb2
   subst ha hb2
   refine ⟨?_,hval⟩
   have:=(hrel n.toNat _ _ (List.getElem?_eq_getElem hlt1) (Array.getElem?_eq_getElem hne)).1
   simpa [List.getElem?_eq_getElem hlt1] using this
  ·rw [if_neg hj] at ha
   rw [if_neg hj] at hb2
   exact hrel j a b ha hb2) (by
  refine ⟨by simp [t1],fun j e hj=>?_⟩
  rw [Array.getElem?_modify] at hj
  split at hj
  ·simp only [Option.map_eq_some_iff] at hj
   obtain ⟨a,ha,rfl⟩:=hj
   exact t2 j a ha
  ·exact t2 j e hj)
 exact ⟨_,by simp [Instr.entryStore,MapKept.run_getObj_map hh,asInt,asIntOf,hfi,MapKept.run_setObj_map _ hh],i1,i2,by simp,rfl⟩
end
end Go.AM

