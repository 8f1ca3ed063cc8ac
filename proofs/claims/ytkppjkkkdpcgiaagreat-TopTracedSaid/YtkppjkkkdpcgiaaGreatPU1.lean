/-
  Joined texts, 1 of 10. A part of the claim that the last text states.
-/
import Derived.Orders
import Derived.Laws.Sem
import Derived.Deep.MidRow
import Derived.Deep.AppendSrc
import Derived.RowKit3
import Derived.MapKept
import Derived.Laws.StructEq
import Derived.Laws.BytesString
import Derived.Laws.MakeOwn
import Derived.Laws.Pointers
import Derived.Laws.Cover3
import Derived.ChangeKeysEq
import Derived.Deep.Upon
set_option linter.unusedVariables false
set_option linter.unusedSimpArgs false
set_option linter.defProp false
set_option linter.unusedSectionVars false
set_option maxRecDepth 100000
set_option maxHeartbeats 4000000
namespace Go
abbrev Na.{u}:=@List.getD_eq_getElem?_getD.{u}
abbrev Nb.{u,v}:=@Option.map_eq_some_iff.{u,v}
abbrev Nc.{u}:=@List.append_nil.{u}
abbrev Nd:=@Nat.le_refl
abbrev Nf.{u}:=@List.getElem?_eq_getElem.{u}
abbrev Ng.{u}:=@if_neg.{u}
abbrev Nh.{u}:=@if_pos.{u}
abbrev Ni.{u}:=@List.length_append.{u}
abbrev Nj.{u}:=@List.mem_cons_of_mem.{u}
abbrev Nk.{u}:=@List.length_cons.{u}
abbrev Nl.{u}:=@List.mem_singleton.{u}
abbrev Nm.{u}:=@List.mem_cons_self.{u}
abbrev Nn.{u}:=@List.mem_cons.{u}
abbrev No.{u}:=@List.length_nil.{u}
abbrev Np:=@eq_false
abbrev Nq.{u}:=@List.append_assoc.{u}
abbrev Nr.{u,v}:=@Option.map_some.{u,v}
abbrev Ns:=@decide_eq_true
abbrev Nu.{u}:=@List.getElem?_eq_none.{u}
abbrev Nv:=@Nat.zero_le
abbrev Nw.{u,v}:=@List.length_map.{u,v}
abbrev Nx:=@Bool.and_eq_true
abbrev Ny.{u}:=@Array.getElem?_eq_getElem.{u}
abbrev Nz:=@Bool.false_eq_true
abbrev N0.{u}:=@List.mem_append.{u}
abbrev N1.{u}:=@List.getElem?_set.{u}
abbrev N2.{u}:=@Array.getD_eq_getD_getElem?.{u}
abbrev N3:=@eq_true
abbrev N4.{u}:=@List.getElem?_append_left.{u}
abbrev N5:=@Nat.zero_add
abbrev N6.{u}:=@List.all_eq_true.{u}
abbrev N7:=@Int.toNat_natCast
abbrev N8.{u}:=@List.mem_of_getElem?.{u}
abbrev N9.{u,v}:=@List.map_cons.{u,v}
abbrev Oa:=@decide_eq_false
abbrev Ob:=@decide_eq_true_eq
abbrev Oc.{u}:=@List.getElem?_append_right.{u}
abbrev Od.{u}:=@List.getElem?_cons_zero.{u}
abbrev Oe.{u}:=@List.take_succ_eq_append_getElem.{u}
abbrev Of:=@Decidable.byContradiction
abbrev Og.{u}:=@List.take_of_length_le.{u}
abbrev Oh.{u,v}:=@Option.map_none.{u,v}
abbrev Oi.{u,v}:=@List.foldl_cons.{u,v}
abbrev Oj:=@Int.le_refl
abbrev Ok:=@Classical.byContradiction
abbrev Ol.{u}:=@List.take_length.{u}
abbrev Om.{u,v}:=@List.flatMap_cons.{u,v}
abbrev On.{u}:=@List.nil_append.{u}
abbrev Oo:=@Nat.add_assoc
abbrev Oq.{u,v}:=@List.map_append.{u,v}
abbrev Ou:=@Nat.lt_or_ge
abbrev Ov.{u}:=@List.mem_append_left.{u}
abbrev Ow.{u}:=@List.drop_eq_getElem_cons.{u}
abbrev Ox.{u}:=@List.drop_zero.{u}
abbrev Oy.{u}:=@List.mem_filter.{u}
abbrev O0.{u,v}:=@List.getElem?_map.{u,v}
abbrev O1.{u}:=@List.not_mem_nil.{u}
abbrev O5.{u}:=@List.cons_append.{u}
abbrev O6.{u}:=@List.length_take.{u}
abbrev O7.{u}:=@List.length_replicate.{u}
abbrev O8:=@Nat.mul_le_mul_right
abbrev O9.{u}:=@List.pairwise_iff_getElem.{u}
abbrev Pa.{u}:=@Option.getD_some.{u}
abbrev Pc:=@Nat.mul_one
abbrev Pd:=@Nat.add_zero
abbrev Pe.{u}:=@List.ext_getElem.{u}
abbrev Ph.{u}:=@List.idxOf_lt_length_of_mem.{u}
abbrev Pi:=@Nat.le_max_right
abbrev Pj.{u}:=@List.length_drop.{u}
abbrev Pk.{u}:=@List.replicate_succ.{u}
abbrev Pn.{u}:=@Array.getElem?_push.{u}
abbrev Po:=@List.range_succ
abbrev Pq:=@Nat.succ_mul
abbrev Pr:=@Nat.mod_lt
abbrev Ps:=@List.length_range
abbrev Pt:=@Nat.add_sub_cancel
abbrev Pu.{u}:=@Array.getElem?_setIfInBounds_ne.{u}
abbrev Pv.{u,v}:=@List.map_congr_left.{u,v}
abbrev Pw:=@Nat.add_mul
abbrev Py.{u}:=@List.getElem?_take.{u}
abbrev Pz.{u,v}:=@List.getElem_map.{u,v}
abbrev P0.{u}:=@List.getElem?_replicate.{u}
abbrev P1.{u}:=@List.getElem?_cons_succ.{u}
abbrev P2.{u}:=@List.filter_cons_of_neg.{u}
abbrev P3.{u,v}:=@congrArg.{u,v}
abbrev P4:=@Int.tdiv_eq_ediv_of_nonneg
abbrev P6.{u}:=@List.getElem_mem.{u}
abbrev P7:=@Nat.min_eq_left
abbrev P8:=@Nat.le_max_left
abbrev P9.{u}:=@List.mem_append_right.{u}
abbrev Qa.{u}:=@List.length_singleton.{u}
abbrev Qc:=@Nat.le_trans
abbrev Qd.{u}:=@List.length_set.{u}
abbrev Qe.{u}:=@List.set_append_left.{u}
abbrev Qg.{u}:=@List.filter_cons_of_pos.{u}
abbrev Qh.{u}:=@List.take_append_of_le_length.{u}
abbrev Qi.{u,v}:=@List.flatMap_append.{u,v}
abbrev Qj.{u}:=@List.drop_eq_nil_of_le.{u}
abbrev Qk.{u}:=@List.take_append_drop.{u}
abbrev Qn.{u}:=@List.set_append_right.{u}
abbrev Qo.{u}:=@List.length_filter_le.{u}
abbrev Qp.{u}:=@List.nodup_append.{u}
abbrev Qq:=@Nat.zero_mul
abbrev Qr:=@Nat.sub_self
abbrev Qs.{u}:=@List.getElem?_set_ne.{u}
abbrev Qt.{u}:=@List.drop_length.{u}
abbrev Qu:=@Nat.eq_zero_or_pos
abbrev Qv.{u}:=@List.getElem_append_left.{u}
abbrev Qw:=@Nat.succ_le_of_lt
abbrev Qy.{u}:=@List.getElem?_drop.{u}
abbrev Qz.{u}:=@List.take_succ_cons.{u}
abbrev Q0:=@Int.lt_trichotomy
abbrev Q1.{u}:=@List.take_zero.{u}
abbrev Q2.{u}:=@List.set_cons_succ.{u}
abbrev Q3.{u}:=@List.getElem_idxOf.{u}
abbrev Q4:=@Bool.not_true
abbrev Q5.{u}:=@List.mem_or_eq_of_mem_set.{u}
abbrev Q6.{u}:=@List.mem_of_find?_eq_some.{u}
abbrev Q7.{u}:=@List.getElem_append_right.{u}
abbrev Q8.{u}:=@List.exists_mem_of_ne_nil.{u}
abbrev Q9.{u}:=@List.getElem_drop.{u}
abbrev Ra.{u}:=@List.getElem?_set_self.{u}
abbrev Rb.{u}:=@List.take_take.{u}
abbrev Rc.{u}:=@List.pairwise_append.{u}
abbrev Rd:=@true_and
abbrev Re:=@Int.emod_eq_of_lt
abbrev Rf:=@Bool.eq_iff_iff
abbrev Rg:=@Int.fdiv_eq_ediv_of_nonneg
abbrev Rh.{u}:=@List.find?_some.{u}
abbrev Ri:=@Nat.add_sub_cancel_left
abbrev Rj:=@Nat.add_comm
abbrev Rk.{u}:=@Option.eq_none_or_eq_some.{u}
end Go
namespace Go.AM
def loose (e:Nat):Nat:=2 ^ 62+e
inductive KK where
 | int (k:IntKind) | str | bool | ints (l:List IntKind)
 deriving DecidableEq,Inhabited
inductive EqKind where
 | bool | ptr | slice | map | func | agg (l:List KK)
 deriving Inhabited
inductive CM where
 | any | pure | mk | maps | recs
 deriving DecidableEq,Inhabited
def CM.isPure:CM->Bool
 | .pure=>true
 | _=>false
inductive AOp where
 | mov (x:Operand)
 | pick (c a b:Operand)
 | bin (op:BinOp) (x y:Operand)
 | eqv (neg:Bool) (k:EqKind) (x y:Operand)
 | un (op:UnOp) (x:Operand)
 | conv (k:IntKind) (x:Operand)
 | alloc (zero:List Value)
 | box (x:Operand)
 | build (zero:List Value) (parts:List (Nat×Nat×Operand))
 | buildSlice (len:Nat) (zero:List Value) (parts:List (Nat×Nat×Operand))
 | load1 (a:Operand)
 | loadN (n:Nat) (a:Operand)
 | store (n:Nat) (a x:Operand)
 | storeD (n:Nat) (a x:Operand)
 | nilCheck (x:Operand)
 | fieldAddr (off:Nat) (a:Operand)
 | field1 (off:Nat) (x:Operand)
 | fieldN (off n:Nat) (x:Operand)
 | idxAddrA (len esz:Nat) (x i:Operand)
 | idxAddrS (esz:Nat) (x i:Operand)
 | idxA (len esz:Nat) (agg:Bool) (x i:Operand)
 | idxStr (x i:Operand)
 | sliceS (esz:Nat) (x:Operand) (lo hi mx:Option Operand)
 | sliceA (n esz:Nat) (x:Operand) (lo hi mx:Option Operand)
 | sliceStr (x:Operand) (lo hi:Option Operand)
 | lenStr (x:Operand)
 | lenSlice (x:Operand)
 | capSlice (x:Operand)
 | lenMap (x:Operand)
 | lenK (n:Nat)
 | append (esz bytes:Nat) (str:Bool) (s x:Operand)
 | append0 (esz bytes:Nat) (str:Bool) (s x:Operand)
 | appendL (esz bytes:Nat) (str:Bool) (s x:Operand)
 | copy (esz:Nat) (d x:Operand)
 | minmax (mx:Bool) (xs:List Operand)
 | makeSlice (esz bytes:Nat) (zero:List Value) (len cap:Operand)
 | growNil (esz bytes:Nat) (zero:List Value) (s n:Operand)
 | die (x:Operand)
 | makeMap (hint:Option Operand)
 | lookup (kk:KK) (zero:Value) (ok:Bool) (m key:Operand)
 | mapUpdate (kk:KK) (m key v:Operand)
 | mapEntry (kk:KK) (zero:Value) (m key:Operand)
 | entryStore (m stamp v:Operand)
 | delete (kk:KK) (m key:Operand)
 | clear (zero:List Value) (x:Operand)
 | makeFunc (f:FuncId) (first captured:List Operand)
 | extract (i:Nat) (x:Operand)
 | b2s (x:Operand)
 | strId (x:Operand)
 | rowMark (x:Operand)
 | call (mp:CM) (f:Operand) (args:List Operand)
 | loadR (n:Option Nat) (x:Operand)
 | loadO (n:Option Nat) (x b:Operand)
 | storeO (n:Nat) (a x b:Operand)
 | storeN (n:Nat) (a x:Operand)
 deriving Inhabited
def AOp.operands:AOp->List Operand
 | .mov x | .un _ x | .conv _ x | .box x | .load1 x | .loadN _ x | .nilCheck x | .fieldAddr _ x | .field1 _ x | .fieldN _ _ x | .lenStr x | .lenSlice x | .capSlice x | .lenMap x | .extract _ x | .b2s x | .strId x | .rowMark x | .die x | .clear _ x | .loadR _ x=>[x]
 | .pick c a b | .storeO _ c a b=>[c,a,b]
 | .bin _ x y | .eqv _ _ x y | .store _ x y | .storeN _ x y | .storeD _ x y | .idxAddrA _ _ x y | .idxAddrS _ x y | .idxA _ _ _ x y | .idxStr x y | .append _ _ _ x y | .append0 _ _ _ x y | .appendL _ _ _ x y | .copy _ x y | .makeSlice _ _ _ x y | .growNil _ _ _ x y | .lookup _ _ _ x y | .mapEntry _ _ x y | .delete _ x y | .loadO _ x y=>[x,y]
 | .mapUpdate _ m k v | .entryStore m k v=>[m,k,v]
 | .alloc _ | .lenK _=>[]
 | .build _ ps | .buildSlice _ _ ps=>ps.map (·.2.2)
 | .sliceS _ x lo hi mx | .sliceA _ _ x lo hi mx=>x::(lo.toList++hi.toList++mx.toList)
 | .sliceStr x lo hi=>x::(lo.toList++hi.toList)
 | .minmax _ xs=>xs
 | .makeMap h=>h.toList
 | .makeFunc _ a b=>a++b
 | .call _ f args=>f::args
structure AIns where
 dst:Option Nat
 guard:Option (Nat×Bool)
 op:AOp
 dest:Option Nat:=none
 mask:List Nat:=[]
 deriving Inhabited
inductive ACode where
 | skip
 | ops (l:List AIns)
 | drawn (n:Nat) (l:List AIns)
 | seq (a b:ACode)
 | cond (c:Operand) (thn els:ACode)
 | block (id:Nat) (body:ACode)
 | loop (body:ACode)
 | exit (id:Nat)
 | ret
 | rangeF (f:Operand) (params:List Nat) (assign body:ACode)
 | retM
 | retR
 | exitR (id:Nat)
 deriving Inhabited
inductive ARes where
 | tmp (t:Nat)
 | cell1 (a:Nat)
 | cellN (n a:Nat)
 deriving Inhabited
structure AFunc where
 ntmps:Nat
 results:List ARes
 body:ACode
 deriving Inhabited
structure LoopB where
 st:Nat
 pend:Option ACode
 fr:Nat->Value
 N:Nat
 params:List Nat
 assign:ACode
 body:ACode
inductive Blk where
 | dead
 | cells (ro:Bool) (c:List Value)
 | map (es:List (Value×Value))
 | loop (x:LoopB)
 | dfr
 | iter (m:Option Nat) (n:Nat) (seen:List Nat)
 deriving Inhabited
abbrev NA:=List Blk
def NC (H:NA) (i:Nat):Blk:=H.getD i .dead
def atom:Value->Bool
 | .bool _ | .int _ _ | .string _ | .pointer none | .map none | .nilFunc | .nilIface=>true
 | .slice none n c=>n == 0&&c == 0
 | .func (.func _) a b=>a.isEmpty&&b.isEmpty
 | .tuple a=>a.isEmpty
 | _=>false
def flat:Nat->Value->Bool
 | n+1,.agg cs=>cs.toList.all (flat n)
 | n+1,.tuple cs=>cs.toList.all (flat n)
 | _,v=>atom v
def olds (n:Nat):Nat->Value->Bool
 | d+1,.agg cs=>cs.toList.all (olds n d)
 | d+1,.tuple cs=>cs.toList.all (olds n d)
 | _,.pointer (some a)=>decide (a.block<n)
 | _,.slice (some a) _ _=>decide (a.block<n)
 | _,.map (some r)=>decide (r<n)
 | _,v=>atom v
def NB:Value->Bool
 | .tuple _=>false
 | _=>true
def ev (fr:Nat->Value):Operand->Value
 | .tmp t=>fr t
 | .const v=>v
 | .func f=>.func (.func f) #[] #[]
 | .global _=>undef
def place (dest:Option Nat) (b:Blk) (H:NA):Nat×NA:=
 match dest with
 | none=>(H.length,H++[b])
 | some i=>(i,H.set i b)
def loadCell (H:NA) (a:Addr):Option Value:=
 match NC H a.block with
 | .cells _ c=>c[a.off]?
 | _=>none
def loadCells (H:NA) (a:Addr) (n:Nat):Option (List Value):=
 match NC H a.block with
 | .cells _ c=>if a.off+n<=c.length then some ((c.drop a.off).take n) else none
 | _=>none
def QW (c:List Value) (off:Nat):List Value->List Value
 | []=>c
 | v::vs=>QW (c.set off v) (off+1) vs
def storeAt (lim:Nat) (H:NA) (a:Addr) (vs:List Value):Option NA:=
 match NC H a.block with
 | .cells false c=>if lim<=a.block/\a.off+vs.length<=c.length then some (H.set a.block (.cells false (QW c a.off vs))) else none
 | _=>none
def NK (op:BinOp):Value->Value->Option Value
 | .int k a,.int k' b=>
   match op with
   | .shl=>if b<0 then none else some (.int k (k.wrap (a*2 ^ (min b.toNat k.bits))))
   | .shr=>if b<0 then none else some (.int k (a.fdiv (2 ^ (min b.toNat k.bits))))
   | _=>if k=k' then
     match op with
     | .add=>some (.int k (k.wrap (a+b)))
     | .sub=>some (.int k (k.wrap (a-b)))
     | .mul=>some (.int k (k.wrap (a*b)))
     | .quo=>if b=0 then none else some (.int k (k.wrap (a.tdiv b)))
     | .rem=>if b=0 then none else some (.int k (a.tmod b))
     | .and=>some (.int k (k.wrap (BitVec.ofInt k.bits a &&& BitVec.ofInt k.bits b).toNat))
     | .or=>some (.int k (k.wrap (BitVec.ofInt k.bits a ||| BitVec.ofInt k.bits b).toNat))
     | .xor=>some (.int k (k.wrap (BitVec.ofInt k.bits a ^^^ BitVec.ofInt k.bits b).toNat))
     | .andNot=>some (.int k (k.wrap (BitVec.ofInt k.bits a &&& ~~~ BitVec.ofInt k.bits b).toNat))
     | .eql=>some (.bool (a == b))
     | .neq=>some (.bool (a != b))
     | .lss=>some (.bool (decide (a<b)))
     | .leq=>some (.bool (decide (a<=b)))
     | .gtr=>some (.bool (decide (b<a)))
     | .geq=>some (.bool (decide (b<=a)))
     | _=>none
     else none
 | .string a,.string b=>
   match op with
   | .add=>if ((a.size+b.size:Nat):Int) > IntKind.i64.max then none else some (.string (a++b))
   | .eql=>some (.bool (a.toList == b.toList))
   | .neq=>some (.bool (!(a.toList == b.toList)))
   | .lss=>some (.bool (Op.bytesLess a.toList b.toList))
   | .leq=>some (.bool (Op.bytesLess a.toList b.toList||a.toList == b.toList))
   | .gtr=>some (.bool (!(Op.bytesLess a.toList b.toList||a.toList == b.toList)))
   | .geq=>some (.bool (!(Op.bytesLess a.toList b.toList)))
   | _=>none
 | _,_=>none
def Tz:KK->Value->Value->Option Bool
 | .int k,.int k1 a,.int k2 b=>if k1=k/\k2=k then some (a == b) else none
 | .bool,.bool a,.bool b=>some (a == b)
 | .str,.string a,.string b=>some (a.toList == b.toList)
 | _,_,_=>none
def PP:List KK->List Value->List Value->Option Bool
 | [],[],[]=>some true
 | k::ks,x::xs,y::ys=>match Tz k x y,PP ks xs ys with
   | some a,some b=>some (a&&b)
   | _,_=>none
 | _,_,_=>none
def aEq:EqKind->Value->Value->Option Bool
 | .bool,.bool a,.bool b=>some (a == b)
 | .ptr,.pointer none,.pointer b=>some b.isNone
 | .ptr,.pointer (some _),.pointer none=>some false
 | .slice,.slice none _ _,.slice b _ _=>some b.isNone
 | .slice,.slice (some _) _ _,.slice none _ _=>some false
 | .map,.map none,.map b=>some b.isNone
 | .map,.map (some _),.map none=>some false
 | .func,.nilFunc,.nilFunc=>some true
 | .func,.nilFunc,.func _ _ _=>some false
 | .func,.func _ _ _,.nilFunc=>some false
 | .agg l,.agg xs,.agg ys=>PP l xs.toList ys.toList
 | _,_,_=>none
def QY:UnOp->Value->Option Value
 | .not,.bool b=>some (.bool !b)
 | .neg,.int k n=>some (.int k (k.wrap (0-n)))
 | .xor,.int k n=>some (.int k (k.wrap (BitVec.ofInt k.bits (if k.signed then -1 else k.max) ^^^ BitVec.ofInt k.bits n).toNat))
 | _,_=>none
def R3 (ρ:Operand->Value):List (Nat×Nat×Operand)->List Value->Option (List Value)
 | [],c=>some c
 | (off,size,x)::rest,c=>
   let vs:=(ρ x).cells.toList
   if vs.length=size/\off+size<=c.length/\NB (ρ x)=true then R3 ρ rest (QW c off vs) else none
def bound (v:Value) (m:Nat):Option Nat:=
 match v with
 | .int _ i=>if 0<=i/\i<=(m:Int) then some i.toNat else none
 | _=>none
def bounds (ρ:Operand->Value) (len cap:Nat) (lo hi mx:Option Operand):Option (Nat×Nat×Nat):=
 match (match mx with | some x=>bound (ρ x) cap | none=>some cap) with
 | none=>none
 | some m=>
   match (match hi,mx with | some x,some _=>bound (ρ x) m | some x,none=>bound (ρ x) cap | none,none=>some len | none,some _=>none) with
   | none=>none
   | some h=>
     match (match lo with | some x=>bound (ρ x) h | none=>some 0) with
     | none=>none
     | some l=>some (l,h,m)
def TJ (esz:Nat) (ρ:Operand->Value) (v:Value) (lo hi mx:Option Operand):Option Value:=
 match v with
 | .slice a len cap=>
   if cap=loose esz then
    match bounds ρ len len lo hi mx with
    | none=>none
    | some (l,h,m)=>
      match mx with
      | none=>some (.slice (a.map (·.add (l*esz))) (h-l) (loose esz))
      | some _=>if m<2 ^ 62 then some (.slice (if m=l then a else a.map (·.add (l*esz))) (h-l) (m-l)) else none
   else if cap<2 ^ 62 then
    match bounds ρ len cap lo hi mx with
    | none=>none
    | some (l,h,m)=>some (.slice (if m=l then a else a.map (·.add (l*esz))) (h-l) (m-l))
   else none
 | _=>none
def firstCells (H:NA) (size:Nat) (str:Bool):Value->Option (List Value)
 | .slice none n _=>if str\/n≠0 then none else some []
 | .slice (some a) n _=>if str then none else if n=0 then some [] else loadCells H a (n*size)
 | .string s=>if str then some (s.data.toList.map fun b=>.int .u8 b.toNat) else none
 | _=>none
def lenOf:Value->Option Nat
 | .slice _ n _=>some n
 | .string s=>some s.size
 | _=>none
def PM:Nat:=2 ^ 45
def OU (lim:Nat) (dest:Option Nat) (esz bytes:Nat) (str:Bool) (s x:Value) (H:NA):Option (Value×NA):=
 match s,firstCells H esz str x,lenOf x with
 | .slice base n cap,some new,some m=>
   if esz=0\/(n+m)*bytes > PM\/n+m>=2 ^ 62\/cap<n then none
   else if m=0 then some (s,H)
   else match base with
    | none=>
      if n=0/\cap=0 then
       let (i,H'):=place dest (.cells false new) H
       some (.slice (some ⟨i,0,none⟩) m (loose esz),H')
      else none
    | some a=>
      match loadCells H a (n*esz) with
      | none=>none
      | some old=>
        if cap=loose esz then
         match NC H a.block with
         | .cells false _=>
           if lim<=a.block then
            let (i,H'):=place dest (.cells false (old++new)) (H.set a.block .dead)
            some (.slice (some ⟨i,0,none⟩) (n+m) (loose esz),H')
           else none
         | _=>none
        else if cap<2 ^ 62 then
         if n+m<=cap then
          match storeAt lim H (a.add (n*esz)) new with
          | some H'=>some (.slice base (n+m) cap,H')
          | none=>none
         else
          let (i,H'):=place dest (.cells false (old++new)) H
          some (.slice (some ⟨i,0,none⟩) (n+m) (loose esz),H')
        else none
 | _,_,_=>none
def Wq (mx:Bool):Value->Value->Option Value
 | .int k x,.int k' y=>if k=k' then some (.int k (if mx then (if x<y then y else x) else (if y<x then y else x))) else none
 | _,_=>none
def Rq (mx:Bool):Value->List Value->Option Value
 | x,[]=>some x
 | x,y::ys=>match Wq mx x y with
   | some z=>Rq mx z ys
   | none=>none
def Tx:List Value->List Value->Option Bool
 | [],[]=>some true
 | .int k a::xs,.int k' b::ys=>if k=k' then (Tx xs ys).map ((a == b)&&·) else none
 | _,_=>none
def RA:List IntKind->List Value->Bool
 | [],[]=>true
 | k::ks,.int k' _::xs=>k == k'&&RA ks xs
 | _,_=>false
def Ub:Value->Value->Option Bool
 | .int k a,.int k' b=>if k=k' then some (a == b) else none
 | .string a,.string b=>some (a == b)
 | .bool a,.bool b=>some (a == b)
 | .agg a,.agg b=>Tx a.toList b.toList
 | _,_=>none
def findKey (k:Value):List (Value×Value)->Nat->Option (Option (Nat×Value))
 | [],_=>some none
 | (k',v)::es,i=>match Ub k k' with
   | some true=>some (some (i,v))
   | some false=>findKey k es (i+1)
   | none=>none
def SF:KK->Value->Bool
 | .int k,.int k' _=>k == k'
 | .str,.string _=>true
 | .bool,.bool _=>true
 | .ints l,.agg cs=>RA l cs.toList
 | _,_=>false
def mapEntries (H:NA):Value->Option (List (Value×Value))
 | .map none=>some []
 | .map (some r)=>match NC H r with
   | .map es=>some es
   | _=>none
 | _=>none
def bytesOf:List Value->Option (List UInt8)
 | []=>some []
 | .int .u8 n::l=>match bytesOf l with
   | some bs=>some (UInt8.ofNat n.toNat::bs)
   | none=>none
 | _::_=>none
def Uf (H:NA) (esz n:Nat):Value->Option (List Value)
 | .slice none m _=>if m=0 then some [] else none
 | .slice (some a) _ _=>loadCells H a (n*esz)
 | .string s=>if esz=1 then some ((s.data.toList.take n).map fun b=>.int .u8 b.toNat) else none
 | _=>none
def R9:Blk->Bool
 | .cells _ c=>c.any fun v=>match v with
   | .int _ _=>false
   | _=>true
 | _=>false
def loadX (n:Option Nat) (H:NA) (p:Addr):Option Value:=match n with
 | none=>loadCell H p
 | some k=>(loadCells H p k).map fun c=>.agg c.toArray
def NJ (lim:Nat) (dest:Option Nat) (o:AOp) (ρ:Operand->Value) (H:NA):Option (Value×NA):=
 match o with
 | .mov x=>some (ρ x,H)
 | .pick c a b=>match ρ c with
   | .bool true=>some (ρ a,H)
   | .bool false=>some (ρ b,H)
   | _=>none
 | .bin op x y=>(NK op (ρ x) (ρ y)).map (·,H)
 | .eqv neg k x y=>match aEq k (ρ x) (ρ y) with
   | some b=>some (.bool (if neg then !b else b),H)
   | none=>none
 | .un op x=>(QY op (ρ x)).map (·,H)
 | .conv k x=>match ρ x with
   | .int _ n=>some (.int k (k.wrap n),H)
   | _=>none
 | .alloc zero=>let (i,H'):=place dest (.cells false zero) H;some (.pointer (some ⟨i,0,none⟩),H')
 | .box x=>if NB (ρ x) then
   let (i,H'):=place dest (.cells false (ρ x).cells.toList) H;some (.pointer (some ⟨i,0,none⟩),H')
   else none
 | .build zero parts=>(R3 ρ parts zero).map fun c=>(.agg c.toArray,H)
 | .buildSlice len zero parts=>match R3 ρ parts zero with
   | some c=>let (i,H'):=place dest (.cells false c) H;some (.slice (some ⟨i,0,none⟩) len len,H')
   | none=>none
 | .load1 a=>match ρ a with
   | .pointer (some p)=>(loadCell H p).map (·,H)
   | _=>none
 | .loadN n a=>match ρ a with
   | .pointer (some p)=>(loadCells H p n).map fun c=>(.agg c.toArray,H)
   | _=>none
 | .loadR n a=>match ρ a with
   | .pointer (some p)=>if R9 (NC H p.block)=true then (loadX n H p).map (·,H) else none
   | _=>none
 | .loadO n a b=>match ρ a,ρ b with
   | .pointer (some p),.pointer (some q)=>if p.block≠q.block then (loadX n H p).map (·,H) else none
   | _,_=>none
 | .storeO n a x b=>match ρ a,ρ b with
   | .pointer (some p),.pointer (some q)=>if p.block=q.block/\(ρ x).cells.size=n/\NB (ρ x)=true then (storeAt lim H p (ρ x).cells.toList).map (undef,·) else none
   | _,_=>none
 | .storeN n a x=>match ρ a with
   | .pointer (some p)=>if R9 (NC H p.block)=false/\(ρ x).cells.size=n/\NB (ρ x)=true then (storeAt lim H p (ρ x).cells.toList).map (undef,·) else none
   | _=>none
 | .store n a x=>match ρ a with
   | .pointer (some p)=>if (ρ x).cells.size=n/\NB (ρ x)=true then (storeAt lim H p (ρ x).cells.toList).map (undef,·) else none
   | _=>none
 | .storeD n a x=>match dest,ρ a with
   | some d,.pointer (some p)=>if p.block=d/\(ρ x).cells.size=n/\NB (ρ x)=true then (storeAt lim H p (ρ x).cells.toList).map (undef,·) else none
   | _,_=>none
 | .nilCheck x=>match ρ x with
   | .pointer (some p)=>some (.pointer (some p),H)
   | .func (.func f) a b=>some (.func (.func f) a b,H)
   | _=>none
 | .fieldAddr off a=>match ρ a with
   | .pointer (some p)=>some (.pointer (some (p.add off)),H)
   | _=>none
 | .field1 off x=>match ρ x with
   | .agg cs=>(cs.toList[off]?).map (·,H)
   | _=>none
 | .fieldN off n x=>match ρ x with
   | .agg cs=>some (.agg ((cs.toList.drop off).take n).toArray,H)
   | _=>none
 | .idxAddrA len esz x i=>match ρ x,ρ i with
   | .pointer (some p),.int _ n=>if 0<=n/\n<(len:Int) then some (.pointer (some (p.add (n.toNat*esz))),H) else none
   | _,_=>none
 | .idxAddrS esz x i=>match ρ x,ρ i with
   | .slice (some p) len _,.int _ n=>if 0<=n/\n<(len:Int) then some (.pointer (some (p.add (n.toNat*esz))),H) else none
   | _,_=>none
 | .idxA len esz agg x i=>match ρ x,ρ i with
   | .agg cs,.int _ n=>if 0<=n/\n<(len:Int) then
     (if agg then some (.agg ((cs.toList.drop (n.toNat*esz)).take esz).toArray,H) else (cs.toList[n.toNat*esz]?).map (·,H))
     else none
   | _,_=>none
 | .idxStr x i=>match ρ x,ρ i with
   | .string s,.int _ n=>if 0<=n then (s.data.toList[n.toNat]?).map fun b=>(.int .u8 b.toNat,H) else none
   | _,_=>none
 | .sliceS esz x lo hi mx=>(TJ esz ρ (ρ x) lo hi mx).map (·,H)
 | .sliceA n esz x lo hi mx=>match ρ x with
   | .pointer (some a)=>match bounds ρ n n lo hi mx with
     | some (l,h,m)=>if m<2 ^ 62 then some (.slice (some (if m=l then a else a.add (l*esz))) (h-l) (m-l),H) else none
     | none=>none
   | _=>none
 | .sliceStr x lo hi=>match ρ x with
   | .string s=>match bounds ρ s.size s.size lo hi none with
     | some (l,h,_)=>some (.string (s.extract l h),H)
     | none=>none
   | _=>none
 | .lenStr x=>match ρ x with
   | .string s=>some (.int .i64 s.size,H)
   | _=>none
 | .lenSlice x=>match ρ x with
   | .slice _ n _=>some (.int .i64 n,H)
   | _=>none
 | .capSlice x=>match ρ x with
   | .slice _ _ c=>if c<2 ^ 62 then some (.int .i64 c,H) else none
   | _=>none
 | .lenMap x=>(mapEntries H (ρ x)).map fun es=>(.int .i64 es.length,H)
 | .lenK n=>some (.int .i64 n,H)
 | .append esz bytes str s x=>OU lim dest esz bytes str (ρ s) (ρ x) H
 | .appendL esz bytes str s x=>match ρ s with
   | .slice none n c=>OU lim dest esz bytes str (.slice none n c) (ρ x) H
   | .slice (some a) n c=>if c=loose esz\/c=n then OU lim dest esz bytes str (.slice (some a) n c) (ρ x) H else none
   | _=>none
 | .append0 esz bytes str s x=>match ρ s with
   | .slice b 0 0=>OU lim dest esz bytes str (.slice b 0 0) (ρ x) H
   | _=>none
 | .copy esz d x=>match ρ d,lenOf (ρ x) with
   | .slice base dl _,some sl=>match Uf H esz (min sl dl) (ρ x) with
     | some cs=>match base with
       | some a=>if min sl dl=0 then some (.int .i64 0,H) else (storeAt lim H a cs).map (.int .i64 (min sl dl:Nat),·)
       | none=>if dl=0 then some (.int .i64 0,H) else none
     | none=>none
   | _,_=>none
 | .minmax mx xs=>match xs with
   | []=>none
   | x::r=>(Rq mx (ρ x) (r.map ρ)).map (·,H)
 | .makeSlice esz bytes zero len cap=>match ρ len,ρ cap with
   | .int _ l,.int _ c=>
     if 0<=l/\l<=c/\c*bytes<=2 ^ 45/\c<2 ^ 62 then
      let (i,H'):=place dest (.cells false ((List.range (c.toNat*esz)).map fun j=>zero.getD (j % zero.length) undef)) H
      some (.slice (some ⟨i,0,none⟩) l.toNat c.toNat,H')
     else none
   | _,_=>none
 | .growNil esz bytes zero s n=>match ρ s,ρ n with
   | .slice none 0 0,.int _ l=>
     if 0<l/\l*bytes<=2 ^ 45/\l<2 ^ 62 then
      let (i,H'):=place dest (.cells false ((List.range (l.toNat*esz)).map fun j=>zero.getD (j % zero.length) undef)) H
      some (.slice (some ⟨i,0,none⟩) l.toNat (loose esz),H')
     else none
   | _,_=>none
 | .die _=>none
 | .makeMap hint=>match (match hint with | none=>true | some x=>match ρ x with | .int _ _=>true | _=>false) with
   | true=>let (i,H'):=place dest (.map []) H;some (.map (some i),H')
   | false=>none
 | .lookup kk zero ok m key=>match mapEntries H (ρ m) with
   | some es=>if SF kk (ρ key) then
     match findKey (ρ key) es 0 with
     | some (some (_,v))=>some (if ok then .tuple #[v,.bool true] else v,H)
     | some none=>some (if ok then .tuple #[zero,.bool false] else zero,H)
     | none=>none
     else none
   | none=>none
 | .mapUpdate kk m key v=>match ρ m with
   | .map (some r)=>match NC H r with
     | .map es=>if SF kk (ρ key)/\lim<=r then
       match findKey (ρ key) es 0 with
       | some (some (i,_))=>some (undef,H.set r (.map (es.set i (ρ key,ρ v))))
       | some none=>some (undef,H.set r (.map (es++[(ρ key,ρ v)])))
       | none=>none
       else none
     | _=>none
   | _=>none
 | .mapEntry kk zero m key=>match ρ m with
   | .map (some r)=>match NC H r with
     | .map es=>if SF kk (ρ key)/\lim<=r then
       match findKey (ρ key) es 0 with
       | some (some (i,v))=>some (.tuple #[v,.int .i64 i],H)
       | some none=>some (.tuple #[zero,.int .i64 es.length],H.set r (.map (es++[(ρ key,zero)])))
       | none=>none
       else none
     | _=>none
   | _=>none
 | .entryStore m stamp v=>match ρ m,ρ stamp with
   | .map (some r),.int .i64 n=>match NC H r with
     | .map es=>if 0<=n/\n.toNat<es.length/\lim<=r then some (undef,H.set r (.map (es.set n.toNat ((es.getD n.toNat (undef,undef)).1,ρ v)))) else none
     | _=>none
   | _,_=>none
 | .delete _ _ _=>none
 | .clear zero x=>match ρ x with
   | .slice (some a) n _=>if n=0 then some (.tuple #[],H) else (storeAt lim H a ((List.range (n*zero.length)).map fun j=>zero.getD (j % zero.length) undef)).map (.tuple #[],·)
   | _=>none
 | .makeFunc f first captured=>some (.func (.func f) (first.map ρ).toArray (captured.map ρ).toArray,H)
 | .extract i x=>match ρ x with
   | .tuple vs=>(vs.toList[i]?).map (·,H)
   | _=>none
 | .b2s x=>match ρ x with
   | .slice none n _=>if n=0 then some (.string .empty,H) else none
   | .slice (some a) n _=>match loadCells H a n with
     | some cs=>match bytesOf cs with
       | some bs=>some (.string ⟨bs.toArray⟩,H)
       | none=>none
     | none=>none
   | _=>none
 | .rowMark x=>match ρ x with
   | .slice (some a) n c=>match NC H a.block with
     | .cells false _=>if lim<=a.block/\n≠0 then some (.slice (some a) n c,H) else none
     | _=>none
   | _=>none
 | .strId x=>match ρ x with
   | .string s=>some (.string s,H)
   | _=>none
 | .call _ _ _=>none
def upd (fr:Nat->Value) (t:Nat) (v:Value):Nat->Value:=fun i=>if i=t then v else fr i
def Ye (N:Nat) (fr:Nat->Value) (dst:Option Nat) (v:Value):Option (Nat->Value):=
 match dst with
 | none=>some fr
 | some d=>if d<N then some (upd fr d v) else none
def Rx (N:Nat) (fr:Nat->Value):Option (Nat×Bool)->Option Bool
 | none=>some true
 | some (t,b)=>if t<N then (match fr t with
   | .bool c=>some (c == b)
   | _=>some false) else none
def NU (base:Nat) (l:List Nat) (H:NA):NA:=l.foldl (fun H i=>H.set (base+i) .dead) H
def NS (base:Nat) (l:List Nat) (H0 H:NA):NA:=l.foldl (fun H i=>H.set (base+i) (NC H0 (base+i))) H
def NF (f:Value) (args:List Value):Option ((FuncId ⊕ Nat)×List Value):=
 match f with
 | .func (.func g) first captured=>some (.inl g,first.toList++args++captured.toList)
 | .func (.yield i) first captured=>some (.inr i,first.toList++args++captured.toList)
 | _=>none
def CM.lim:CM->Nat->NA->Nat
 | .mk,_,H=>H.length
 | _,l,_=>l
abbrev Tt:=Bool->Nat->(FuncId ⊕ Nat)->List Value->NA->Option (Value×NA)
mutual
def Rp:Value->Value->Bool
 | .bool a,.bool b=>a == b
 | .int k a,.int k' b=>decide (k=k')&&decide (a=b)
 | .float k a,.float k' b=>decide (k=k')&&decide (a=b)
 | .complex k a c,.complex k' b d=>decide (k=k')&&decide (a=b)&&decide (c=d)
 | .string a,.string b=>a.data.toList == b.data.toList
 | .pointer a,.pointer b=>decide (a=b)
 | .slice a n c,.slice b m d=>decide (a=b)&&decide (n=m)&&decide (c=d)
 | .map a,.map b=>decide (a=b)
 | .chan a,.chan b=>decide (a=b)
 | .func f ⟨a⟩ ⟨c⟩,.func g ⟨b⟩ ⟨d⟩=>decide (f=g)&&Vf a b&&Vf c d
 | .nilFunc,.nilFunc=>true
 | .iface t v,.iface u w=>decide (t=u)&&Rp v w
 | .nilIface,.nilIface=>true
 | .agg ⟨a⟩,.agg ⟨b⟩=>Vf a b
 | .tuple ⟨a⟩,.tuple ⟨b⟩=>Vf a b
 | _,_=>false
def Vf:List Value->List Value->Bool
 | [],[]=>true
 | x::xs,y::ys=>Rp x y&&Vf xs ys
 | _,_=>false
end
mutual
theorem Z5:∀v:Value,Rp v v=true
 | .bool a=>by simp [Rp]
 | .int k a=>by simp [Rp]
 | .float k a=>by simp [Rp]
 | .complex k a c=>by simp [Rp]
 | .string a=>by simp [Rp]
 | .pointer a=>by simp [Rp]
 | .slice a n c=>by simp [Rp]
 | .map a=>by simp [Rp]
 | .chan a=>by simp [Rp]
 | .func f ⟨a⟩ ⟨c⟩=>by simp [Rp,SV a,SV c]
 | .nilFunc=>by simp [Rp]
 | .iface t v=>by simp [Rp,Z5 v]
 | .nilIface=>by simp [Rp]
 | .agg ⟨a⟩=>by simp [Rp,SV a]
 | .tuple ⟨a⟩=>by simp [Rp,SV a]
theorem SV:∀l:List Value,Vf l l=true
 | []=>by simp [Vf]
 | x::xs=>by simp [Vf,Z5 x,SV xs]
end
mutual
theorem Nc4:∀v w:Value,Rp v w=true->v=w
 | .bool a,w,h=>by cases w<;>simp [Rp] at h;rw [h]
 | .int k a,w,h=>by cases w<;>simp [Rp] at h;rw [h.1,h.2]
 | .float k a,w,h=>by cases w<;>simp [Rp] at h;rw [h.1,h.2]
 | .complex k a c,w,h=>by cases w<;>simp [Rp] at h;rw [h.1.1,h.1.2,h.2]
 | .string a,w,h=>by
   cases w<;>simp [Rp] at h
   rename_i b
   obtain ⟨⟨x⟩⟩:=a
   obtain ⟨⟨y⟩⟩:=b
   simp at h
   rw [h]
 | .pointer a,w,h=>by cases w<;>simp [Rp] at h;rw [h]
 | .slice a n c,w,h=>by cases w<;>simp [Rp] at h;rw [h.1.1,h.1.2,h.2]
 | .map a,w,h=>by cases w<;>simp [Rp] at h;rw [h]
 | .chan a,w,h=>by cases w<;>simp [Rp] at h;rw [h]
 | .func f ⟨a⟩ ⟨c⟩,w,h=>by
   cases w<;>simp [Rp] at h
   rename_i g b d
   obtain ⟨b⟩:=b
   obtain ⟨d⟩:=d
   simp [Rp] at h
   rw [h.1.1,U7 a b h.1.2,U7 c d h.2]
 | .nilFunc,w,h=>by cases w<;>simp [Rp] at h;rfl
 | .iface t v,w,h=>by
   cases w<;>simp [Rp] at h
   rename_i u x
   rw [h.1,Nc4 v x h.2]
 | .nilIface,w,h=>by cases w<;>simp [Rp] at h;rfl
 | .agg ⟨a⟩,w,h=>by
   cases w<;>simp [Rp] at h
   rename_i b
   obtain ⟨b⟩:=b
   simp [Rp] at h
   rw [U7 a b h]
 | .tuple ⟨a⟩,w,h=>by
   cases w<;>simp [Rp] at h
   rename_i b
   obtain ⟨b⟩:=b
   simp [Rp] at h
   rw [U7 a b h]
theorem U7:∀l m:List Value,Vf l m=true->l=m
 | [],m,h=>by cases m<;>simp [Vf] at h;rfl
 | x::xs,m,h=>by
   cases m<;>simp [Vf] at h
   rename_i y ys
   rw [Nc4 x y h.1,U7 xs ys h.2]
end
def blkSame:Blk->Blk->Bool
 | .cells ro c,.cells ro' c'=>decide (ro=ro')&&Vf c c'
 | .cells _ _,_=>false
 | _,_=>true
def VE (H H':NA):Bool:=(List.range H.length).all fun j=>blkSame (NC H j) (NC H' j)
theorem Nf9 {H H':NA} (h:VE H H'=true) {j:Nat} {ro:Bool} {c:List Value} (a:NC H j=.cells ro c):NC H' j=.cells ro c:=by
 have b:j<H.length:=by
  rcases Ou j H.length with h1 | h1
  ·exact h1
  ·unfold NC at a
   rw [Na,Nu h1] at a
   cases a
 have:=N6.1 h j (List.mem_range.2 b)
 rw [a] at this
 cases hh:NC H' j with
 | cells d e=>
   rw [hh] at this
   simp only [blkSame,Nx,Ob] at this
   rw [this.1,U7 _ _ this.2]
 | _=>rw [hh] at this;simp [blkSame] at this
theorem Ni9 {H H':NA} (h:∀j ro c,NC H j=.cells ro c->NC H' j=.cells ro c):VE H H'=true:=by
 refine N6.2 fun j _=>?_
 cases hj:NC H j with
 | cells ro c=>rw [h j ro c hj];simp [blkSame,SV]
 | _=>rfl
def WN (H H':NA):Bool:=(List.range H.length).all fun j=>!R9 (NC H j)||blkSame (NC H j) (NC H' j)
theorem SA {b:Blk} (h:R9 b=true):∃ro c,b=.cells ro c:=by
 cases b<;>first | exact ⟨_,_,rfl⟩ | cases h
theorem Nh8 {H H':NA} (h:WN H H'=true) {j:Nat} (b:R9 (NC H j)=true):NC H' j=NC H j:=by
 obtain ⟨ro,c,hc⟩:=SA b
 have a:j<H.length:=by
  rcases Ou j H.length with hl | hl
  ·exact hl
  ·unfold NC at hc
   rw [Na,Nu hl] at hc
   cases hc
 have:=N6.1 h j (List.mem_range.2 a)
 rw [b,Q4,Bool.false_or,hc] at this
 cases hh:NC H' j with
 | cells d e=>
   rw [hh] at this
   simp only [blkSame,Nx,Ob] at this
   rw [hc,this.1,U7 _ _ this.2]
 | _=>rw [hh] at this;simp [blkSame] at this
theorem Nkj {H H':NA} (h:∀j,R9 (NC H j)=true->NC H' j=NC H j):WN H H'=true:=by
 refine N6.2 fun j _=>?_
 cases hj:R9 (NC H j) with
 | false=>rfl
 | true=>
   rw [h j hj]
   obtain ⟨ro,c,hc⟩:=SA hj
   rw [hc];simp [blkSame,SV]
def Vk:CM->NA->Option (Value×NA)->Option (Value×NA)
 | .maps,H,some (v,H')=>if VE H H'=true then some (v,H') else none
 | .recs,H,some (v,H')=>if WN H H'=true then some (v,H') else none
 | _,_,r=>r
theorem Sn {m:CM} {H:NA} {r:Option (Value×NA)} {p:Value×NA} (h:Vk m H r=some p):r=some p/\(m=.maps->VE H p.2=true):=by
 cases m with
 | maps=>
   cases r with
   | none=>simp [Vk] at h
   | some q=>
     obtain ⟨v,H'⟩:=q
     simp only [Vk] at h
     split at h
     ·rename_i hc;cases h;exact ⟨rfl,fun _=>hc⟩
     ·cases h
 | recs=>
   cases r with
   | none=>simp [Vk] at h
   | some q=>
     obtain ⟨v,H'⟩:=q
     simp only [Vk] at h
     split at h
     ·cases h;exact ⟨rfl,fun e=>by cases e⟩
     ·cases h
 | _=>exact ⟨by simpa [Vk] using h,fun e=>by cases e⟩
theorem Nbc {H:NA} {r:Option (Value×NA)} {p:Value×NA} (h:Vk .recs H r=some p):WN H p.2=true:=by
 cases r with
 | none=>simp [Vk] at h
 | some q=>
   obtain ⟨v,H'⟩:=q
   simp only [Vk] at h
   split at h
   ·rename_i hc;cases h;exact hc
   ·cases h
theorem Nul {m:CM} {H:NA} {r a:Option (Value×NA)} (h:∀p,r=some p->a=some p) {p:Value×NA} (hp:Vk m H r=some p):Vk m H a=some p:=by
 obtain ⟨h1,h2⟩:=Sn hp
 rw [h p h1]
 cases m with
 | maps=>obtain ⟨v,H'⟩:=p;simp only [Vk,Nh (h2 rfl)]
 | recs=>obtain ⟨v,H'⟩:=p;simp only [Vk,Nh (Nbc hp)]
 | _=>rfl
def QZ (C:Tt) (lim:Nat) (dest:Option Nat) (o:AOp) (ρ:Operand->Value) (H:NA):Option (Value×NA):=
 match o with
 | .call mp f args=>match NF (ρ f) (args.map ρ) with
   | some (g,as)=>Vk mp H (C mp.isPure (mp.lim lim H) g as H)
   | none=>none
 | o=>NJ lim dest o ρ H
def Sm (C:Tt) (N lim:Nat) (base:Option Nat) (i:AIns) (fr:Nat->Value) (H:NA):Option (Value×NA):=
 match Rx N fr i.guard with
 | none=>none
 | some false=>some (undef,H)
 | some true=>match base with
   | none=>QZ C lim none i.op (ev fr) H
   | some b=>match QZ C lim (i.dest.map (b+·)) i.op (ev fr) (NU b i.mask H) with
     | some (v,H')=>some (v,NS b i.mask H H')
     | none=>none
def Te (C:Tt) (N lim:Nat) (base:Option Nat) (i:AIns) (fr:Nat->Value) (H:NA):Option ((Nat->Value)×NA):=
 match Sm C N lim base i fr H with
 | some (v,H')=>(Ye N fr i.dst v).map (·,H')
 | none=>none
abbrev SI:=Bool->Nat->(FuncId ⊕ Nat)->List Value->NA->Option (List (Value×NA))
def oneOf {α:Type}:Option (List α)->Option α
 | some [x]=>some x
 | _=>none
def det (C:SI):Tt:=fun mp lim t as H=>oneOf (C mp lim t as H)
def Yl {α β:Type} (f:α->Option β):List α->Option (List β)
 | []=>some []
 | x::l=>match f x,Yl f l with
   | some y,some r=>some (y::r)
   | _,_=>none
def Tp {α β:Type} (f:α->Option (List β)):List α->Option (List β)
 | []=>some []
 | x::l=>match f x,Tp f l with
   | some y,some r=>some (y++r)
   | _,_=>none
def V4:Value->Bool
 | .agg cs=>cs.toList.all fun v=>match v with
   | .int _ _=>true
   | _=>false
 | .int _ _ | .string _ | .bool _=>true
 | _=>false
def SE (n:Nat) (seen:List Nat):List Nat:=(List.range n).filter fun j=>!seen.contains j
def Uh (v:Value) (H:NA):Option (Value×NA):=match v,mapEntries H v with
 | .map m,some es=>some (.pointer (some ⟨H.length,0,none⟩),H++[.iter m es.length []])
 | _,_=>none
def Zw (lim:Nat) (v:Value) (H:NA):Option (List (Value×NA)):=match v with
 | .pointer (some ⟨r,0,none⟩)=>match NC H r with
   | .iter m n seen=>if lim<=r then match mapEntries H (.map m) with
     | some es=>if es.length=n then match SE n seen with
       | []=>some [(.tuple #[.bool false],H)]
       | j::l=>Yl (fun j=>match es[j]? with
         | some e=>if V4 e.1 then some (.tuple #[.bool true,e.1,e.2],H.set r (.iter m n (seen++[j]))) else none
         | none=>none) (j::l)
       else none
     | none=>none
     else none
   | _=>none
 | _=>none
def Y7 (v:Value) (H:NA):Option (Value×NA):=match v with
 | .pointer (some ⟨r,0,none⟩)=>match NC H r with
   | .iter (some m) n seen=>match mapEntries H (.map (some m)),seen.getLast? with
     | some es,some j=>if es.length=n then match es[j]? with
       | some e=>if V4 e.1 then some (.tuple #[e.1,e.2],H) else none
       | none=>none
     else none
     | _,_=>none
   | _=>none
 | _=>none
def XZ (C:SI) (lim:Nat) (o:AOp) (ρ:Operand->Value) (H:NA):Option (List (Value×NA)):=
 match o with
 | .call mp f args=>match NF (ρ f) (args.map ρ) with
   | some (g,as)=>match C mp.isPure (mp.lim lim H) g as H with
     | some L=>Yl (fun r=>Vk mp H (some r)) L
     | none=>none
   | none=>none
 | o=>(NJ lim none o ρ H).map fun r=>[r]
def Ndd (k lim:Nat) (o:AOp) (ρ:Operand->Value) (H:NA):Option (List (Value×NA)):=
 match k,o with
 | 1,.mov x=>(Uh (ρ x) H).map fun r=>[r]
 | 2,.mov x=>Zw lim (ρ x) H
 | 3,.mov x=>(Y7 (ρ x) H).map fun r=>[r]
 | _,_=>none
def stepX (C:SI) (lim:Nat) (i:AIns) (ρ:Operand->Value) (H:NA):Option (List (Value×NA)):=
 match i.dest with
 | none=>XZ C lim i.op ρ H
 | some k=>Ndd k lim i.op ρ H
def ZG (C:SI) (N lim:Nat) (i:AIns) (fr:Nat->Value) (H:NA):Option (List ((Nat->Value)×NA)):=
 match Rx N fr i.guard with
 | none=>none
 | some false=>(Ye N fr i.dst undef).map fun f=>[(f,H)]
 | some true=>match stepX C lim i (ev fr) H with
   | some L=>Yl (fun r=>(Ye N fr i.dst r.1).map (·,r.2)) L
   | none=>none
inductive AItem where
 | code (c:ACode)
 | ops (base:Option Nat) (l:List AIns)
 | inBlock (id:Nat)
 | inLoop (c:ACode)
 | begin (i:Nat)
 | round (i:Nat)
 | mark (i:Nat)
def roundOf:List AItem->Option Nat
 | []=>none
 | .round i::_=>some i
 | _::k=>roundOf k
def marks:List AItem->List Nat
 | []=>[]
 | .mark i::k=>marks k++[i]
 | _::k=>marks k
def shut (lim:Nat):List Nat->NA->Option NA
 | [],H=>some H
 | i::l,H=>match NC H i with
   | .dfr=>if lim<=i then shut lim l (H.set i .dead) else none
   | _=>none
def endRound (i:Nat) (j:Option ACode) (H:NA):Option (Value×NA):=
 match NC H i with
 | .loop x=>some (.bool j.isNone,H.set i (.loop { x with st:=if j.isNone then 0 else 2,pend:=j }))
 | _=>none
def SK (fr:Nat->Value):List Nat->List Value->(Nat->Value)
 | p::ps,v::vs=>SK (fun t=>if t=p then v else fr t) ps vs
 | _,_=>fr
def Rs (id:Nat):List AItem->Option (List AItem)
 | .inBlock id'::k=>if id'=id then some k else Rs id k
 | _::k=>Rs id k
 | []=>none
def ND (fr:Nat->Value) (H:NA):ARes->Option Value
 | .tmp t=>some (fr t)
 | .cell1 a=>match fr a with
   | .pointer (some p)=>loadCell H p
   | _=>none
 | .cellN n a=>match fr a with
   | .pointer (some p)=>(loadCells H p n).map fun c=>.agg c.toArray
   | _=>none
def U9 (fr:Nat->Value) (H:NA):List ARes->Option (List Value)
 | []=>some []
 | r::rs=>match ND fr H r,U9 fr H rs with
   | some v,some vs=>some (v::vs)
   | _,_=>none
def result (fr:Nat->Value) (H:NA) (a:List ARes):Option Value:=
 match U9 fr H a with
 | some [v]=>some v
 | some vs=>some (.tuple vs.toArray)
 | none=>none
def NE (args:List Value):Nat->Value:=fun t=>args.getD t undef
structure Env where
 tr:FuncId->Option AFunc
 pure:FuncId->Bool
 orc:FuncId->List Value->Option Value
 dt:Bool
 eff:FuncId->List Value->NA->Option (Value×List (List Value)×Option (Nat×List Value))
def news (X:List (List Value)):NA:=X.map (Blk.cells false)
def N1r (H:NA):Option (Nat×List Value)->NA
 | none=>H
 | some (R,c)=>H.set R (.cells false c)
def XU (lim:Nat) (H:NA):Option (Nat×List Value)->Bool
 | none=>true
 | some (R,c)=>decide (lim<=R)&&match NC H R with
   | .cells false a=>decide (a.length=c.length)
   | _=>false
def Np0 (H:NA) (r:List (List Value)×Option (Nat×List Value)):NA:=N1r H r.2++news r.1
variable (E:Env)
def one {α:Type} (r:Option α):Option (List α):=r.map fun x=>[x]
def QO (run:AFunc->Nat->List AItem->(Nat->Value)->NA->Option (List (Value×NA))):SI:=fun a lim t as H=>
 match t with
 | .inl g=>
   match E.orc g as with
   | some v=>if as.all atom&&flat 4 v then some [(v,H)] else none
   | none=>
     match E.eff g as H with
     | some r=>if a||!XU lim H r.2.2 then none else some [(r.1,Np0 H r.2)]
     | none=>
     match E.tr g with
     | none=>none
     | some af=>
       if E.pure g then
        match run af H.length [.code af.body] (NE as) H with
        | some ((v,_)::l)=>if l.all (fun r=>Rp v r.1) then (if olds H.length 4 v then some [(v,H)] else none) else none
        | _=>none
       else if a then none
       else run af lim [.code af.body] (NE as) H
 | .inr i=>
   if a then none
   else match NC H i with
    | .loop x=>if lim<=i/\as.length=x.params.length/\x.params.all (·<x.N)=true then run ⟨x.N,[],.skip⟩ lim [.code x.assign,.begin i,.code x.body,.round i] (SK x.fr x.params as) H else none
    | _=>none
def OW:Nat->AFunc->(lim:Nat)->List AItem->(Nat->Value)->NA->Option (List (Value×NA))
 | 0,_,_,_,_,_=>none
 | n+1,af,lim,k,fr,H=>
   match k with
   | []=>one ((result fr H af.results).map (·,H))
   | .inBlock _::k=>OW n af lim k fr H
   | .inLoop c::k=>OW n af lim (.code c::.inLoop c::k) fr H
   | .begin i::k=>match NC H i with
     | .loop x=>if x.st=0/\lim<=i then OW n af lim k fr (H.set i (.loop { x with st:=1 })) else none
     | _=>none
   | .round i::_=>if lim<=i then one (endRound i none H) else none
   | .mark _::_=>none
   | .ops _ []::k=>OW n af lim k fr H
   | .ops none (i::l)::k=>
     match ZG (QO E (OW n)) af.ntmps lim i fr H with
     | some L=>Tp (fun r=>OW n af lim (.ops none l::k) r.1 r.2) L
     | none=>none
   | .ops (some b) (i::l)::k=>
     match Te (det (QO E (OW n))) af.ntmps lim (some b) i fr H with
     | some (fr',H')=>OW n af lim (.ops (some b) l::k) fr' H'
     | none=>none
   | .code c::k=>
     match c with
     | .skip=>OW n af lim k fr H
     | .ops l=>OW n af lim (.ops none l::k) fr H
     | .drawn m l=>OW n af lim (.ops (some H.length) l::k) fr (H++List.replicate m .dead)
     | .seq a b=>OW n af lim (.code a::.code b::k) fr H
     | .cond c a b=>match ev fr c with
       | .bool true=>OW n af lim (.code a::k) fr H
       | .bool false=>OW n af lim (.code b::k) fr H
       | _=>none
     | .block id b=>OW n af lim (.code b::.inBlock id::k) fr H
     | .loop b=>OW n af lim (.code b::.inLoop b::k) fr H
     | .exit id=>match Rs id k with
       | some k'=>OW n af lim k' fr H
       | none=>none
     | .ret=>one ((result fr H af.results).map (·,H))
     | .retM=>match shut lim (marks k) H with
       | some H'=>one ((result fr H' af.results).map (·,H'))
       | none=>none
     | .retR=>match roundOf k with
       | some i=>if lim<=i then one (endRound i (some .retM) H) else none
       | none=>none
     | .exitR id=>match Rs id k with
       | some k'=>OW n af lim k' fr H
       | none=>match roundOf k with
         | some i=>if lim<=i then one (endRound i (some (.exit id)) H) else none
         | none=>none
     | .rangeF f ps assign body=>
       match NF (ev fr f) [.func (.yield (H.length+1)) #[] #[]] with
       | some (.inl g,as)=>
         match QO E (OW n) false lim (.inl g) as (H++[.dfr,.loop ⟨0,none,fr,af.ntmps,ps,assign,body⟩]) with
         | some L=>Tp (fun r=>match NC r.2 (H.length+1) with
           | .loop x=>if x.st=1 then none else OW n af lim ((match x.pend with | none=>[] | some c=>[.code c])++(k++[.mark H.length])) fr (r.2.set (H.length+1) .dead)
           | _=>none) L
         | none=>none
       | _=>none
def Rl (n:Nat):SI:=QO E (OW E n)
variable (P:Program) (pureF:FuncId->Bool)
def PV:Operand->Bool
 | .tmp _=>true
 | .const v=>atom v
 | .func _=>true
 | .global _=>false
def QT (t:TypeId):Option Bool:=
 match P.underlying t with
 | some (.struct _) | some (.array _ _)=>some true
 | some _=>some false
 | none=>none
def zeroOf (t:TypeId):Option (List Value):=
 match P.info? t with
 | some i=>match i.zero with
   | some z=>if z.cells.toList.all (fun v=>atom v&&v.oneCell') then some z.cells.toList else none
   | none=>none
 | none=>none
def YD (t:TypeId):Option Value:=
 match P.info? t with
 | some i=>match i.zero with
   | some z=>if z.cells.toList.all (fun v=>atom v&&v.oneCell') then some z else none
   | none=>none
 | none=>none
def PG (t:TypeId):Option Nat:=(P.info? t).map (·.size)
def Vb (t:TypeId):Option Nat:=(P.info? t).map (·.bytes)
def YR (f':TypeId->Option (List KK)):List Field->Nat->Option (List KK)
    | [],_=>some []
    | f::fs,off=>if f.name= "_"\/f.offset≠off then none else
      match f' f.type with
      | some l=>if l.length=P.cellsOf f.type/\l.length≠0 then (YR f' fs (off+l.length)).map (l++·) else none
      | none=>none
def OY:Nat->TypeId->Option (List KK)
 | 0,_=>none
 | n+1,t=>match P.underlying t with
   | some .bool=>some [.bool]
   | some (.int k)=>some [.int k]
   | some .string=>some [.str]
   | some (.array len e)=>match OY n e with
     | some l=>if l.length=P.cellsOf e then some (List.replicate len l).flatten else none
     | none=>none
   | some (.struct fs)=>if P.stoodInHeld t then none else YR P (OY n) fs.toList 0
   | _=>none
def TT (t:TypeId):Option EqKind:=
 match P.underlying t with
 | some .bool=>some .bool
 | some (.pointer _)=>some .ptr
 | some (.slice _)=>some .slice
 | some (.map _ _)=>some .map
 | some (.func _ _ _)=>some .func
 | some (.struct _) | some (.array _ _)=>if P.eqGuardType P.depth t then none else (OY P 20 t).map .agg
 | _=>none
def Td:List KK->Option (List IntKind)
 | []=>some []
 | .int k::l=>(Td l).map (k::·)
 | _=>none
def RP (t:TypeId):Option KK:=
 match P.underlying t with
 | some (.int k)=>some (.int k)
 | some .string=>some .str
 | some .bool=>some .bool
 | some (.struct _) | some (.array _ _)=>match OY P 20 t with
   | some l=>(Td l).map .ints
   | none=>none
 | _=>none
def Nnk (a:Array Field) (x:Nat×Operand):Option (Nat×Nat×Operand):=do
 let f <-a[x.1]?
 let s <-PG P f.type
 if PV x.2 then pure (f.offset,s,x.2) else none
def N5v (t:TypeId):Bool:=match P.underlying t with
 | some (.tuple ts)=>ts.isEmpty
 | _=>false
def Nal (p:Bool) (o:Oper):Option AOp:=
 if !(o.op.operands.toList.all PV) then none else
 match o.op with
 | .move x | .assign x=>some (.mov x)
 | .pick c a b=>some (.pick c a b)
 | .alloc e=>(zeroOf P e).map .alloc
 | .box _ x=>some (.box x)
 | .build t parts=>do
   let z <-zeroOf P t
   match P.underlying t with
   | some (.struct fs)=>do
     let ps <-parts.toList.mapM (Nnk P fs)
     if fs.toList.all (fun f=>(P.info? f.type).isSome) then pure (.build z ps) else none
   | some (.array _ e)=>do
     let s <-PG P e
     pure (.build z (parts.toList.map fun x=>(x.1*s,s,x.2)))
   | _=>none
 | .buildSlice t len parts=>do
   match P.underlying t with
   | some (.slice e)=>do
     let s <-PG P e
     let z <-zeroOf P e
     if z.length≠s\/s=0\/len*s > 2 ^ 20 then none else
     pure (.buildSlice len ((List.range (len*s)).map fun j=>z.getD (j % z.length) undef) (parts.toList.map fun x=>(x.1*s,s,x.2)))
   | _=>none
 | .load t a=>do
   let h <-QT P t
   if h then (PG P t).map (.loadN · a) else some (.load1 a)
 | .store t a x=>(PG P t).map (.store · a x)
 | .nilCheck x=>some (.nilCheck x)
 | .binOp op t x y _=>
   match P.underlying t with
   | some (.int _) | some .string=>some (.bin op x y)
   | _=>match op with
     | .eql=>(TT P t).map (.eqv false · x y)
     | .neq=>(TT P t).map (.eqv true · x y)
     | _=>none
 | .unOp op _ x=>some (.un op x)
 | .convert s d x=>
   match P.underlying s,P.underlying d with
   | some (.int _),some (.int k)=>some (.conv k x)
   | some .string,some .string=>some (.strId x)
   | some (.slice e),some .string=>match P.underlying e with
     | some (.int .u8)=>some (.b2s x)
     | _=>none
   | some (.slice e),some (.slice _)=>match P.underlying e with
     | some (.int .u8)=>if s=d then some (.rowMark x) else none
     | _=>none
   | _,_=>none
 | .makeFunc (.func f) first captured=>some (.makeFunc f first.toList captured.toList)
 | .makeInterface _ x=>some (.die x)
 | .panic x=>some (.die x)
 | .makeMap t x=>match P.underlying t with
   | some (.map _ _)=>some (.makeMap x)
   | _=>none
 | .makeSlice t l c=>do
   match P.underlying t with
   | some (.slice e)=>do
     let s <-PG P e
     let b <-Vb P e
     let z <-zeroOf P e
     if z.length≠s\/s=0 then none else pure (.makeSlice s b z l c)
   | _=>none
 | .slice t x lo hi mx=>do
   match P.underlying t with
   | some (.slice e)=>do
     let s <-PG P e
     if s=0 then none else pure (.sliceS s x lo hi mx)
   | some (.array n e)=>do
     let s <-PG P e
     if s=0 then none else pure (.sliceA n s x lo hi mx)
   | some .string=>if mx.isSome then none else some (.sliceStr x lo hi)
   | _=>none
 | .fieldAddr s x f=>do
   match P.underlying s with
   | some (.struct fs)=>do
     let fd <-fs[f]?
     let n <-PG P fd.type
     if n=0 then none else pure (.fieldAddr fd.offset x)
   | _=>none
 | .field s x f=>do
   match P.underlying s with
   | some (.struct fs)=>do
     let fd <-fs[f]?
     let n <-PG P fd.type
     let h <-QT P fd.type
     if h then pure (.fieldN fd.offset n x) else pure (.field1 fd.offset x)
   | _=>none
 | .indexAddr t x i=>do
   match P.underlying t with
   | some (.slice e)=>do
     let s <-PG P e
     pure (.idxAddrS s x i)
   | some (.array n e)=>do
     let s <-PG P e
     pure (.idxAddrA n s x i)
   | _=>none
 | .index t x i=>do
   match P.underlying t with
   | some (.array n e)=>do
     let s <-PG P e
     let h <-QT P e
     pure (.idxA n s h x i)
   | some .string=>pure (.idxStr x i)
   | _=>none
 | .lookup t m k ok=>do
   match P.underlying t with
   | some (.map kt e)=>do
     let z <-YD P e
     let kk <-RP P kt
     pure (.lookup kk z ok m k)
   | _=>none
 | .mapUpdate t m k x | .insert t m k x=>do
   match P.underlying t with
   | some (.map kt _)=>(RP P kt).map fun kk=>.mapUpdate kk m k x
   | _=>none
 | .mapEntry t m k=>do
   match P.underlying t with
   | some (.map kt e)=>do
     let z <-YD P e
     let kk <-RP P kt
     pure (.mapEntry kk z m k)
   | _=>none
 | .entryStore _ m s x=>some (.entryStore m s x)
 | .extract x i=>some (.extract i x)
 | .call c=>do
   match c.callee with
   | .value f=>pure (.call (if p&&(match f with | .func g=>pureF g | _=>!(N5v P o.type)) then .pure else .any) f c.args.toList)
   | .builtin .len=>match c.args.toList,c.argTypes.toList with
     | [x],[t]=>match P.underlying t with
       | some .string=>some (.lenStr x)
       | some (.slice _)=>some (.lenSlice x)
       | some (.map _ _)=>some (.lenMap x)
       | some (.array n _)=>some (.lenK n)
       | _=>none
     | _,_=>none
   | .builtin .cap=>match c.args.toList,c.argTypes.toList with
     | [x],[t]=>match P.underlying t with
       | some (.slice _)=>some (.capSlice x)
       | _=>none
     | _,_=>none
   | .builtin .append=>match c.args.toList,c.argTypes.toList with
     | [s,x],[st,xt]=>match P.underlying st,P.underlying xt with
       | some (.slice e),some (.slice _)=>do
         let n <-PG P e
         let b <-Vb P e
         let z <-zeroOf P e
         if z.length=n then pure (.append n b false s x) else none
       | some (.slice e),some .string=>do
         let n <-PG P e
         let b <-Vb P e
         let z <-zeroOf P e
         if z.length=n/\n=1 then pure (.append n b true s x) else none
       | some (.slice e),some (.int _)=>do
         let n <-PG P e
         let b <-Vb P e
         let z <-zeroOf P e
         if z.length=n/\n≠0 then pure (.growNil n b z s x) else none
       | _,_=>none
     | _,_=>none
   | .builtin .copy=>match c.args.toList,c.argTypes.toList with
     | [d,x],dt::_=>match P.underlying dt with
       | some (.slice e)=>(PG P e).map (.copy · d x)
       | _=>none
     | _,_=>none
   | .builtin .clear=>match c.args.toList,c.argTypes.toList with
     | [x],t::_=>match P.underlying t with
       | some (.slice e)=>(zeroOf P e).map (.clear · x)
       | _=>none
     | _,_=>none
   | .builtin .min=>some (.minmax false c.args.toList)
   | .builtin .max=>some (.minmax true c.args.toList)
   | .builtin .delete=>match c.args.toList,c.argTypes.toList with
     | [m,k],t::_=>match P.underlying t with
       | some (.map kt _)=>(RP P kt).map fun kk=>.delete kk m k
       | _=>none
     | _,_=>none
   | _=>none
 | _=>none
inductive Kind where
 | p | r | a | w | c | n | s
 deriving DecidableEq,Inhabited
def kind:AOp->Kind
 | .mov _ | .pick .. | .bin .. | .eqv .. | .un .. | .conv .. | .build .. | .nilCheck _ | .fieldAddr .. | .field1 .. | .fieldN .. | .idxAddrA .. | .idxAddrS ..
 | .idxA .. | .idxStr .. | .sliceS .. | .sliceA .. | .sliceStr .. | .lenStr _ | .lenSlice _ | .capSlice _ | .lenK _ | .minmax .. | .makeFunc .. | .extract .. | .strId _ | .die _=>.p
 | .load1 _ | .loadN .. | .lenMap _ | .lookup .. | .b2s _ | .rowMark _ | .loadR .. | .loadO ..=>.r
 | .alloc _ | .box _ | .buildSlice .. | .makeSlice .. | .growNil .. | .makeMap _=>.a
 | .store .. | .storeO .. | .storeN .. | .append .. | .appendL .. | .copy .. | .mapUpdate .. | .mapEntry .. | .entryStore .. | .delete .. | .clear ..=>.w
 | .append0 ..=>.n
 | .storeD ..=>.s
 | .call mp ..=>if mp.isPure then .r else .c
def makes:AOp->Bool
 | .append .. | .append0 .. | .appendL ..=>true
 | o=>kind o=.a
def waits (ops:Array Oper):Nat->Nat->Nat->Bool
 | 0,_,_=>false
 | n+1,x,a=>match ops[x]? with
   | some o=>o.after.toList.any fun e=>Region.binds .any e&&(e.on == a||waits ops n e.on a)
   | none=>false
def conflict (k l:Kind):Bool:=
 match k,l with
 | .p,_ | _,.p=>false
 | .s,_ | _,.s=>false
 | .c,.a | .a,.c=>false
 | .c,_ | _,.c=>true
 | .a,_ | _,.a=>false
 | .w,_ | _,.w=>true
 | .r,.r | .n,.n | .n,.r | .r,.n=>false
def XO:AOp->Bool
 | .storeD ..=>true
 | _=>false
def AIns.made (i:AIns):Option Nat:=if XO i.op then none else i.dest
def QB (l:List AOp):List (Option Nat):=
 go 0 l
where
 go (n:Nat):List AOp->List (Option Nat)
  | []=>[]
  | o::l=>if makes o then some n::go (n+1) l else none::go n l
def Me (ops:Array Oper):Option (Nat×Bool)->Option (Option (Nat×Bool))
 | none=>some none
 | some (j,b)=>match (ops[j]?).bind (·.dst) with
   | some t=>some (some (t,b))
   | none=>none
def Nqx (b:Bool) (ops:Array Oper) (o:Oper):Option AIns:=do
 let a <-Nal P pureF b o
 let g <-Me ops o.guard
 pure { dst:=o.dst,guard:=g,op:=a }
def N1u (o:Oper):Option (Operand×Nat):=
 if !(o.op.operands.toList.all PV) then none else
 match o.op with
 | .range t x=>match P.underlying t with
   | some (.map _ _)=>some (x,1)
   | _=>none
 | .next b a=>if a then none else some (b,2)
 | .entry b=>some (b,3)
 | _=>none
def XX (ops:Array Oper) (o:Oper):Option AIns:=
 match Nqx P pureF false ops o with
 | some i=>some i
 | none=>do
   let a <-N1u P o
   let g <-Me ops o.guard
   pure { dst:=o.dst,guard:=g,op:=.mov a.1,dest:=some a.2 }
def AIns.looks (i:AIns):List Nat:=
 (i.op.operands.filterMap fun | .tmp t=>some t | _=>none)++(match i.guard with | some (t,_)=>[t] | none=>[])
def Nbj (x y:AIns):Bool:=
 (match x.dst with
  | some d=>!y.looks.contains d&&y.dst != some d
  | none=>true) &&
 (match y.dst with
  | some d=>!x.looks.contains d
  | none=>true)
def isL:AOp->Bool
 | .appendL ..=>true
 | _=>false
def isLoad:AOp->Bool
 | .load1 _ | .loadN ..=>true
 | _=>false
def isRead:AOp->Bool
 | .load1 _ | .loadN .. | .lenMap _ | .lookup .. | .b2s _=>true
 | _=>false
def N25:AOp->Bool
 | .call .mk ..=>true
 | _=>false
def isMaps:AOp->Bool
 | .call .maps ..=>true
 | _=>false
def UM:AOp->Bool
 | .loadR ..=>true
 | _=>false
def isRecs:AOp->Bool
 | .call .recs ..=>true
 | _=>false
def isO (a b:AOp):Bool:=match a,b with
 | .loadO _ _ (.tmp s),.storeO _ _ _ (.tmp t)=>s == t
 | _,_=>false
def isE (a b:AOp):Bool:=match a,b with
 | .lookup _ (.int k n) false (.tmp x) (.tmp y),.mapEntry _ (.int k' n') (.tmp x') (.tmp y')=>k == k'&&n == n'&&x == x'&&y == y'
 | _,_=>false
def Neb:AOp->Bool
 | .storeN ..=>true
 | _=>false
def calm (a b:AOp):Bool:=isE a b||(UM a&&Neb b)||!conflict (kind a) (kind b)||(isL a&&isLoad b)||(isRead a&&N25 b)||(isLoad a&&isMaps b)||(UM a&&isRecs b)||isO a b
def Noc (ops:Array Oper) (l:List AIns) (i j:Nat):Bool:=
 waits ops ops.size i j ||
  match l[i]?,l[j]? with
  | some a,some b=>Nbj b a&&calm b.op a.op
  | _,_=>false
def Nq6 (ops:Array Oper):List Nat->List Nat->Bool
 | _,[]=>true
 | A,i::B=>(match ops[i]? with
   | some o=>o.after.toList.all fun e=>!Region.binds .any e||A.contains e.on
   | none=>true)&&Nq6 ops (A++[i]) B
def Ncs (ops:Array Oper) (l:List AIns):List Nat->List Nat->Bool
 | _,[]=>true
 | A,i::B=>(A.all fun j=>Noc ops l i j)&&Ncs ops l (A++[i]) B
def nodupB:List Nat->Bool
 | []=>true
 | x::l=>!l.contains x&&nodupB l
def Nw0 (n:Nat) (ord:List Nat):Bool:=(ord.all (·<n))&&((List.range n).all fun i=>ord.contains i)&&nodupB ord
def N8a (l:List AIns) (b:List (Option Nat)) (i:AIns):Option Nat:=
 match i.op with
 | .storeD _ (.tmp t) _=>match (List.range l.length).find? fun k=>match l[k]? with
   | some a=>a.dst == some t&&(match a.op with | .alloc _=>true | _=>false)
   | none=>false with
   | some k=>b.getD k none
   | none=>none
 | _=>none
def QS (ops:Array Oper) (b:List (Option Nat)) (j:Nat) (i:AIns):AIns:=
 { i with dest:=b.getD j none,mask:=if kind i.op=.r\/kind i.op=.w\/kind i.op=.n\/kind i.op=.c then
     ((List.range b.length).filterMap fun a=>if a≠j/\!waits ops ops.size j a then b.getD a none else none) else [] }
def Zb:AOp->AOp
 | .append0 e b s x y=>.append e b s x y
 | .appendL e b s x y=>.append e b s x y
 | .storeD n a x=>.store n a x
 | .loadR none x=>.load1 x
 | .loadR (some n) x=>.loadN n x
 | .loadO none x _=>.load1 x
 | .loadO (some n) x _=>.loadN n x
 | .storeO n a x _=>.store n a x
 | .storeN n a x=>.store n a x
 | o=>o
def isNone:AOp->Bool
 | .buildSlice 0 _ _=>true
 | _=>false
def fresh (l:List AIns) (i:AIns):AIns:=
 match i.op with
 | .append e b s (.tmp t) y=>if l.any (fun j=>j.dst == some t&&isNone j.op) then { i with op:=.append0 e b s (.tmp t) y } else i
 | _=>i
def late (ops:Array Oper) (l:List AIns):Option Nat:=
 (List.range l.length).find? fun k=>match l[k]? with
  | some a=>(match a.op with | .append ..=>true | _=>false)&&(List.range l.length).any fun j=>j != k&&(match l[j]? with | some b=>isLoad b.op | none=>false)&&!waits ops ops.size j k&&!waits ops ops.size k j
  | none=>false
def toL (i:AIns):AIns:=match i.op with
 | .append e b s x y=>{ i with op:=.appendL e b s x y }
 | _=>i
def toS (l:List AIns) (i:AIns):AIns:=match i.op with
 | .store n (.tmp t) x=>if l.any (fun j=>j.dst == some t&&(match j.op with | .alloc _=>true | _=>false)) then { i with op:=.storeD n (.tmp t) x } else i
 | _=>i
def Yf (st:Bool) (l:List AIns) (i:AIns):AIns:=if st then toS l (fresh l i) else fresh l i
def Ndm (l:List AIns) (a:List (Option Nat)) (i:AIns):AIns:=if XO i.op then { i with dest:=N8a l a i } else i
def N7f (ops:Array Oper) (L:List AIns):Bool:=
 (List.range L.length).all fun i=>match L[i]? with
  | some x=>!(XO x.op)||(List.range L.length).all fun j=>i == j||waits ops ops.size i j||waits ops ops.size j i ||
    match x.dest,L[j]? with
    | some r,some y=>y.dest != some r&&(y.mask.contains r||kind y.op == .p||kind y.op == .a||kind y.op == .s)
    | _,_=>true
  | none=>true
def Ny9 (L:List AIns) (n:Nat):Bool:=L.all fun x=>!(XO x.op)||match x.dest with
 | some r=>decide (r<n)
 | none=>false
def ZR (ops:Array Oper) (l:List AIns) (k:Nat):Bool:=
 (List.range l.length).any fun j=>j != k&&(match l[j]? with | some b=>isRead b.op | none=>false)&&!waits ops ops.size j k&&!waits ops ops.size k j
def codeAny (p:Oper->Bool):Code->Bool
 | .region _ ops _=>ops.any p
 | .seq a b=>codeAny p a||codeAny p b
 | .cond _ a b=>codeAny p a||codeAny p b
 | .block _ b=>codeAny p b
 | .loop b=>codeAny p b
 | _=>false
def mapsIn:Nat->FuncId->Bool
 | 0,_=>false
 | n+1,g=>match P.funcs[g]? with
   | some fn=>match fn.body with
     | some b=>codeAny (fun o=>match o.op with
       | .mapUpdate .. | .insert .. | .mapEntry ..=>true
       | .call c=>match c.callee with
         | .value (.func g')=>mapsIn n g'
         | _=>false
       | _=>false) b
     | none=>false
   | none=>false
def Nnl (i:AIns):AIns:=match i.op with
 | .call .any (.func g) as=>if mapsIn P 3 g then { i with op:=.call .maps (.func g) as } else { i with op:=.call .mk (.func g) as }
 | .call .any f as=>{ i with op:=.call .mk f as }
 | _=>i
def Nfe (ops:Array Oper) (l:List AIns) (k:Nat):Bool:=
 (List.range l.length).any fun j=>j != k&&(match l[j]? with | some b=>(match b.op with | .call .any ..=>true | _=>false) | none=>false)&&!waits ops ops.size j k&&!waits ops ops.size k j
def Nkk (l:List AIns):Bool:=(l.all fun i=>!makes i.op)&&l.any fun i=>match i.op with | .store ..=>true | _=>false
def Nqh (l:List AIns):Operand->Option Operand
 | .tmp a=>match l.find? fun j=>j.dst == some a with
   | some j=>match j.op with
     | .fieldAddr _ (.tmp t)=>some (.tmp t)
     | _=>none
   | none=>none
 | _=>none
def Nzg (ops:Array Oper) (j k:Nat):Bool:=j != k&&!waits ops ops.size j k&&!waits ops ops.size k j
def Nce (ops:Array Oper) (l:List AIns) (k:Nat):Option Operand:=
 match (List.range l.length).find? fun j=>(match l[j]? with | some b=>(match b.op with | .store ..=>true | _=>false) | none=>false)&&Nzg ops j k with
 | some j=>match l[j]? with
   | some b=>match b.op with
     | .store _ a _=>Nqh l a
     | _=>none
   | none=>none
 | none=>none
def Nqg (ops:Array Oper) (l:List AIns) (k:Nat):Bool:=
 (List.range l.length).any fun j=>(match l[j]? with | some b=>(match b.op with | .load1 .. | .loadN ..=>true | _=>false) | none=>false)&&Nzg ops j k
def besideStoreN (ops:Array Oper) (l:List AIns) (k:Nat):Bool:=
 (List.range l.length).any fun j=>(match l[j]? with | some b=>(match b.op with | .store _ a _=>(Nqh l a).isNone | _=>false) | none=>false)&&Nzg ops j k
def Nj0 (ops:Array Oper) (l:List AIns) (k:Nat) (i:AIns):AIns:=match i.op with
 | .call .any f as=>if ZR ops l k then { i with op:=.call .recs f as } else i
 | .load1 x=>if Nfe ops l k||besideStoreN ops l k then { i with op:=.loadR none x } else match Nce ops l k with
   | some b=>{ i with op:=.loadO none x b }
   | none=>i
 | .loadN n x=>if Nfe ops l k||besideStoreN ops l k then { i with op:=.loadR (some n) x } else match Nce ops l k with
   | some b=>{ i with op:=.loadO (some n) x b }
   | none=>i
 | .store n a x=>if Nqg ops l k then match Nqh l a with
   | some b=>{ i with op:=.storeO n a x b }
   | none=>{ i with op:=.storeN n a x }
   else i
 | _=>i
def mks (l:List AIns):List Nat:=(List.range l.length).filter fun k=>match l[k]? with | some a=>N25 a.op||isMaps a.op||isRecs a.op | none=>false
def Nly (key:Nat->Nat) (j:Nat):List Nat->List Nat
 | []=>[j]
 | i::l=>if key j<key i then j::i::l else i::Nly key j l
def N4g (ops:Array Oper) (n:Nat) (ms:List Nat):Option Nat->List Nat
 | some k=>(List.range n).filter (fun j=>j == k||waits ops ops.size k j)++(List.range n).filter (fun j=>!(j == k||waits ops ops.size k j))
 | none=>match ms with
   | []=>List.range n
   | _=>
     let key:=fun j=>2*(ms.filter fun m=>waits ops ops.size j m).length+(if ms.contains j then 1 else 0)
     (List.range n).foldl (fun l j=>Nly key j l) []
def WI (st:Bool) (ops:Array Oper):Option ACode:=do
 let d <-ops.toList.mapM (Nqx P pureF true ops)
 let e:=d.map (Yf st d)
 let k:=late ops e
 let a:=e.zipIdx.map fun (i,j)=>if k=some j then toL i else i
 let l:=a.zipIdx.map fun (i,j)=>if Nkk a then Nj0 ops a j i else if ZR ops a j then Nnl P i else i
 let ord:=N4g ops l.length (mks l) k
 let b:=QB (l.map (·.op))
 let c:=l.zipIdx.map fun (i,j)=>Ndm l b (QS ops b j i)
 if Nw0 ops.size ord&&Nq6 ops [] ord&&Ncs ops l [] ord&&d.all (fun i=>!XO i.op)&&N7f ops c&&Ny9 c (b.filterMap id).length then
  pure (.drawn (b.filterMap id).length (ord.map fun j=>c.getD j default))
 else none
def Vq (ops:Array Oper):Option ACode:=match WI P pureF false ops with
 | some c=>some c
 | none=>WI P pureF true ops
def Xe:Code->Option ACode
 | .skip=>some .skip
 | .region _ ops d=>
   if d then Vq P pureF ops
   else do
    let l <-ops.toList.mapM (XX P pureF ops)
    pure (.ops l)
 | .seq a b=>do pure (.seq (<-Xe a) (<-Xe b))
 | .cond c a b=>do if PV c then pure (.cond c (<-Xe a) (<-Xe b)) else none
 | .block id b=>do pure (.block id (<-Xe b))
 | .loop b=>do pure (.loop (<-Xe b))
 | .exit id=>some (.exit id)
 | .ret=>some .ret
 | _=>none
def Mc:ResultVar->Option ARes
 | .tmp t=>some (.tmp t)
 | .cell a t=>do
   let n <-PG P t
   let b <-QT P t
   if b then pure (.cellN n a) else pure (.cell1 a)
def SQ:Code->Option ACode
 | .skip=>some .skip
 | .region _ ops d=>
   if d then Vq P pureF ops
   else do
    let l <-ops.toList.mapM (XX P pureF ops)
    pure (.ops l)
 | .seq a b=>do pure (.seq (<-SQ a) (<-SQ b))
 | .cond c a b=>do if PV c then pure (.cond c (<-SQ a) (<-SQ b)) else none
 | .block id b=>do pure (.block id (<-SQ b))
 | .loop b=>do pure (.loop (<-SQ b))
 | .exit id=>some (.exitR id)
 | .ret=>some .retR
 | _=>none
def TD:Code->Option ACode
 | .skip=>some .skip
 | .region _ ops d=>
   if d then Vq P pureF ops
   else do
    let l <-ops.toList.mapM (XX P pureF ops)
    pure (.ops l)
 | .seq a b=>do pure (.seq (<-TD a) (<-TD b))
 | .cond c a b=>do if PV c then pure (.cond c (<-TD a) (<-TD b)) else none
 | .block id b=>do pure (.block id (<-TD b))
 | .loop b=>do pure (.loop (<-TD b))
 | .exit id=>some (.exit id)
 | .ret=>some .retM
 | .rangeFunc f ps a b=>do if PV f then pure (.rangeF f ps.toList (<-SQ P pureF a) (<-SQ P pureF b)) else none
 | _=>none
def Nqy (f:FuncId):Option AFunc:=do
 let fn <-P.funcs[f]?
 let b <-fn.body
 let c <-Xe P pureF b
 let rs <-fn.results.toList.mapM (Mc P)
 if fn.name == "runtime.NumGoroutine" then none else
 pure { ntmps:=fn.ntmps,results:=rs,body:=c }
def Nqz (f:FuncId):Option AFunc:=do
 let fn <-P.funcs[f]?
 let b <-fn.body
 let c <-TD P pureF b
 let rs <-fn.results.toList.mapM (Mc P)
 if fn.name == "runtime.NumGoroutine" then none else
 pure { ntmps:=fn.ntmps,results:=rs,body:=.seq c .retM }
def Vg (f:FuncId):Option AFunc:=
 match Nqy P pureF f with
 | some a=>some a
 | none=>Nqz P pureF f
structure Loc where
 blk:Nat
 base:Nat
 room:Nat
abbrev PH:=Nat->Option Loc
inductive VRel (σ:PH):Value->Value->Prop
 | atom {v} (h:atom v=true):VRel σ v v
 | ptr {i k L} (h:σ i=some L):VRel σ (.pointer (some ⟨i,k,none⟩)) (.pointer (some ⟨L.blk,L.base+k,none⟩))
 | slice {i k L n c} (h:σ i=some L) (hc:c<2 ^ 62):VRel σ (.slice (some ⟨i,k,none⟩) n c) (.slice (some ⟨L.blk,L.base+k,none⟩) n c)
 | lslice {i k L n e c} (h:σ i=some L) (hn:n<=c) (hr:k+c*e<=L.room) :
   VRel σ (.slice (some ⟨i,k,none⟩) n (loose e)) (.slice (some ⟨L.blk,L.base+k,none⟩) n c)
 | eslice {i k L c a} (h:σ i=some L) (hc:c=0\/∃e,c=loose e):VRel σ (.slice (some ⟨i,k,none⟩) 0 c) (.slice (some a) 0 0)
 | map {i L} (h:σ i=some L):VRel σ (.map (some i)) (.map (some L.blk))
 | func {f:FuncId} {a b c d:Array Value} (h1:a.size=c.size) (h2:b.size=d.size)
   (k1:∀i (h:i<a.size) (h':i<c.size),VRel σ a[i] c[i]) (k2:∀i (h:i<b.size) (h':i<d.size),VRel σ b[i] d[i]) :
   VRel σ (.func (.func f) a b) (.func (.func f) c d)
 | yld {i L} (h:σ i=some L):VRel σ (.func (.yield i) #[] #[]) (.func (.yield L.blk) #[] #[])
 | agg {xs ys:Array Value} (h:xs.size=ys.size) (k:∀i (h:i<xs.size) (h':i<ys.size),VRel σ xs[i] ys[i]) (o:∀i (h:i<ys.size),ys[i].oneCell'=true):VRel σ (.agg xs) (.agg ys)
 | tuple {xs ys:Array Value} (h:xs.size=ys.size) (k:∀i (h:i<xs.size) (h':i<ys.size),VRel σ xs[i] ys[i]):VRel σ (.tuple xs) (.tuple ys)
def OG (σ:PH) (xs ys:List Value):Prop:=xs.length=ys.length/\∀(i:Nat) x y,xs[i]? = some x->ys[i]? = some y->VRel σ x y
def PH.le (σ τ:PH):Prop:=∀i L,σ i=some L->τ i=some L
theorem PH.le_refl (σ:PH):PH.le σ σ:=fun _ _ h=>h
theorem PH.le_trans {a b c:PH} (h:PH.le a b) (k:PH.le b c):PH.le a c:=fun i L hi=>k i L (h i L hi)
theorem VRel.mono {σ τ:PH} (hle:PH.le σ τ) {v v':Value} (h:VRel σ v v'):VRel τ v v':=by
 induction h with
 | atom h=>exact .atom h
 | ptr h=>exact .ptr (hle _ _ h)
 | slice h hc=>exact .slice (hle _ _ h) hc
 | lslice h hn hr=>exact .lslice (hle _ _ h) hn hr
 | eslice h hc=>exact .eslice (hle _ _ h) hc
 | map h=>exact .map (hle _ _ h)
 | yld h=>exact .yld (hle _ _ h)
 | func h1 h2 _ _ k1 k2=>exact .func h1 h2 k1 k2
 | agg h k o ih=>exact .agg h ih o
 | tuple h k ih=>exact .tuple h ih
theorem OG.mono {σ τ:PH} (hle:PH.le σ τ) {v v':List Value} (h:OG σ v v'):OG τ v v':=⟨h.1,fun i x y hx a=>(h.2 i x y hx a).mono hle⟩
theorem OG.nil {σ:PH}:OG σ [] []:=⟨rfl,fun i x y h=>by simp at h⟩
theorem OG.cons {σ:PH} {x y:Value} {xs ys:List Value} (h:VRel σ x y) (k:OG σ xs ys):OG σ (x::xs) (y::ys):=by
 refine ⟨by simp [k.1],fun i a b ha c=>?_⟩
 cases i with
 | zero=>simp at ha c;subst ha c;exact h
 | succ i=>simp at ha c;exact k.2 i a b ha c
theorem OG.head {σ:PH} {x y:Value} {xs ys:List Value} (h:OG σ (x::xs) (y::ys)):VRel σ x y:=h.2 0 x y rfl rfl
theorem OG.tail {σ:PH} {x y:Value} {xs ys:List Value} (h:OG σ (x::xs) (y::ys)):OG σ xs ys:=
 ⟨by have:=h.1;simp at this;exact this,fun i a b ha c=>h.2 (i+1) a b (by simpa using ha) (by simpa using c)⟩
theorem OG.append {σ:PH} {a b c d:List Value} (h:OG σ a c) (k:OG σ b d):OG σ (a++b) (c++d):=by
 refine ⟨by simp [h.1,k.1],fun i x y hx e=>?_⟩
 by_cases hi:i<a.length
 ·rw [N4 hi] at hx
  rw [N4 (by rw [<-h.1];exact hi)] at e
  exact h.2 i x y hx e
 ·rw [Oc (by omega)] at hx
  rw [Oc (by rw [<-h.1];omega),<-h.1] at e
  exact k.2 _ x y hx e
theorem OG.drop {σ:PH} {a b:List Value} (h:OG σ a b) (n:Nat):OG σ (a.drop n) (b.drop n):=
 ⟨by simp [h.1],fun i x y hx c=>h.2 (n+i) x y (by simpa using hx) (by simpa using c)⟩
theorem OG.take {σ:PH} {a b:List Value} (h:OG σ a b) (n:Nat):OG σ (a.take n) (b.take n):=by
 refine ⟨by simp [h.1],fun i x y hx c=>?_⟩
 simp only [Py] at hx c
 split at hx
 ·rename_i hi;rw [Nh hi] at c;exact h.2 i x y hx c
 ·cases hx
theorem OG.get {σ:PH} {a b:List Value} (h:OG σ a b) {i:Nat} {x:Value} (hx:a[i]? = some x):∃y,b[i]? = some y/\VRel σ x y:=by
 have hi:i<a.length:=(List.getElem?_eq_some_iff.1 hx).1
 have c:b[i]? = some (b[i]'(by rw [<-h.1];exact hi)):=Nf _
 exact ⟨_,c,h.2 i _ _ hx c⟩
theorem OG.refl_of {σ:PH} {a:List Value} (h:∀x∈a,VRel σ x x):OG σ a a:=
 ⟨rfl,fun i x y hx b=>by rw [hx] at b;cases b;exact h x (N8 hx)⟩
theorem OG.atoms {σ:PH} {a:List Value} (h:a.all atom=true):OG σ a a:=OG.refl_of fun x hx=>.atom (N6.1 h x hx)
theorem OG.set {σ:PH} {a b:List Value} (h:OG σ a b) {x y:Value} (k:VRel σ x y) (n:Nat):OG σ (a.set n x) (b.set n y):=by
 refine ⟨by simp [h.1],fun i u v c hv=>?_⟩
 rw [N1] at c hv
 by_cases hn:n=i
 ·subst hn
  rw [Nh rfl] at c hv
  split at c
  ·split at hv
   ·cases c;cases hv;exact k
   ·cases hv
  ·cases c
 ·rw [Ng hn] at c hv
  exact h.2 i u v c hv
theorem OG.map {σ:PH} {α:Type} (l:List α) (f g:α->Value) (h:∀x∈l,VRel σ (f x) (g x)):OG σ (l.map f) (l.map g):=by
 refine ⟨by simp,fun i u v d hv=>?_⟩
 simp only [O0,Nb] at d hv
 obtain ⟨a,ha,rfl⟩:=d
 obtain ⟨b,c,rfl⟩:=hv
 rw [ha] at c;cases c
 exact h a (N8 ha)
theorem VRel.agg_iff {σ:PH} {xs ys:Array Value}:VRel σ (.agg xs) (.agg ys)↔OG σ xs.toList ys.toList/\∀y∈ys.toList,y.oneCell'=true:=by
 constructor
 ·intro h
  cases h with
  | atom h=>simp [AM.atom] at h
  | agg h k o=>
    refine ⟨⟨by simpa using h,fun i x y hx a=>?_⟩,fun y a=>?_⟩
    ·simp only [Array.getElem?_toList] at hx a
     obtain ⟨hi,rfl⟩:=Array.getElem?_eq_some_iff.1 hx
     obtain ⟨b,rfl⟩:=Array.getElem?_eq_some_iff.1 a
     exact k i hi b
    ·obtain ⟨i,hi,rfl⟩:=Array.mem_iff_getElem.1 (Array.mem_toList_iff.1 a)
     exact o i hi
 ·rintro ⟨h,k⟩
  refine .agg (by simpa using h.1) (fun i h1 h2=>h.2 i _ _ (by simp [h1]) (by simp [h2])) (fun i h1=>k _ (by simp))
theorem VRel.tuple_iff {σ:PH} {xs ys:Array Value}:VRel σ (.tuple xs) (.tuple ys)↔OG σ xs.toList ys.toList:=by
 constructor
 ·intro h
  cases h with
  | atom h=>
    have h0:xs=#[]:=by simpa [AM.atom] using h
    subst h0
    exact OG.nil
  | tuple h k=>
    refine ⟨by simpa using h,fun i x y hx a=>?_⟩
    simp only [Array.getElem?_toList] at hx a
    obtain ⟨hi,rfl⟩:=Array.getElem?_eq_some_iff.1 hx
    obtain ⟨b,rfl⟩:=Array.getElem?_eq_some_iff.1 a
    exact k i hi b
 ·intro h
  exact .tuple (by simpa using h.1) fun i h1 h2=>h.2 i _ _ (by simp [h1]) (by simp [h2])
theorem VRel.agg_left {σ:PH} {xs:Array Value} {v:Value} (h:VRel σ (.agg xs) v):∃ys,v=.agg ys/\OG σ xs.toList ys.toList/\∀y∈ys.toList,y.oneCell'=true:=by
 cases h with
 | atom h=>simp [AM.atom] at h
 | agg h k o=>exact ⟨_,rfl,VRel.agg_iff.1 (.agg h k o)⟩
theorem VRel.tuple_left {σ:PH} {xs:Array Value} {v:Value} (h:VRel σ (.tuple xs) v):∃ys,v=.tuple ys/\OG σ xs.toList ys.toList:=by
 cases h with
 | atom h=>exact ⟨_,rfl,VRel.tuple_iff.1 (.atom h)⟩
 | tuple h k=>exact ⟨_,rfl,VRel.tuple_iff.1 (.tuple h k)⟩
theorem VRel.int_left {σ:PH} {k:IntKind} {n:Int} {v:Value} (h:VRel σ (.int k n) v):v=.int k n:=by cases h;rfl
theorem VRel.bool_left {σ:PH} {b:Bool} {v:Value} (h:VRel σ (.bool b) v):v=.bool b:=by cases h;rfl
theorem VRel.string_left {σ:PH} {b:ByteArray} {v:Value} (h:VRel σ (.string b) v):v=.string b:=by cases h;rfl
theorem VRel.nilptr_left {σ:PH} {v:Value} (h:VRel σ (.pointer none) v):v=.pointer none:=by cases h;rfl
theorem VRel.nilmap_left {σ:PH} {v:Value} (h:VRel σ (.map none) v):v=.map none:=by cases h;rfl
theorem VRel.nilfunc_left {σ:PH} {v:Value} (h:VRel σ .nilFunc v):v=.nilFunc:=by cases h;rfl
theorem VRel.nilslice_left {σ:PH} {n c:Nat} {v:Value} (h:VRel σ (.slice none n c) v):n=0/\c=0/\v=.slice none 0 0:=by
 cases h with
 | atom h=>
   have h0:n=0/\c=0:=by simpa [AM.atom] using h
   obtain ⟨rfl,rfl⟩:=h0
   exact ⟨rfl,rfl,rfl⟩
theorem VRel.ptr_left {σ:PH} {p:Addr} {v:Value} (h:VRel σ (.pointer (some p)) v):∃L,σ p.block=some L/\p.spot=none/\v=.pointer (some ⟨L.blk,L.base+p.off,none⟩):=by
 cases h with
 | atom h=>simp [AM.atom] at h
 | ptr h=>exact ⟨_,h,rfl,rfl⟩
theorem VRel.map_left {σ:PH} {r:Nat} {v:Value} (h:VRel σ (.map (some r)) v):∃L,σ r=some L/\v=.map (some L.blk):=by
 cases h with
 | atom h=>simp [AM.atom] at h
 | map h=>exact ⟨_,h,rfl⟩
theorem VRel.func_left {σ:PH} {f:FuncId} {a b:Array Value} {v:Value} (h:VRel σ (.func (.func f) a b) v):∃c d,v=.func (.func f) c d/\OG σ a.toList c.toList/\OG σ b.toList d.toList:=by
 have key:∀{x y:Array Value},x.size=y.size->(∀i (h:i<x.size) (h':i<y.size),VRel σ x[i] y[i])->OG σ x.toList y.toList:=by
  intro x y h k
  exact VRel.tuple_iff.1 (.tuple h k)
 cases h with
 | atom h=>
   have h0:a=#[]/\b=#[]:=by simpa [AM.atom] using h
   obtain ⟨rfl,rfl⟩:=h0
   exact ⟨_,_,rfl,OG.nil,OG.nil⟩
 | func h1 h2 k1 k2=>exact ⟨_,_,rfl,key h1 k1,key h2 k2⟩
theorem VRel.slice_left {σ:PH} {p:Addr} {n c:Nat} {v:Value} (h:VRel σ (.slice (some p) n c) v):p.spot=none/\∃L,σ p.block=some L/\
  ((c<2 ^ 62/\v=.slice (some ⟨L.blk,L.base+p.off,none⟩) n c)\/
   (∃e,c=loose e/\∃b,n<=b/\p.off+b*e<=L.room/\v=.slice (some ⟨L.blk,L.base+p.off,none⟩) n b)\/
   (∃a,(c=0\/∃e,c=loose e)/\n=0/\v=.slice (some a) 0 0)):=by
 cases h with
 | atom h=>simp [AM.atom] at h
 | slice h hc=>exact ⟨rfl,_,h,.inl ⟨hc,rfl⟩⟩
 | lslice h hn hr=>exact ⟨rfl,_,h,.inr (.inl ⟨_,rfl,_,hn,hr,rfl⟩)⟩
 | eslice h hc=>exact ⟨rfl,_,h,.inr (.inr ⟨_,hc,rfl,rfl⟩)⟩
theorem VRel.slice' {σ:PH} {a:Addr} {L:Loc} {n c:Nat} (hs:a.spot=none) (hL:σ a.block=some L) (hc:c<2 ^ 62):VRel σ (.slice (some a) n c) (.slice (some ⟨L.blk,L.base+a.off,none⟩) n c):=by
 obtain ⟨b,o,s⟩:=a
 simp only at hs;subst hs
 exact .slice hL hc
theorem VRel.eslice' {σ:PH} {a b:Addr} {L:Loc} {c:Nat} (hs:a.spot=none) (hL:σ a.block=some L) (hc:c=0\/∃e,c=AM.loose e):VRel σ (.slice (some a) 0 c) (.slice (some b) 0 0):=by
 obtain ⟨b,o,s⟩:=a
 simp only at hs;subst hs
 exact .eslice hL hc
theorem VRel.cells {σ:PH} {v v':Value} (h:VRel σ v v'):OG σ v.cells.toList v'.cells.toList:=by
 cases h with
 | agg h k o=>exact (VRel.agg_iff.1 (.agg h k o)).1
 | atom h=>
   cases v<;>first | exact OG.cons (.atom h) OG.nil | (simp [AM.atom] at h)
 | ptr h=>exact OG.cons (.ptr h) OG.nil
 | slice h hc=>exact OG.cons (.slice h hc) OG.nil
 | lslice h hn hr=>exact OG.cons (.lslice h hn hr) OG.nil
 | eslice h hc=>exact OG.cons (.eslice h hc) OG.nil
 | map h=>exact OG.cons (.map h) OG.nil
 | yld h=>exact OG.cons (.yld h) OG.nil
 | func h1 h2 k1 k2=>exact OG.cons (.func h1 h2 k1 k2) OG.nil
 | tuple h k=>exact OG.cons (.tuple h k) OG.nil
theorem VRel.cells_one {σ:PH} {v v':Value} (h:VRel σ v v') (ht:NB v=true):∀x∈v'.cells.toList,x.oneCell'=true:=by
 intro x hx
 cases h with
 | agg h k o=>exact (VRel.agg_iff.1 (.agg h k o)).2 x hx
 | atom h=>cases v<;>first | (simp [NB] at ht;done) | (simp [Value.cells] at hx;subst hx;rfl) | (simp [AM.atom] at h;done)
 | tuple h k=>simp [NB] at ht
 | _=>simp [Value.cells] at hx;subst hx;rfl
def owned:Blk->Bool
 | .dead=>false
 | .cells ro _=>!ro
 | _=>true
def alive:Blk->Bool
 | .dead=>false
 | _=>true
def Nvy (fz:Nat×Nat) (n:Nat):Prop:=fz.1=fz.2\/n<=fz.1
theorem Nvy.ok {fz:Nat×Nat} {n:Nat} (h:Nvy fz n) (o:Nat) (ho:o<n):¬(fz.1<=o/\o<fz.2):=by
 rcases h with h | h<;>omega
structure Prg where
 P:Program
 pf:FuncId->Bool
def N7d:Nat->LoopState
 | 0=>.ready
 | 1=>.busy
 | _=>.done
structure LoopRel (Pg:Prg) (σ:PH) (x:LoopB) (lp:Loop):Prop where
 st:lp.state=N7d x.st
 pend:match x.pend with
  | none=>lp.pending=none
  | some c=>∃C,lp.pending=some C/\TD Pg.P Pg.pf C=some c
 size:x.N<=lp.tmps.size
 val:∀t,VRel σ (x.fr t) (lp.tmps.getD t undef)
 params:lp.params.toList=x.params
 assign:SQ Pg.P Pg.pf lp.assign=some x.assign
 body:SQ Pg.P Pg.pf lp.body=some x.body
theorem LoopRel.mono {Pg:Prg} {σ τ:PH} (hle:PH.le σ τ) {x:LoopB} {lp:Loop} (h:LoopRel Pg σ x lp):LoopRel Pg τ x lp:=
 ⟨h.st,h.pend,h.size,fun t=>(h.val t).mono hle,h.params,h.assign,h.body⟩
def Nqs (n clock:Nat) (ents:Array MapEntry):Prop:=clock=n/\∀(j:Nat) e,ents[j]? = some e->e.born=j
def Nc1 (σ:PH) (m a:Option Nat):Prop:=match m with
 | none=>a=none
 | some r=>∃L,σ r=some L/\a=some L.blk
theorem Nc1.mono {σ τ:PH} (hle:PH.le σ τ) {m m':Option Nat} (h:Nc1 σ m m'):Nc1 τ m m':=by
 cases m with
 | none=>exact h
 | some r=>obtain ⟨L,h1,h2⟩:=h;exact ⟨L,hle _ _ h1,h2⟩
def U1 (Pg:Prg) (σ:PH) (w:World) (L:Loc):Blk->Prop
 | .dead=>True
 | .cells ro c=>∃cs el fz,w.heap[L.blk]? = some (.cells cs el fz)/\
   (∀(j:Nat) v,c[j]? = some v->∃v',cs[L.base+j]? = some v'/\VRel σ v v'/\v'.oneCell'=true)/\
   (ro=false->L.base+L.room<=cs.size/\c.length<=L.room/\Nvy fz cs.size)
 | .map es=>∃ents clock,w.heap[L.blk]? = some (.map ents clock)/\ents.size=es.length/\
   (∀(j:Nat) e a,es[j]? = some e->ents[j]? = some a->e.1=a.key/\VRel σ e.2 a.val)/\Nqs es.length clock ents
 | .iter m n seen=>L.base=0/\∃b,Nc1 σ m b/\w.heap[L.blk]? = some (.mapIter b (if m.isSome then n else 0) seen.toArray (if m.isSome then n else 0))/\∀j∈seen,j<n
 | .loop x=>∃lp,w.heap[L.blk]? = some (.loop lp)/\LoopRel Pg σ x lp
 | .dfr=>w.heap[L.blk]? = some (.deferred (some []))
structure Inv (Pg:Prg) (W:Nat->Prop) (lim:Nat) (σ:PH) (H:NA) (w:World):Prop where
 blk:∀(i:Nat) b,H[i]? = some b->alive b=true->∃L,σ i=some L/\U1 Pg σ w L b
 inj:∀(i j:Nat) bi bj Li Lj,H[i]? = some bi->H[j]? = some bj->i≠j->owned bi=true->alive bj=true->σ i=some Li->σ j=some Lj->Li.blk≠Lj.blk
 wr:∀(i:Nat) b L,H[i]? = some b->owned b=true->lim<=i->σ i=some L->W L.blk
 fresh:∀b,w.heap.size<=b->W b
 dom:∀i,H.length<=i->σ i=none
structure Stp (W:Nat->Prop) (w w':World):Prop where
 os:w'.os=w.os
 tape:w'.tape=w.tape
 output:w'.output=w.output/\w.drawn<=w'.drawn
 size:w.heap.size<=w'.heap.size
 block:∀b,¬W b->w'.heap[b]? = w.heap[b]?
theorem Stp.refl (W:Nat->Prop) (w:World):Stp W w w:=⟨rfl,rfl,⟨rfl,Nd _⟩,Nd _,fun _ _=>rfl⟩
theorem Stp.trans {W:Nat->Prop} {a b c:World} (h:Stp W a b) (k:Stp W b c):Stp W a c:=
 ⟨k.os.trans h.os,k.tape.trans h.tape,⟨k.output.1.trans h.output.1,Qc h.output.2 k.output.2⟩,Qc h.size k.size,fun i hi=>(k.block i hi).trans (h.block i hi)⟩
theorem PR {b:Blk} (h:owned b=true):alive b=true:=by cases b<;>simp_all [owned,alive]
theorem U1.lt {Pg:Prg} {σ:PH} {w:World} {L:Loc} {b:Blk} (h:U1 Pg σ w L b) (ha:alive b=true):L.blk<w.heap.size:=by
 have key:∀{o:Obj},w.heap[L.blk]? = some o->L.blk<w.heap.size:=fun h=>(Array.getElem?_eq_some_iff.1 h).1
 cases b with
 | dead=>simp [alive] at ha
 | cells ro c=>obtain ⟨_,_,_,a,_⟩:=h;exact key a
 | map es=>obtain ⟨_,_,a,_⟩:=h;exact key a
 | iter m n seen=>obtain ⟨_,_,_,a,_⟩:=h;exact key a
 | loop x=>obtain ⟨_,a,_⟩:=h;exact key a
 | dfr=>exact key h
theorem U1.mono {Pg:Prg} {σ τ:PH} (hle:PH.le σ τ) {w w':World} {L:Loc} {b:Blk} (h:U1 Pg σ w L b) (hw:alive b=true->w'.heap[L.blk]? = w.heap[L.blk]?):U1 Pg τ w' L b:=by
 cases b with
 | dead=>trivial
 | cells ro c=>
   obtain ⟨cs,el,fz,a,hc,ho⟩:=h
   refine ⟨cs,el,fz,by rw [hw rfl];exact a,fun j v hv=>?_,ho⟩
   obtain ⟨v',h1,h2,d⟩:=hc j v hv
   exact ⟨v',h1,h2.mono hle,d⟩
 | map es=>
   obtain ⟨i,cl,a,hs,hk,f⟩:=h
   exact ⟨i,cl,by rw [hw rfl];exact a,hs,fun j e g h1 h2=>⟨(hk j e g h1 h2).1,(hk j e g h1 h2).2.mono hle⟩,f⟩
 | iter m n seen=>
   obtain ⟨h0,k,h1,h2,d⟩:=h
   exact ⟨h0,k,h1.mono hle,by rw [hw rfl];exact h2,d⟩
 | loop x=>
   obtain ⟨lp,a,hk⟩:=h
   exact ⟨lp,by rw [hw rfl];exact a,hk.mono hle⟩
 | dfr=>show w'.heap[L.blk]? = _;rw [hw rfl];exact h
section
variable {Pg:Prg} {W:Nat->Prop} {lim:Nat} {σ:PH} {H:NA} {w:World}
theorem QX {i:Nat} {b:Blk} (h:NC H i=b) (a:alive b=true):H[i]? = some b:=by
 unfold NC at h
 rw [Na] at h
 cases hi:H[i]? with
 | none=>rw [hi] at h;simp at h;subst h;simp [alive] at a
 | some x=>rw [hi] at h;simp at h;rw [h]
theorem Inv.lt (h:Inv Pg W lim σ H w) {i:Nat} {L:Loc} (hi:σ i=some L):i<H.length:=by
 rcases Ou i H.length with h1 | h1
 ·exact h1
 ·rw [h.dom i h1] at hi;cases hi
theorem Inv.cells (h:Inv Pg W lim σ H w) {i:Nat} {ro:Bool} {c:List Value} (a:NC H i=.cells ro c) {L:Loc} (hL:σ i=some L) :
  ∃cs el fz,w.heap[L.blk]? = some (.cells cs el fz)/\(∀(j:Nat) v,c[j]? = some v->∃v',cs[L.base+j]? = some v'/\VRel σ v v'/\v'.oneCell'=true)/\
   (ro=false->L.base+L.room<=cs.size/\c.length<=L.room/\Nvy fz cs.size):=by
 obtain ⟨b,h1,h2⟩:=h.blk i _ (QX a rfl) rfl
 rw [hL] at h1;cases h1
 exact h2
theorem cell_of_heap {b o:Nat} {cs:Array Value} {el:TypeId} {fz:Nat×Nat} {v:Value} (h:w.heap[b]? = some (.cells cs el fz)) (hv:cs[o]? = some v):w.cell? ⟨b,o,none⟩=some v:=by
 simp [World.cell?,h,hv]
theorem Inv.loadCell (h:Inv Pg W lim σ H w) {p:Addr} {v:Value} {L:Loc} (hL:σ p.block=some L) (hv:loadCell H p=some v) :
  ∃v',w.cell? ⟨L.blk,L.base+p.off,none⟩=some v'/\VRel σ v v'/\v'.oneCell'=true:=by
 unfold AM.loadCell at hv
 split at hv
 ·rename_i ro c a
  obtain ⟨cs,el,fz,b,hc,_⟩:=h.cells a hL
  obtain ⟨v',h1,h2⟩:=hc _ _ hv
  exact ⟨v',cell_of_heap b h1,h2⟩
 ·cases hv
theorem Inv.loadCells (h:Inv Pg W lim σ H w) {p:Addr} {n:Nat} {l:List Value} {L:Loc} (hL:σ p.block=some L) (hv:loadCells H p n=some l) :
  ∃d,OG σ l d/\d.length=n/\(∀y∈d,y.oneCell'=true)/\∀(j:Nat) v,d[j]? = some v->w.cell? ⟨L.blk,L.base+p.off+j,none⟩=some v:=by
 unfold AM.loadCells at hv
 split at hv
 case h_2=>cases hv
 rename_i ro c m
 split at hv
 case isFalse=>cases hv
 rename_i g
 cases hv
 obtain ⟨cs,el,fz,o,hc,_⟩:=h.cells m hL
 refine ⟨(List.range n).map fun j=>cs.getD (L.base+p.off+j) undef, ?_,by simp, ?_, ?_⟩
 ·refine ⟨by simp;omega,fun i x y hx b=>?_⟩
  simp only [Py,Qy] at hx
  split at hx
  case isFalse=>cases hx
  rename_i hi
  obtain ⟨v',h1,h2,_⟩:=hc _ _ hx
  rw [O0,List.getElem?_range hi] at b
  simp only [Nr,Option.some.injEq] at b
  subst b
  rw [show L.base+p.off+i=L.base+(p.off+i) by omega,N2,h1]
  exact h2
 ·intro y b
  obtain ⟨j,f,rfl⟩:=List.mem_map.1 b
  have f:=List.mem_range.1 f
  obtain ⟨v',h1,_,k⟩:=hc (p.off+j) _ (Nf (by omega))
  rw [show L.base+p.off+j=L.base+(p.off+j) by omega,N2,h1]
  exact k
 ·intro j v hv
  rw [O0] at hv
  simp only [Nb] at hv
  obtain ⟨q,a,rfl⟩:=hv
  have e:j<n:=by
   have:=(List.getElem?_eq_some_iff.1 a).1
   simpa using this
  rw [List.getElem?_range e] at a
  cases a
  obtain ⟨v',h1,_⟩:=hc (p.off+j) _ (Nf (by omega))
  refine cell_of_heap o ?_
  rw [show L.base+p.off+j=L.base+(p.off+j) by omega,N2,h1]
  rfl
def PH.put (σ:PH) (i:Nat) (L:Loc):PH:=fun j=>if j=i then some L else σ j
theorem PH.le_put {σ:PH} {i:Nat} {L:Loc} (h:σ i=none):PH.le σ (σ.put i L):=fun j M a=>by
 unfold PH.put
 split
 ·rename_i e;subst e;rw [h] at a;cases a
 ·exact a
theorem PH.put_same {σ:PH} {i:Nat} {L:Loc}:σ.put i L i=some L:=by simp [PH.put]
theorem Tg {dest:Option Nat} {b:Blk} {H H':NA} {i:Nat} (h:place dest b H=(i,H')) (hd:∀d,dest=some d->d<H.length) :
  H'[i]? = some b/\(∀j,j≠i->H'[j]? = H[j]?)/\H.length<=H'.length/\(∀j,H'.length<=j->H.length<=j/\j≠i)/\(dest=none->i=H.length)/\(∀d,dest=some d->i=d/\H'.length=H.length)/\i<H'.length:=by
 unfold place at h
 cases dest with
 | none=>
   simp only [Prod.mk.injEq] at h
   obtain ⟨rfl,rfl⟩:=h
   refine ⟨by simp,fun j a=>?_,by simp,fun j a=>?_,fun _=>rfl,fun d hd=>absurd hd (by simp),by simp⟩
   ·rcases Ou j H.length with h1 | h1
    ·rw [N4 h1]
    ·rw [Oc h1,Nu h1,Nu]
     simp;omega
   ·simp at a;omega
 | some d=>
   simp only [Prod.mk.injEq] at h
   obtain ⟨rfl,rfl⟩:=h
   have c:=hd d rfl
   refine ⟨by simp [c],fun j a=>by rw [N1,Ng (fun e=>a e.symm)],by simp,fun j a=>?_,fun h=>absurd h (by simp),(fun x hx=>by cases hx;exact ⟨rfl,by simp⟩),by simpa using c⟩
   simp at a;omega
theorem Inv.adopt (h:Inv Pg W lim σ H w) {H':NA} {i:Nat} {b:Blk} {L:Loc} (hi:H'[i]? = some b) (q:∀j,j≠i->H'[j]? = H[j]?) (r:∀j,H'.length<=j->H.length<=j/\j≠i)
  (z:σ i=none) (B:U1 Pg (σ.put i L) w L b) (ho:owned b=true) (A:W L.blk)
  (n:∀(j:Nat) bj Lj,j≠i->H[j]? = some bj->alive bj=true->σ j=some Lj->Lj.blk≠L.blk):Inv Pg W lim (σ.put i L) H' w:=by
 refine ⟨fun j bj a u=>?_,fun j k bj y Lj s a d l m p c g=>?_,fun j bj Lj a m x c=>?_,h.fresh,fun j v=>?_⟩
 ·by_cases e:j=i
  ·subst e
   rw [hi] at a;cases a
   exact ⟨L,PH.put_same,B⟩
  ·rw [q j e] at a
   obtain ⟨Lj,h1,h2⟩:=h.blk j bj a u
   exact ⟨Lj,PH.le_put z _ _ h1,h2.mono (PH.le_put z) fun _=>rfl⟩
 ·by_cases e:j=i
  ·subst e
   rw [hi] at a;cases a
   rw [PH.put_same] at c;cases c
   rw [q k (Ne.symm l)] at d
   have o:σ k=some s:=by simpa [PH.put,Ne.symm l] using g
   exact fun e=>n k y s (Ne.symm l) d p o e.symm
  ·have f:σ j=some Lj:=by simpa [PH.put,e] using c
   rw [q j e] at a
   by_cases t:k=i
   ·subst t
    rw [PH.put_same] at g;cases g
    exact n j bj Lj e a (PR m) f
   ·have o:σ k=some s:=by simpa [PH.put,t] using g
    rw [q k t] at d
    exact h.inj j k bj y Lj s a d l m p f o
 ·by_cases e:j=i
  ·subst e
   rw [PH.put_same] at c;cases c
   exact A
  ·have f:σ j=some Lj:=by simpa [PH.put,e] using c
   rw [q j e] at a
   exact h.wr j bj Lj a m x f
 ·obtain ⟨h1,h2⟩:=r j v
  simp [PH.put,h2,h.dom j h1]
theorem Inv.world (h:Inv Pg W lim σ H w) {w':World} (hs:w.heap.size<=w'.heap.size) (c:∀b,b<w.heap.size->w'.heap[b]? = w.heap[b]?):Inv Pg W lim σ H w':=by
 refine ⟨fun i b a ha=>?_,h.inj,h.wr,fun b a=>h.fresh b (by omega),h.dom⟩
 obtain ⟨L,h1,h2⟩:=h.blk i b a ha
 exact ⟨L,h1,h2.mono (PH.le_refl σ) fun _=>c _ (h2.lt ha)⟩
theorem Uc (w:World) (o:Obj):(w.alloc o).heap=w.heap.push o:=rfl
theorem Stp.alloc (c:∀b,w.heap.size<=b->W b) (o:Obj):Stp W w (w.alloc o):=by
 refine ⟨rfl,rfl,⟨rfl,Nd _⟩,by simp,fun b a=>?_⟩
 rw [Uc,Pn]
 split
 ·rename_i e;exact absurd (c b (by omega)) a
 ·rfl
theorem Stp.drew:Stp W w w.drew:=⟨rfl,rfl,⟨rfl,Nat.le_succ _⟩,Nd _,fun _ _=>rfl⟩
theorem Inv.drew (h:Inv Pg W lim σ H w):Inv Pg W lim σ H w.drew:=h.world (Nd _) fun _ _=>rfl
theorem Inv.alloc (h:Inv Pg W lim σ H w) {dest:Option Nat} {c:List Value} {H':NA} {i:Nat} (hp:place dest (.cells false c) H=(i,H')) (hd:∀d,dest=some d->d<H.length/\σ d=none)
  {cs:Array Value} {el:TypeId} (hc:∀(j:Nat) v,c[j]? = some v->∃v',cs[j]? = some v'/\VRel σ v v'/\v'.oneCell'=true) (hn:c.length<=cs.size) :
  Inv Pg W lim (σ.put i ⟨w.heap.size,0,cs.size⟩) H' (w.alloc (.cells cs el))/\σ i=none:=by
 obtain ⟨k,l,s,m,n,o,t⟩:=Tg hp fun d e=>(hd d e).1
 have g:σ i=none:=by
  cases dest with
  | none=>rw [n rfl];exact h.dom _ (Nd _)
  | some d=>rw [(o d rfl).1];exact (hd d rfl).2
 refine ⟨?_,g⟩
 have hw:Inv Pg W lim σ H (w.alloc (.cells cs el)):=h.world (by simp) fun b u=>by rw [Uc,Pn];rw [Ng (by omega)]
 refine hw.adopt k l m g ?_ rfl (h.fresh _ (Nd _)) fun j bj Lj q f ha a e=>?_
 ·refine ⟨cs,el,(0,0),by simp [Uc],fun j v hv=>?_,fun _=>⟨by simp,by simpa using hn,.inl rfl⟩⟩
  obtain ⟨v',h1,h2,p⟩:=hc j v hv
  exact ⟨v',by simpa using h1,h2.mono (PH.le_put g),p⟩
 ·obtain ⟨r,h1,h2⟩:=h.blk j bj f ha
  rw [a] at h1;cases h1
  have:=h2.lt ha
  simp at e
  omega
theorem Inv.allocMap (h:Inv Pg W lim σ H w) {dest:Option Nat} {H':NA} {i:Nat} (hp:place dest (.map []) H=(i,H')) (hd:∀d,dest=some d->d<H.length/\σ d=none) :
  Inv Pg W lim (σ.put i ⟨w.heap.size,0,0⟩) H' (w.alloc (.map #[] 0))/\σ i=none:=by
 obtain ⟨g,k,r,l,m,n,s⟩:=Tg hp fun d e=>(hd d e).1
 have f:σ i=none:=by
  cases dest with
  | none=>rw [m rfl];exact h.dom _ (Nd _)
  | some d=>rw [(n d rfl).1];exact (hd d rfl).2
 refine ⟨?_,f⟩
 have hw:Inv Pg W lim σ H (w.alloc (.map #[] 0)):=h.world (by simp) fun b t=>by rw [Uc,Pn];rw [Ng (by omega)]
 refine hw.adopt g k l f ?_ rfl (h.fresh _ (Nd _)) fun j bj Lj o c ha a e=>?_
 ·exact ⟨#[],0,by simp [Uc],by simp,(fun j e q h1 h2=>by simp at h1),rfl,fun j e h1=>by simp at h1⟩
 ·obtain ⟨p,h1,h2⟩:=h.blk j bj c ha
  rw [a] at h1;cases h1
  have:=h2.lt ha
  simp at e
  omega
end
theorem Zh:∀(vs c:List Value) (o:Nat),(QW c o vs).length=c.length
 | [],_,_=>rfl
 | v::vs,c,o=>by simp [QW,Zh vs]
theorem Z9:∀(vs c:List Value) (o j:Nat),j<o\/o+vs.length<=j->(QW c o vs)[j]? = c[j]?
 | [],_,_,_,_=>rfl
 | v::vs,c,o,j,h=>by
   simp only [Nk] at h
   rw [QW,Z9 vs _ _ _ (by omega),N1,Ng (by omega)]
theorem Ngr:∀(vs c:List Value) (o j:Nat) v,vs[j]? = some v->o+vs.length<=c.length->(QW c o vs)[o+j]? = some v
 | [],_,_,_,_,h,_=>by simp at h
 | u::vs,c,o,j,v,h,hl=>by
   simp only [Nk] at hl
   cases j with
   | zero=>
     simp at h;subst h
     have:o<c.length:=by omega
     rw [QW,Z9 vs _ _ _ (by omega)]
     simp [this]
   | succ j=>
     rw [QW,show o+(j+1)=o+1+j by omega]
     exact Ngr vs _ (o+1) j v (by simpa using h) (by simp;omega)
theorem heap_setCell {w:World} {b o:Nat} {v:Value} {cs:Array Value} {el:TypeId} {fz:Nat×Nat} (h:w.heap[b]? = some (.cells cs el fz)) :
  (w.setCell ⟨b,o,none⟩ v).heap[b]? = some (.cells (cs.setIfInBounds o v) el fz):=by
 obtain ⟨f1,f2⟩:=fz
 simp [World.setCell,Array.getElem?_modify,h]
theorem Ncn {w:World} {b o k:Nat} {v:Value} (h:k≠b):(w.setCell ⟨b,o,none⟩ v).heap[k]? = w.heap[k]?:=by
 simp [World.setCell,Array.getElem?_modify,Ne.symm h]
structure Wrote (w w':World) (b o:Nat) (vs:List Value) (cs:Array Value) (el:TypeId) (fz:Nat×Nat) (cs':Array Value):Prop where
 heap:w'.heap[b]? = some (.cells cs' el fz)
 size:cs'.size=cs.size
 out:∀j,j<o\/o+vs.length<=j->cs'[j]? = cs[j]?
 inn:∀(j:Nat) v,vs[j]? = some v->cs'[o+j]? = some v
 other:∀k,k≠b->w'.heap[k]? = w.heap[k]?
 len:w'.heap.size=w.heap.size
 os:w'.os=w.os
 tape:w'.tape=w.tape
 output:w'.output=w.output/\w.drawn<=w'.drawn
theorem VH (b:Nat) (el:TypeId) (fz:Nat×Nat):∀(vs:List Value) (o:Nat) (w:World) (cs:Array Value),w.heap[b]? = some (.cells cs el fz)->o+vs.length<=cs.size->
  ∃cs',Wrote w (w.setCells b o vs) b o vs cs el fz cs'
 | [],o,w,cs,h,_=>⟨cs,h,rfl,fun _ _=>rfl,fun j v hv=>by simp at hv,fun _ _=>rfl,rfl,rfl,rfl,⟨rfl,Nd _⟩⟩
 | v::vs,o,w,cs,h,hl=>by
   simp only [Nk] at hl
   obtain ⟨cs',k⟩:=VH b el fz vs (o+1) (w.setCell ⟨b,o,none⟩ v) _ (heap_setCell h) (by simp;omega)
   refine ⟨cs',k.heap,by rw [k.size];simp,fun j c=>?_,fun j u a=>?_,fun m hm=>by rw [World.setCells,k.other m hm,Ncn hm], ?_, ?_, ?_, ?_⟩
   ·simp only [Nk] at c
    rw [k.out j (by omega),Pu (by omega)]
   ·cases j with
    | zero=>
      simp at a;subst a
      rw [Pd,k.out o (by omega),Array.getElem?_setIfInBounds_self]
      simp;omega
    | succ j=>
      rw [show o+(j+1)=o+1+j by omega]
      exact k.inn j u (by simpa using a)
   ·rw [World.setCells,k.len];simp
   ·rw [World.setCells,k.os];rfl
   ·rw [World.setCells,k.tape];rfl
   ·rw [World.setCells];exact ⟨k.output.1.trans rfl,k.output.2⟩
section
variable {Pg:Prg} {W:Nat->Prop} {lim:Nat} {σ:PH} {H:NA} {w:World}
theorem Inv.rewrite (h:Inv Pg W lim σ H w) {i:Nat} {b b':Blk} {L:Loc} (hi:H[i]? = some b) (ho:owned b=true) (hL:σ i=some L) {w':World} (hs:w'.heap.size=w.heap.size)
  (v:∀k,k≠L.blk->w'.heap[k]? = w.heap[k]?) (q:U1 Pg σ w' L b') (x:alive b'=true->owned b'=true):Inv Pg W lim σ (H.set i b') w':=by
 have r:i<H.length:=(List.getElem?_eq_some_iff.1 hi).1
 have gs:(H.set i b')[i]? = some b':=by rw [N1,Nh rfl,Nh r]
 have m:∀j,j≠i->(H.set i b')[j]? = H[j]?:=fun j s=>by rw [N1,Ng (Ne.symm s)]
 refine ⟨fun j bj a ha=>?_,fun j k bj t Lj p a d f g n c l=>?_,fun j bj Lj a g o c=>?_,fun b y=>h.fresh b (by omega),fun j s=>h.dom j (by simpa using s)⟩
 ·by_cases e:j=i
  ·subst e
   rw [gs] at a;cases a
   exact ⟨L,hL,q⟩
  ·rw [m j e] at a
   obtain ⟨Lj,h1,h2⟩:=h.blk j bj a ha
   exact ⟨Lj,h1,h2.mono (PH.le_refl σ) fun ha=>v _ (Ne.symm (h.inj i j b bj L Lj hi a (Ne.symm e) ho ha hL h1))⟩
 ·by_cases e:j=i
  ·subst e
   rw [m k (Ne.symm f)] at d
   exact h.inj j k b t Lj p hi d f ho n c l
  ·rw [m j e] at a
   by_cases u:k=i
   ·subst u
    exact h.inj j k bj b Lj p a hi f g (PR ho) c l
   ·rw [m k u] at d
    exact h.inj j k bj t Lj p a d f g n c l
 ·by_cases e:j=i
  ·subst e;exact h.wr j b Lj hi ho o c
  ·rw [m j e] at a;exact h.wr j bj Lj a g o c
theorem Stp.one {w':World} {blk:Nat} (c:W blk) (f:∀k,k≠blk->w'.heap[k]? = w.heap[k]?) (hs:w'.heap.size=w.heap.size) (h1:w'.os=w.os) (h2:w'.tape=w.tape) (a:w'.output=w.output/\w.drawn<=w'.drawn):Stp W w w':=
 ⟨h1,h2,a,Nat.le_of_eq hs.symm,fun b d=>f b fun e=>d (e▸c)⟩
theorem Inv.store {P:Program} (h:Inv Pg W lim σ H w) {p:Addr} {vs a:List Value} {H':NA} {L:Loc} (hL:σ p.block=some L) (hv:storeAt lim H p vs=some H') (hr:OG σ vs a) (h1:∀v∈a,v.oneCell'=true) :
  ∃w',(storeCells ⟨L.blk,L.base+p.off,none⟩ a).run P w=.ok () w'/\Inv Pg W lim σ H' w'/\Stp W w w'/\H'.length=H.length:=by
 unfold storeAt at hv
 split at hv
 case h_2=>cases hv
 rename_i c s
 split at hv
 case isFalse=>cases hv
 rename_i d
 obtain ⟨f,t⟩:=d
 cases hv
 have e:=QX s rfl
 obtain ⟨cs,el,fz,l,hc,ho⟩:=h.cells s hL
 obtain ⟨o,q,g⟩:=ho rfl
 have B:=hr.1
 obtain ⟨cs',k⟩:=VH L.blk el fz a (L.base+p.off) w cs l (by omega)
 refine ⟨_,run_storeCells_cells (P:=P) L.blk (L.base+p.off) a 0 w (fun j m=>?_) (fun j m=>?_) h1, ?_, ?_,by simp⟩
 ·rw [cell_of_heap l (Ny (by omega))];rfl
 ·simp only [World.frozen?,l]
  have:=g.ok (L.base+p.off+0+j) (by omega)
  obtain ⟨f1,f2⟩:=fz
  simp at this⊢
  exact this
 ·refine h.rewrite e rfl hL k.len k.other ⟨cs',el,fz,k.heap,fun j v b=>?_,fun _=>⟨by rw [k.size];exact o,by rw [Zh];exact q,by rw [k.size];exact g⟩⟩ (fun _=>rfl)
  by_cases m:j<p.off\/p.off+vs.length<=j
  ·rw [Z9 vs c p.off j m] at b
   obtain ⟨v',x,z,A⟩:=hc j v b
   exact ⟨v',by rw [k.out _ (by omega)];exact x,z,A⟩
  ·have n:j=p.off+(j-p.off):=by omega
   have i:vs[j-p.off]? = some (vs[j-p.off]'(by omega)):=Nf _
   rw [n,Ngr vs c p.off (j-p.off) _ i (by omega)] at b
   cases b
   obtain ⟨y,u,r⟩:=hr.get i
   exact ⟨y,by rw [show L.base+j=L.base+p.off+(j-p.off) by omega];exact k.inn _ _ u,r,h1 y (N8 u)⟩
 ·exact Stp.one (h.wr _ _ _ e rfl f hL) k.other k.len k.os k.tape k.output
theorem Inv.killAny (h:Inv Pg W lim σ H w) (i:Nat):Inv Pg W lim σ (H.set i .dead) w:=by
 have f:∀(j:Nat) b,(H.set i .dead)[j]? = some b->alive b=true->H[j]? = some b/\j≠i:=fun j b a ha=>by
  rw [N1] at a
  split at a
  ·split at a
   ·cases a;simp [alive] at ha
   ·cases a
  ·rename_i e;exact ⟨a,fun r=>e r.symm⟩
 refine ⟨fun j b a ha=>h.blk j b (f j b a ha).1 ha,fun j k bj p Lj q g l o d c m n=>?_,fun j b L a ho hl hL=>h.wr j b L (f j b a (PR ho)).1 ho hl hL,h.fresh,fun j s=>h.dom j (by simpa using s)⟩
 exact h.inj j k bj p Lj q (f j bj g (PR d)).1 (f k p l c).1 o d c m n
theorem Inv.appendRoom {P:Program} (h:Inv Pg W lim σ H w) {p:Addr} {old new b:List Value} {c:List Value} {L:Loc} (s:NC H p.block=.cells false c) (hL:σ p.block=some L) (l:lim<=p.block)
  (a:AM.loadCells H p old.length=some old) (hr:OG σ new b) (h1:∀v∈b,v.oneCell'=true) (u:p.off+old.length+new.length<=L.room)
  {dest:Option Nat} {H':NA} {i:Nat} (hp:place dest (.cells false (old++new)) (H.set p.block .dead)=(i,H')) (hd:∀d,dest=some d->d<H.length/\σ d=none) :
  ∃w',(storeCells ⟨L.blk,L.base+p.off+old.length,none⟩ b).run P w=.ok () w'/\Inv Pg W lim (σ.put i ⟨L.blk,L.base+p.off,L.room-p.off⟩) H' w'/\Stp W w w'/\σ i=none:=by
 have g:=QX s rfl
 obtain ⟨cs,el,fz,t,hc,ho⟩:=h.cells s hL
 obtain ⟨I,J,o⟩:=ho rfl
 have G:=hr.1
 obtain ⟨cs',k⟩:=VH L.blk el fz b (L.base+p.off+old.length) w cs t (by omega)
 have hk:Inv Pg W lim σ (H.set p.block .dead) (w.setCells L.blk (L.base+p.off+old.length) b):=h.rewrite g rfl hL k.len k.other trivial (fun h=>by simp [alive] at h)
 obtain ⟨A,B,K,C,D,E,M⟩:=Tg hp fun d e=>by simpa using (hd d e).1
 have q:σ i=none:=by
  cases dest with
  | none=>rw [D rfl];exact hk.dom _ (Nd _)
  | some d=>rw [(E d rfl).1];exact (hd d rfl).2
 have m:∀(j:Nat) v,old[j]? = some v->c[p.off+j]? = some v:=fun j v hv=>by
  unfold AM.loadCells at a
  rw [s] at a
  simp only at a
  split at a
  ·have n:=(List.getElem?_eq_some_iff.1 hv).1
   have e:(c.drop p.off).take old.length=old:=by simpa using a
   rw [<-e,Py,Nh n,Qy] at hv
   exact hv
  ·cases a
 refine ⟨_,run_storeCells_cells (P:=P) L.blk (L.base+p.off+old.length) b 0 w (fun j n=>?_) (fun j n=>?_) h1, ?_, ?_,q⟩
 ·rw [cell_of_heap t (Ny (by omega))];rfl
 ·simp only [World.frozen?,t]
  have:=o.ok (L.base+p.off+old.length+0+j) (by omega)
  obtain ⟨f1,f2⟩:=fz
  simp at this⊢
  exact this
 ·refine hk.adopt A B C q ⟨cs',el,fz,k.heap,fun j v hv=>?_,fun _=>⟨by rw [k.size];simp;omega,by simp;omega,by rw [k.size];exact o⟩⟩ rfl (show W L.blk from h.wr _ _ _ g rfl l hL) fun j bj Lj F f ha r=>?_
  ·show ∃v',cs'[L.base+p.off+j]? = some v'/\_
   by_cases n:j<old.length
   ·rw [N4 n] at hv
    obtain ⟨v',e1,e2,e3⟩:=hc _ _ (m j v hv)
    exact ⟨v',by rw [k.out _ (by omega),show L.base+p.off+j=L.base+(p.off+j) by omega];exact e1,e2.mono (PH.le_put q),e3⟩
   ·rw [Oc (by omega)] at hv
    obtain ⟨y,z,x⟩:=hr.get hv
    exact ⟨y,by rw [show L.base+p.off+j=L.base+p.off+old.length+(j-old.length) by omega];exact k.inn _ _ z,x.mono (PH.le_put q),h1 y (N8 z)⟩
  ·by_cases e:j=p.block
   ·subst e
    rw [N1,Nh rfl] at f
    split at f
    ·cases f;simp [alive] at ha
    ·cases f
   ·rw [N1,Ng (Ne.symm e)] at f
    exact Ne.symm (h.inj p.block j _ bj L Lj g f (Ne.symm e) rfl ha hL r)
 ·exact Stp.one (h.wr _ _ _ g rfl l hL) k.other k.len k.os k.tape k.output
end
end Go.AM


namespace Go.AM
open Go.MapKept
def Nin:Next->Option Value
 | .value v=>some v
 | .skip=>some undef
 | _=>none
def OC (Pg:Prg) (W:Nat->Prop) (lim:Nat) (σ:PH) (dest:Option Nat) (H:NA) (w:World) (run:Result Next) (v:Value) (H':NA):Prop:=
 ∃nx w' a v',run=.ok nx w'/\Nin nx=some v'/\VRel a v v'/\Inv Pg W lim a H' w'/\Stp W w w'/\PH.le σ a/\
  (∀j,a j≠σ j->dest=some j\/(dest=none/\H.length<=j))/\H.length<=H'.length/\(dest≠none->H'.length=H.length)
section
variable {P:Program} {Pg:Prg} {W:Nat->Prop} {lim:Nat} {σ:PH} {H:NA} {w:World} {dest:Option Nat}
theorem OC.plain (h:Inv Pg W lim σ H w) {run:Result Next} {v v':Value} (hr:run=.ok (.value v') w) (hv:VRel σ v v'):OC Pg W lim σ dest H w run v H:=
 ⟨.value v',w,σ,v',hr,rfl,hv,h,Stp.refl W w,PH.le_refl σ,fun j a=>absurd rfl a,Nd _,fun _=>rfl⟩
theorem OC.made (h:Inv Pg W lim σ H w) (hd:∀d,dest=some d->d<H.length/\σ d=none) {c:List Value} {H':NA} {i:Nat} (hp:place dest (.cells false c) H=(i,H'))
  {cs:Array Value} {el:TypeId} (hc:∀(j:Nat) v,c[j]? = some v->∃v',cs[j]? = some v'/\VRel σ v v'/\v'.oneCell'=true) (hn:c.length<=cs.size)
  {b:World} (a:Inv Pg W lim σ H b) (g:Stp W w b) {run:Result Next} {v v':Value} (hr:run=.ok (.value v') (b.alloc (.cells cs el)))
  (hv:VRel (σ.put i ⟨b.heap.size,0,cs.size⟩) v v'):OC Pg W lim σ dest H w run v H':=by
 obtain ⟨hi,o⟩:=a.alloc (el:=el) hp hd hc hn
 obtain ⟨p,q,l,r,m,k,s⟩:=Tg hp fun d e=>(hd d e).1
 refine ⟨_,_,_,v',hr,rfl,hv,hi,g.trans (Stp.alloc a.fresh _),PH.le_put o,fun j n=>?_,l,fun f=>?_⟩
 ·by_cases e:j=i
  ·subst e
   cases dest with
   | none=>exact .inr ⟨rfl,by rw [m rfl];exact Nd _⟩
   | some d=>exact .inl (by rw [(k d rfl).1])
  ·simp [PH.put,e] at n
 ·cases dest with
  | none=>exact absurd rfl f
  | some d=>exact (k d rfl).2
theorem Nkx {o:Oper} (h:o.op.operands.toList.all PV=true) {x:Operand} (hx:x∈o.op.operands):PV x=true:=
 N6.1 h x (Array.mem_toList_iff.2 hx)
theorem Nrk (place:Nat->Option (Nat×Nat)) (off:Nat):∀(vs:List Value) (k:Nat) (cs:Array Value),(vs.zipIdx k).foldl (fun cs (x:Value×Nat)=>cs.setIfInBounds (off+x.2) x.1) cs=(QW cs.toList (off+k) vs).toArray
 | [],k,cs=>by simp [QW]
 | v::vs,k,cs=>by
   rw [List.zipIdx_cons,Oi,Nrk place off vs (k+1),QW]
   simp [Oo]
theorem TI (ρ ρ':Operand->Value) (place:Nat->Option (Nat×Nat)) :
  ∀(src:List (Nat×Operand)) (ps:List (Nat×Nat×Operand)) (z c e:List Value),(src.length=ps.length)->
   (∀(j:Nat) s p,src[j]? = some s->ps[j]? = some p->place s.1=some (p.1,p.2.1)/\p.2.2=s.2/\VRel σ (ρ s.2) (ρ' s.2))->
   R3 ρ ps z=some c->OG σ z e->(∀y∈e,y.oneCell'=true)->
   ∃g,Instr.fill place e.toArray (src.map fun x=>(x.1,ρ' x.2))=some g.toArray/\OG σ c g/\(∀y∈g,y.oneCell'=true)
 | [],[],z,c,e,_,_,hf,hz,h1=>by
   simp [R3] at hf;subst hf
   exact ⟨e,by simp [Instr.fill],hz,h1⟩
 | s::src,p::ps,z,c,e,hl,hp,hf,hz,h1=>by
   obtain ⟨off,size,x⟩:=p
   obtain ⟨i,H⟩:=s
   obtain ⟨e1,e2,e3⟩:=hp 0 _ _ rfl rfl
   simp only at e1 e2 e3
   subst e2
   simp only [R3] at hf
   split at hf
   case isFalse=>cases hf
   rename_i hc
   obtain ⟨D,G,F⟩:=hc
   have l:=e3.cells
   have n:=e3.cells_one F
   have E:(ρ x).cells.size=size:=by simpa using D
   have m:(ρ' x).cells.size=size:=by have:=l.1;simp at this;omega
   have C:=hz.1
   have q:∀(vs d:List Value) (o:Nat) (a b:List Value),OG σ vs d->OG σ a b->OG σ (QW a o vs) (QW b o d):=by
    intro vs
    induction vs with
    | nil=>intro d o a b h k;have:d=[]:=by have:=h.1;simpa using this.symm
           subst this;exact k
    | cons v vs ih=>intro d o a b h k
                    cases d with
                    | nil=>have:=h.1;simp at this
                    | cons v' d=>exact ih d _ _ _ h.tail (k.set h.head o)
   have f:∀(vs:List Value) (o:Nat) (b:List Value),(∀y∈vs,y.oneCell'=true)->(∀y∈b,y.oneCell'=true)->∀y∈QW b o vs,y.oneCell'=true:=by
    intro vs
    induction vs with
    | nil=>intro o b _ r;exact r
    | cons v vs ih=>intro o b hv r
                    refine ih _ _ (fun y u=>hv y (Nj _ u)) fun y u=>?_
                    rcases Q5 u with h | h
                    ·exact r y h
                    ·subst h;exact hv _ (Nm)
   obtain ⟨g,w,A,B⟩:=TI ρ ρ' place src ps _ c (QW e off (ρ' x).cells.toList) (by simpa using hl) (fun j s p hs t=>hp (j+1) s p (by simpa using hs) (by simpa using t)) hf (q _ _ off _ _ l hz) (f _ off _ n h1)
   refine ⟨g, ?_,A,B⟩
   simp only [N9,Instr.fill,e1]
   have:¬((ρ' x).cells.size≠size||off+(ρ' x).cells.size > e.toArray.size)=true:=by simp [m];omega
   rw [Ng this]
   rw [<-w]
   congr 1
   rw [<-Array.foldl_toList]
   simp only [Array.toList_zipIdx]
   rw [Nrk (fun _=>none) off (ρ' x).cells.toList 0 e.toArray]
   simp
end
section
variable {P:Program} {Pg:Prg} {W:Nat->Prop} {lim:Nat} {σ:PH} {H H':NA} {w:World} {dest:Option Nat} {ρ ρ':Operand->Value} {v:Value}
theorem OT (P:Program) (w:World) (s:Sem Value) {x:Value} {w':World} (h:s.run P w=.ok x w'):(do pure (Next.value (<-s)):Sem Next).run P w=.ok (.value x) w':=by
 simp [h]
theorem Mm (P:Program) (w:World) (s:Sem Unit) {w':World} (h:s.run P w=.ok () w'):(do s;pure Next.skip:Sem Next).run P w=.ok .skip w':=by
 simp [h]
theorem Ncl (op:BinOp) (t:TypeId) (x y:Operand) (k k':IntKind) (a b:Int):(eqGuard op t x y (.int k a) (.int k' b)).run P w=.ok () w:=by
 cases op<;>simp [eqGuard]
theorem ZC (op:BinOp) (t:TypeId) (x y:Operand) (a b:ByteArray):(eqGuard op t x y (.string a) (.string b)).run P w=.ok () w:=by
 cases op<;>simp [eqGuard]
theorem Nqr (op:BinOp) (t:TypeId) (x y:Operand) {a b r:Value} (h:NK op a b=some r):(do eqGuard op t x y a b;binOp op t a b:Sem Value).run P w=.ok r w:=by
 unfold NK at h
 split at h
 ·rename_i k a k' b
  simp only [Sem.run_bind,Ncl,Result.andThen_ok]
  split at h
  ·split at h
   ·cases h
   ·rename_i c
    cases h
    simp [binOp,Op.shift,c]
  ·split at h
   ·cases h
   ·rename_i c
    cases h
    simp [binOp,Op.shift,c]
  ·rename_i d e
   split at h
   case isFalse=>cases h
   rename_i hk
   subst hk
   cases op<;>simp at h<;>first
    | (exact absurd rfl d) | (exact absurd rfl e)
    | (subst h;simp [binOp,Op.intArith,Op.intBits,Op.intCmp];done)
    | (obtain ⟨c,rfl⟩:=h;simp [binOp,Op.intDiv,c];done)
 ·rename_i a b
  simp only [Sem.run_bind,ZC,Result.andThen_ok]
  cases op<;>simp at h<;>first
   | (subst h;simp [binOp,Op.stringOp];done)
   | (obtain ⟨c,rfl⟩:=h
      simp [binOp,Op.stringOp]
      exact c)
 ·cases h
theorem Nvl (op:UnOp) {a r:Value} (h:QY op a=some r):(Op.unary op a).run P w=.ok r w:=by
 unfold QY at h
 split at h
 ·cases h;simp [Op.unary]
 ·cases h;simp [Op.unary,Op.intArith]
 ·cases h;simp [Op.unary,Op.intBits]
 ·cases h
theorem QF (op:BinOp) (t:TypeId) (x y:Operand) {a b:Value} (h1:a≠.nilIface) (h2:∀xs,a≠.agg xs) :
  (eqGuard op t x y a b).run P w=.ok () w:=by
 unfold eqGuard
 cases a<;>first | (exact absurd rfl h1) | (exact absurd rfl (h2 _)) | (cases op<;>simp)
theorem YM {t:TypeId} {b:Bool} (h:QT P t=some b):(isAgg t).run P w=.ok b w:=by
 unfold QT at h
 cases hd:P.underlying t with
 | none=>simp [hd] at h
 | some d=>
   rw [hd] at h
   cases d<;>simp at h<;>subst h<;>simp [isAgg,run_underlying hd]
theorem RI {t:TypeId} {n:Nat} (h:PG P t=some n):(sizeOf t).run P w=.ok n w:=by
 unfold PG at h
 cases hi:P.info? t with
 | none=>simp [hi] at h
 | some i=>rw [hi] at h;simp at h;subst h;simp [sizeOf,typeInfo,hi]
theorem Nau {t:TypeId} {cs:Array Value} {off:Nat} {x:Value} (h:QT P t=some false) (hx:cs[off]? = some x):(part t cs off).run P w=.ok x w:=by
 simp [part,YM h,hx]
theorem Nas {t:TypeId} {cs:Array Value} {off n:Nat} (h:QT P t=some true) (hn:PG P t=some n):(part t cs off).run P w=.ok (.agg (cs.extract off (off+n))) w:=by
 simp [part,YM h,RI hn]
theorem extract_toList (cs:Array Value) (off n:Nat):(cs.extract off (off+n)).toList=(cs.toList.drop off).take n:=by
 rw [Array.toList_extract]
 simp [List.extract]
theorem Nbz (h:Inv Pg W lim σ H w) {t:TypeId} (ht:QT P t=some false) {p:Addr} {L:Loc} (hL:σ p.block=some L) {v:Value} (hv:loadCell H p=some v) :
  ∃v',(loadVar t ⟨L.blk,L.base+p.off,none⟩).run P w=.ok v' w/\VRel σ v v':=by
 obtain ⟨v',h1,h2,a⟩:=h.loadCell hL hv
 exact ⟨v',by simp [loadVar,YM ht,h1],h2⟩
theorem Na3 (h:Inv Pg W lim σ H w) {p:Addr} {L:Loc} (hL:σ p.block=some L) {n:Nat} {l:List Value} (hv:AM.loadCells H p n=some l) :
  ∃a,(Go.loadCells ⟨L.blk,L.base+p.off,none⟩ n).run P w=.ok a.toArray w/\OG σ l a/\a.length=n/\∀y∈a,y.oneCell'=true:=by
 obtain ⟨a,h1,h2,b,c⟩:=h.loadCells hL hv
 have:=run_loadCells_list (P:=P) w ⟨L.blk,L.base+p.off,none⟩ a fun j v d=>by rw [Addr.add_mid];exact c j v d
 rw [h2] at this
 exact ⟨a,this,h1,h2,b⟩
theorem Nby (h:Inv Pg W lim σ H w) {t:TypeId} (ht:QT P t=some true) {n:Nat} (hn:PG P t=some n) {p:Addr} {L:Loc} (hL:σ p.block=some L) {l:List Value} (hv:AM.loadCells H p n=some l) :
  ∃v',(loadVar t ⟨L.blk,L.base+p.off,none⟩).run P w=.ok v' w/\VRel σ (.agg l.toArray) v':=by
 obtain ⟨b,h1,h2,c,a⟩:=Na3 (P:=P) h hL hv
 exact ⟨.agg b.toArray,by simp [loadVar,YM ht,RI hn,h1],VRel.agg_iff.2 ⟨by simpa using h2,by simpa using a⟩⟩
theorem RZ {x a:Value} {m n:Nat} (h:bound x m=some n) (hr:VRel σ x a) (code:BoundsCode):(Instr.sliceBound a m code).run P w=.ok n w:=by
 unfold bound at h
 split at h
 ·rename_i k i
  split at h
  ·rename_i hi
   cases h
   rw [hr.int_left]
   simp [Instr.sliceBound,asIntOf,hi]
  ·cases h
 ·cases h
theorem Uw {v:Value} {a n:Nat} (b:bound v a=some n):n<=a:=by
 unfold bound at b
 split at b
 ·split at b
  ·cases b;omega
  ·cases b
 ·cases b
theorem XD {v:Value} {a b n:Nat} (d:a<=b) (c:bound v a=some n):bound v b=some n:=by
 unfold bound at c⊢
 split at c
 ·split at c
  ·rename_i hi;cases c
   exact Nh (by omega)
  ·cases c
 ·cases c
theorem SC {len cap e:Nat} {lo hi mx:Option Operand} {l h m:Nat} (d:bounds ρ len cap lo hi mx=some (l,h,m)) (f:∀x∈lo.toList++hi.toList++mx.toList,VRel σ (ρ x) (ρ' x))
  (hc:cap<=e) (isSlice:Bool):∃g,(Instr.sliceBounds isSlice len e (lo.map ρ') (hi.map ρ') (mx.map ρ')).run P w=.ok (l,h,g) w/\(mx=none->g=e/\m=cap)/\(mx≠none->g=m)/\
   l<=h/\m<=cap/\(hi=none->mx=none/\h=len)/\(hi≠none->h<=m):=by
 unfold bounds at d
 cases mx with
 | none=>
   simp only at d
   cases hi with
   | none=>
     simp only at d
     cases lo with
     | none=>simp at d;obtain ⟨rfl,rfl,rfl⟩:=d;exact ⟨e,by simp [Instr.sliceBounds],fun _=>⟨rfl,rfl⟩,fun h=>absurd rfl h,Nv _,Nd _,fun _=>⟨rfl,rfl⟩,fun h=>absurd rfl h⟩
     | some x=>
       simp only at d
       cases h1:bound (ρ x) len with
       | none=>simp [h1] at d
       | some a=>
         simp [h1] at d;obtain ⟨rfl,rfl,rfl⟩:=d
         exact ⟨e,by simp [Instr.sliceBounds,RZ h1 (f x (by simp))],fun _=>⟨rfl,rfl⟩,fun h=>absurd rfl h,Uw h1,Nd _,fun _=>⟨rfl,rfl⟩,fun h=>absurd rfl h⟩
   | some y=>
     simp only at d
     cases h2:bound (ρ y) cap with
     | none=>simp [h2] at d
     | some b=>
       simp only [h2] at d
       cases lo with
       | none=>
         simp at d;obtain ⟨rfl,rfl,rfl⟩:=d
         exact ⟨e,by simp [Instr.sliceBounds,RZ (XD hc h2) (f y (by simp))],fun _=>⟨rfl,rfl⟩,fun h=>absurd rfl h,Nv _,Nd _,fun h=>by simp at h,fun _=>Uw h2⟩
       | some x=>
         simp only at d
         cases h1:bound (ρ x) b with
         | none=>simp [h1] at d
         | some a=>
           simp [h1] at d;obtain ⟨rfl,rfl,rfl⟩:=d
           exact ⟨e,by simp [Instr.sliceBounds,RZ (XD hc h2) (f y (by simp)),RZ h1 (f x (by simp))],fun _=>⟨rfl,rfl⟩,fun h=>absurd rfl h,Uw h1,Nd _,fun h=>by simp at h,fun _=>Uw h2⟩
 | some z=>
   simp only at d
   cases h3:bound (ρ z) cap with
   | none=>simp [h3] at d
   | some c=>
     simp only [h3] at d
     cases hi with
     | none=>simp at d
     | some y=>
       simp only at d
       cases h2:bound (ρ y) c with
       | none=>simp [h2] at d
       | some b=>
         simp only [h2] at d
         cases lo with
         | none=>
           simp at d;obtain ⟨rfl,rfl,rfl⟩:=d
           exact ⟨c,by simp [Instr.sliceBounds,RZ (XD hc h3) (f z (by simp)),RZ h2 (f y (by simp))],fun h=>by simp at h,fun _=>rfl,Nv _,Uw h3,fun h=>by simp at h,fun _=>Uw h2⟩
         | some x=>
           simp only at d
           cases h1:bound (ρ x) b with
           | none=>simp [h1] at d
           | some a=>
             simp [h1] at d;obtain ⟨rfl,rfl,rfl⟩:=d
             exact ⟨c,by simp [Instr.sliceBounds,RZ (XD hc h3) (f z (by simp)),RZ h2 (f y (by simp)),RZ h1 (f x (by simp))],fun h=>by simp at h,fun _=>rfl,Uw h1,Uw h3,fun h=>by simp at h,fun _=>Uw h2⟩
end
end Go.AM


namespace Go.AM
theorem VP:∀{l:List KK} {a c:List Value} {r:Bool},PP l a c=some r->a.length=l.length/\c.length=l.length
 | [],[],[],_,_=>⟨rfl,rfl⟩
 | _::l,_::a,_::c,r,h=>by
   simp only [PP] at h
   split at h
   ·rename_i h2
    have:=VP h2
    simp [this.1,this.2]
   ·cases h
 | [],_::_,_,_,h=>by simp [PP] at h
 | [],[],_::_,_,h=>by simp [PP] at h
 | _::_,[],_,_,h=>by simp [PP] at h
 | _::_,_::_,[],_,h=>by simp [PP] at h
theorem VQ:∀{l m:List KK} {a c:List Value} {r:Bool},PP (l++m) a c=some r->
  ∃b r2,PP l (a.take l.length) (c.take l.length)=some b/\PP m (a.drop l.length) (c.drop l.length)=some r2/\r=(b&&r2)
 | [],m,a,c,r,h=>⟨true,r,by simp [PP],by simpa using h,by simp⟩
 | k::l,m,x::a,y::c,r,h=>by
   simp only [O5,PP] at h
   split at h
   ·rename_i p q h1 h2
    cases h
    obtain ⟨b,r2,d,e,rfl⟩:=VQ h2
    exact ⟨p&&b,r2,by simp [PP,h1,d],by simpa using e,by rw [Bool.and_assoc]⟩
   ·cases h
 | k::l,m,[],c,r,h=>by simp [PP] at h
 | k::l,m,_::_,[],r,h=>by simp [PP] at h
theorem Y3 {k:KK} {a c:List Value} {r:Bool} (h:PP [k] a c=some r):∃x y,a=[x]/\c=[y]/\Tz k x y=some r:=by
 match a,c,h with
 | [x],[y],h=>
   refine ⟨x,y,rfl,rfl, ?_⟩
   simp only [PP] at h
   split at h
   ·rename_i h1 h2
    cases h2
    cases h
    simpa using h1
   ·cases h
 | [],_,h=>simp [PP] at h
 | [_],[],h=>simp [PP] at h
 | [_],_::_::_,h=>simp [PP] at h
 | _::_::_,[],h=>simp [PP] at h
 | _::_::_,[_],h=>simp [PP] at h
 | _::_::_,_::_::_,h=>simp [PP] at h
section
variable {P:Program} (w:World)
theorem Nlt {t:TypeId} {k:KK} (h:RP P t=some k):(∃l,k=.ints l)\/(P.underlying t=some .bool/\k=.bool)\/(P.underlying t=some .string/\k=.str)\/∃q,P.underlying t=some (.int q)/\k=.int q:=by
 unfold RP at h
 cases hu:P.underlying t with
 | none=>simp [hu] at h
 | some d=>
   rw [hu] at h
   have wide:(match OY P 20 t with | some l=>(Td l).map KK.ints | none=>none)=some k->∃l,k=.ints l:=fun h=>by
    split at h
    ·simp only [Nb] at h
     obtain ⟨a,_,rfl⟩:=h
     exact ⟨a,rfl⟩
    ·cases h
   cases d
   case bool=>simp at h;exact .inr (.inl ⟨rfl,h.symm⟩)
   case string=>simp at h;exact .inr (.inr (.inl ⟨rfl,h.symm⟩))
   case int q=>simp at h;exact .inr (.inr (.inr ⟨q,rfl,h.symm⟩))
   case struct b=>exact .inl (wide h)
   case array n e=>exact .inl (wide h)
   all_goals (simp at h;done)
theorem Nny (d:Nat) (t:TypeId) {k:KK} {x y:Value} {r:Bool} (h:Tz k x y=some r) (ht:RP P t=some k):(Op.equalIn (d+1) t x y).run P w=.ok r w:=by
 rcases Nlt ht with ⟨l,rfl⟩ | ⟨a,rfl⟩ | ⟨a,rfl⟩ | ⟨q,a,rfl⟩
 ·cases x<;>cases y<;>simp [Tz] at h
 ·cases x<;>cases y<;>simp [Tz] at h
  subst h
  exact run_equalIn_bool w d t _ _ a
 ·cases x<;>cases y<;>simp [Tz] at h
  subst h
  exact run_equalIn_string w d t _ _ a
 ·cases x<;>cases y<;>simp only [Tz] at h<;>try (cases h;done)
  split at h
  ·rename_i hk
   cases h
   obtain ⟨rfl,rfl⟩:=hk
   exact run_equalIn_int w d t _ _ _ _ a
  ·cases h
def N4b (P:Program) (w:World) (d:Nat) (t:TypeId) (l:List KK):Prop:=
 ∀(x y:Value) (r:Bool),(QT P t=some true->(∃xs,x=.agg xs)/\∃ys,y=.agg ys)->(QT P t=some false->x.cells=#[x]/\y.cells=#[y])->
  PP l x.cells.toList y.cells.toList=some r->(Op.equalIn d t x y).run P w=.ok r w
theorem Vs (t:TypeId) {b:Bool} (a:QT P t=some b) {n:Nat} (hn:PG P t=some n) (cs:Array Value) (off:Nat) (c:off+n<=cs.size) (h1:b=false->n=1) :
  ∃v,(part t cs off).run P w=.ok v w/\(QT P t=some true->∃xs,v=.agg xs)/\(b=false->cs[off]? = some v)/\(b=true->v.cells.toList=(cs.toList.drop off).take n):=by
 cases b with
 | true=>exact ⟨_,Nas a hn,fun _=>⟨_,rfl⟩,(fun h=>by cases h),fun _=>extract_toList cs off n⟩
 | false=>
   have:=h1 rfl
   subst this
   exact ⟨cs[off]'(by omega),Nau a (Ny (by omega)),(fun h=>by rw [a] at h;cases h),fun _=>Ny (by omega),(fun h=>by cases h)⟩
theorem Nj6 {d:Nat} {t:TypeId} {l:List KK} (m:N4b P w d t l) {b:Bool} (g:QT P t=some b) (hn:PG P t=some l.length) (h1:b=false->l.length=1) (xs ys:Array Value) (off:Nat)
  {r:Bool} (h:PP l ((xs.toList.drop off).take l.length) ((ys.toList.drop off).take l.length)=some r) (hx:off+l.length<=xs.size) (v:off+l.length<=ys.size) :
  ∃a c,(part t xs off).run P w=.ok a w/\(part t ys off).run P w=.ok c w/\(Op.equalIn d t a c).run P w=.ok r w:=by
 obtain ⟨a,n,o,a3,p⟩:=Vs w t g hn xs off hx h1
 obtain ⟨c,q,s,c3,u⟩:=Vs w t g hn ys off v h1
 refine ⟨a,c,n,q,m a c r (fun h=>⟨o h,s h⟩) (fun j=>?_) ?_⟩
 ·rw [g] at j;cases j
  have hl:=h1 rfl
  rw [hl] at h
  have one:∀{f:Array Value} {z:Value},f[off]? = some z->(f.toList.drop off).take 1=[z]:=fun {f z} i=>by
   have:=(Array.getElem?_eq_some_iff.1 i)
   obtain ⟨h1,h2⟩:=this
   rw [Ow (by simpa using h1)]
   simp [h2]
  rw [one (a3 rfl),one (c3 rfl)] at h
  have hk:∃k,l=[k]:=by
   match l,hl with
   | [k],_=>exact ⟨k,rfl⟩
  obtain ⟨k,rfl⟩:=hk
  obtain ⟨x,y,e1,e2,e3⟩:=Y3 h
  simp only [List.cons.injEq,and_true] at e1 e2
  subst e1 e2
  unfold Tz at e3
  split at e3<;>first | exact ⟨rfl,rfl⟩ | (cases e3;done)
 ·cases b with
  | true=>rw [p rfl,u rfl];exact h
  | false=>
    have hl:=h1 rfl
    rw [hl] at h
    have one:∀{f:Array Value} {z:Value},f[off]? = some z->(f.toList.drop off).take 1=[z]:=fun {f z} i=>by
     obtain ⟨h1,h2⟩:=(Array.getElem?_eq_some_iff.1 i)
     rw [Ow (by simpa using h1)]
     simp [h2]
    rw [one (a3 rfl),one (c3 rfl)] at h
    have hk:∃k,l=[k]:=by
     match l,hl with
     | [k],_=>exact ⟨k,rfl⟩
    obtain ⟨k,rfl⟩:=hk
    obtain ⟨x,y,e1,e2,e3⟩:=Y3 h
    simp only [List.cons.injEq,and_true] at e1 e2
    subst e1 e2
    have e:a.cells=#[a]/\c.cells=#[c]:=by
     unfold Tz at e3
     split at e3<;>first | exact ⟨rfl,rfl⟩ | (cases e3;done)
    rw [e.1,e.2]
    exact h
theorem Nb2 {d:Nat} {e:TypeId} {l:List KK} (i:N4b P w d e l) {b:Bool} (j:QT P e=some b) (hn:PG P e=some l.length) (h1:b=false->l.length=1) (xs ys:Array Value) :
  ∀(m s:Nat) (r:Bool),PP (List.replicate m l).flatten (xs.toList.drop (s*l.length)) (ys.toList.drop (s*l.length))=some r->
   (Op.eqItems d e l.length xs ys (List.range' s m)).run P w=.ok r w
 | 0,s,r,h=>by
   simp only [List.replicate_zero,List.flatten_nil] at h
   have:r=true:=by
    generalize xs.toList.drop (s*l.length)=u at h
    generalize ys.toList.drop (s*l.length)=v at h
    cases u<;>cases v<;>simp [PP] at h
    exact h
   subst this
   simp [Op.eqItems]
 | m+1,s,r,h=>by
   simp only [Pk,List.flatten_cons] at h
   have f:=VP h
   simp only [Ni,Pj,Array.length_toList] at f
   obtain ⟨x,r2,k,n,rfl⟩:=VQ h
   have hs:xs.size>=s*l.length\/l.length=0:=by
    by_cases h0:l.length=0
    ·exact .inr h0
    ·left;omega
   have g:ys.size>=s*l.length\/l.length=0:=by
    by_cases h0:l.length=0
    ·exact .inr h0
    ·left;omega
   have hx:s*l.length+l.length<=xs.size:=by
    rcases hs with h | h
    ·omega
    ·rw [h];omega
   have o:s*l.length+l.length<=ys.size:=by
    rcases g with h | h
    ·omega
    ·rw [h];omega
   obtain ⟨a,c,p,q,t⟩:=Nj6 w i j hn h1 xs ys (s*l.length) k hx o
   have ih:=Nb2 i j hn h1 xs ys m (s+1) r2 (by
    rw [show (s+1)*l.length=s*l.length+l.length by rw [Pw];omega,<-List.drop_drop,<-List.drop_drop];exact n)
   rw [List.range'_succ]
   simp only [Op.eqItems,Sem.run_bind,p,q,t,Result.andThen_ok]
   cases x
   ·simp
   ·simpa using ih
theorem MO (n d:Nat) (IH:∀t l,OY P n t=some l->N4b P w d t l) (xs ys:Array Value) :
  ∀(fs:List Field) (off:Nat) (l:List KK) (r:Bool),YR P (OY P n) fs off=some l->PP l (xs.toList.drop off) (ys.toList.drop off)=some r->(l≠[]->off<=xs.size/\off<=ys.size)->
   (Op.eqFields d xs ys fs).run P w=.ok r w
 | [],off,l,r,hl,h,_=>by
   simp [YR] at hl;subst hl
   have:r=true:=by
    generalize xs.toList.drop off=u at h
    generalize ys.toList.drop off=v at h
    cases u<;>cases v<;>simp [PP] at h
    exact h
   subst this
   simp [Op.eqFields]
 | f::fs,off,l,r,hl,h,ho=>by
   simp only [YR] at hl
   split at hl
   ·cases hl
   rename_i hf
   split at hl
   case h_2=>cases hl
   rename_i l1 hl1
   split at hl
   case isFalse=>cases hl
   rename_i hc
   simp only [Nb] at hl
   obtain ⟨l2,hl2,rfl⟩:=hl
   obtain ⟨hc,hne⟩:=hc
   have hname:f.name≠ "_":=fun e=>hf (.inl e)
   have hoff:f.offset=off:=Of fun e=>hf (.inr e)
   have hlen:=VP h
   simp only [Ni,Pj,Array.length_toList] at hlen
   obtain ⟨r1,r2,g1,g2,rfl⟩:=VQ h
   have hu:∃dsc,P.underlying f.type=some dsc:=by
    cases hd:P.underlying f.type with
    | some x=>exact ⟨x,rfl⟩
    | none=>cases n<;>simp [OY,hd] at hl1
   obtain ⟨dsc,hu⟩:=hu
   obtain ⟨i,hi⟩:=info_of_underlying hu
   have hsz:PG P f.type=some l1.length:=by
    rw [hc];simp [PG,Program.cellsOf,hi]
   have hagg:∃b,QT P f.type=some b/\(b=false->l1.length=1):=by
    cases n with
    | zero=>simp [OY] at hl1
    | succ n=>
      unfold OY at hl1
      unfold QT
      rw [hu] at hl1⊢
      cases dsc<;>simp at hl1<;>first
       | (subst hl1;exact ⟨false,rfl,fun _=>rfl⟩)
       | exact ⟨true,rfl,fun h=>by cases h⟩
   obtain ⟨b,hb,hb1⟩:=hagg
   have hx:off+l1.length<=xs.size/\off+l1.length<=ys.size:=by
    have:=ho (fun e=>hne (by rw [(List.append_eq_nil_iff.1 e).1];rfl));omega
   obtain ⟨a,c,p1,p2,p3⟩:=Nj6 w (IH _ _ hl1) hb hsz hb1 xs ys off g1 hx.1 hx.2
   have ih:=MO n d IH xs ys fs (off+l1.length) l2 r2 hl2 (by rw [<-List.drop_drop,<-List.drop_drop];exact g2) (fun _=>hx)
   simp only [Op.eqFields,hname,ne_eq,not_false_eq_true,if_true,Sem.run_bind,hoff,p1,p2,p3,Result.andThen_ok]
   cases r1
   ·simp
   ·simpa using ih
theorem Vr:∀(n:Nat) (t:TypeId) (l:List KK),OY P n t=some l->∀d,N4b P w (d+n) t l
 | 0,t,l,h,_=>by simp [OY] at h
 | n+1,t,l,h,d=>by
   intro x y r m p hr
   unfold OY at h
   have cell:∀k,RP P t=some k->l=[k]->QT P t=some false->(Op.equalIn (d+(n+1)) t x y).run P w=.ok r w:=by
    intro k hk hl C
    subst hl
    obtain ⟨h1,h2⟩:=p C
    rw [h1,h2] at hr
    obtain ⟨a,c,e1,e2,e3⟩:=Y3 hr
    simp at e1 e2
    subst e1 e2
    exact Nny w (d+n) t e3 hk
   split at h
   ·rename_i g;cases h
    exact cell .bool (by simp [RP,g]) rfl (by simp [QT,g])
   ·rename_i k g;cases h
    exact cell (.int k) (by simp [RP,g]) rfl (by simp [QT,g])
   ·rename_i g;cases h
    exact cell .str (by simp [RP,g]) rfl (by simp [QT,g])
   ·rename_i len e g
    split at h
    case h_2=>cases h
    rename_i A f
    split at h
    case isFalse=>cases h
    rename_i hc
    cases h
    obtain ⟨⟨xs,rfl⟩,⟨ys,rfl⟩⟩:=m (by simp [QT,g])
    have j:∃o,P.underlying e=some o:=by
     cases hd:P.underlying e with
     | some x=>exact ⟨x,rfl⟩
     | none=>cases n<;>simp [OY,hd] at f
    obtain ⟨o,j⟩:=j
    obtain ⟨i,hi⟩:=info_of_underlying j
    have z:PG P e=some A.length:=by
     rw [hc];simp [PG,Program.cellsOf,hi]
    have s:∃b,QT P e=some b/\(b=false->A.length=1):=by
     cases n with
     | zero=>simp [OY] at f
     | succ n=>
       unfold OY at f
       unfold QT
       rw [j] at f⊢
       cases o<;>simp at f<;>first
        | (subst f;exact ⟨false,rfl,fun _=>rfl⟩)
        | exact ⟨true,rfl,fun h=>by cases h⟩
    obtain ⟨b,s,u⟩:=s
    rw [show d+(n+1)=(d+n)+1 from rfl,run_equalIn_array w (d+n) xs ys g hi,<-hc,List.range_eq_range']
    exact Nb2 w (Vr n e A f d) s z u xs ys len 0 r (by simpa [Value.cells] using hr)
   ·rename_i B g
    split at h
    ·cases h
    rename_i v
    obtain ⟨⟨xs,rfl⟩,⟨ys,rfl⟩⟩:=m (by simp [QT,g])
    have q:P.fieldsOf t=B:=by simp [Program.fieldsOf,g]
    rw [show d+(n+1)=(d+n)+1 from rfl,run_equalIn_struct w (d+n) t xs ys (by rw [q];exact g) (by simpa using v),q]
    exact MO w n (d+n) (fun t l hl=>Vr n t l hl d) xs ys B.toList 0 l r h (by simpa [Value.cells] using hr) (fun _=>⟨Nv _,Nv _⟩)
   ·cases h
theorem run_eqGuard_agg (op:BinOp) (t:TypeId) (x y:Operand) (xs ys:Array Value) (h:P.eqGuardType P.depth t=false):(eqGuard op t x y (.agg xs) (.agg ys)).run P w=.ok () w:=by
 cases op<;>simp [eqGuard,h]
theorem Nzp (d:Nat) (t e:TypeId) (q:Option Addr) (h:P.underlying t=some (.pointer e)):(Op.equalIn (d+1) t (.pointer none) (.pointer q)).run P w=.ok q.isNone w:=by simp [Op.equalIn,run_underlying h]
theorem Nzo (d:Nat) (t e:TypeId) (q:Addr) (h:P.underlying t=some (.pointer e)):(Op.equalIn (d+1) t (.pointer (some q)) (.pointer none)).run P w=.ok false w:=by simp [Op.equalIn,run_underlying h]
theorem N3l (d:Nat) (t e:TypeId) (q:Option Addr) (a b c f:Nat) (h:P.underlying t=some (.slice e)):(Op.equalIn (d+1) t (.slice none a b) (.slice q c f)).run P w=.ok q.isNone w:=by simp [Op.equalIn,run_underlying h]
theorem N3k (d:Nat) (t e:TypeId) (q:Addr) (a b c f:Nat) (h:P.underlying t=some (.slice e)):(Op.equalIn (d+1) t (.slice (some q) a b) (.slice none c f)).run P w=.ok false w:=by simp [Op.equalIn,run_underlying h]
theorem Nzr (d:Nat) (t e f:TypeId) (q:Option Nat) (h:P.underlying t=some (.map e f)):(Op.equalIn (d+1) t (.map none) (.map q)).run P w=.ok q.isNone w:=by simp [Op.equalIn,run_underlying h]
theorem Nzq (d:Nat) (t e f:TypeId) (q:Nat) (h:P.underlying t=some (.map e f)):(Op.equalIn (d+1) t (.map (some q)) (.map none)).run P w=.ok false w:=by simp [Op.equalIn,run_underlying h]
theorem N3o (d:Nat) (t:TypeId) {e f:Array TypeId} {g:Bool} (h:P.underlying t=some (.func e f g)):(Op.equalIn (d+1) t .nilFunc .nilFunc).run P w=.ok true w:=by simp [Op.equalIn,run_underlying h]
theorem N3n (d:Nat) (t:TypeId) {e f:Array TypeId} {g:Bool} (q:Fn) (i j:Array Value) (h:P.underlying t=some (.func e f g)):(Op.equalIn (d+1) t .nilFunc (.func q i j)).run P w=.ok false w:=by simp [Op.equalIn,run_underlying h]
theorem N3m (d:Nat) (t:TypeId) {e f:Array TypeId} {g:Bool} (q:Fn) (i j:Array Value) (h:P.underlying t=some (.func e f g)):(Op.equalIn (d+1) t (.func q i j) .nilFunc).run P w=.ok false w:=by simp [Op.equalIn,run_underlying h]
theorem Nvp {σ:PH} (neg:Bool) {k:EqKind} {t:TypeId} (hk:TT P t=some k) (x y:Operand) {a b a' b':Value} (ha:VRel σ a a') (s:VRel σ b b') {r:Bool} (h:aEq k a b=some r) :
  (do eqGuard (if neg then .neq else .eql) t x y a' b';binOp (if neg then .neq else .eql) t a' b':Sem Value).run P w=.ok (.bool (if neg then !r else r)) w:=by
 have fin:(eqGuard (if neg then .neq else .eql) t x y a' b').run P w=.ok () w->(Op.equal t a' b').run P w=.ok r w->
   (∀(op:BinOp),op=.eql\/op=.neq->binOp op t a' b'=(if op=.eql then (do pure (.bool (<-Op.equal t a' b'))) else (do pure (.bool (!(<-Op.equal t a' b'))))))->
   (do eqGuard (if neg then .neq else .eql) t x y a' b';binOp (if neg then .neq else .eql) t a' b':Sem Value).run P w=.ok (.bool (if neg then !r else r)) w:=by
  intro h1 h2 I
  cases neg
  ·simp only [Nz,if_false] at h1⊢
   rw [Sem.run_bind,h1,I .eql (.inl rfl)];simp [h2]
  ·simp only [if_true] at h1⊢
   rw [Sem.run_bind,h1,I .neq (.inr rfl)];simp [h2]
 unfold aEq at h
 split at h
 ·
  cases h
  rw [ha.bool_left,s.bool_left] at *
  have o:P.underlying t=some .bool:=by unfold TT at hk;split at hk<;>simp_all
  exact fin (QF _ _ _ _ (by simp) (by simp)) (run_equalIn_bool w 9999 t _ _ o) (by rintro op (rfl | rfl)<;>simp [binOp])
 ·cases h
  rename_i q
  rw [ha.nilptr_left] at *
  have o:∃e,P.underlying t=some (.pointer e):=by unfold TT at hk;split at hk<;>simp_all
  obtain ⟨e,o⟩:=o
  have u:∃v,b'=.pointer v/\v.isNone=q.isNone:=by
   cases s with
   | atom s=>exact ⟨_,rfl,rfl⟩
   | ptr s=>exact ⟨_,rfl,rfl⟩
  obtain ⟨v,rfl,B⟩:=u
  refine fin (QF _ _ _ _ (by simp) (by simp)) ?_ (by rintro op (rfl | rfl)<;>cases v<;>simp [binOp])
  rw [<-B]
  exact Nzp w 9999 t _ _ o
 ·cases h
  obtain ⟨L,h1,h2,rfl⟩:=ha.ptr_left
  rw [s.nilptr_left] at *
  have o:∃e,P.underlying t=some (.pointer e):=by unfold TT at hk;split at hk<;>simp_all
  obtain ⟨e,o⟩:=o
  refine fin (QF _ _ _ _ (by simp) (by simp)) ?_ (by rintro op (rfl | rfl)<;>simp [binOp])
  exact Nzo w 9999 t _ _ o
 ·cases h
  rename_i n c q m J
  obtain ⟨rfl,rfl,rfl⟩:=ha.nilslice_left
  have o:∃e,P.underlying t=some (.slice e):=by unfold TT at hk;split at hk<;>simp_all
  obtain ⟨e,o⟩:=o
  have u:∃v C A,b'=.slice v C A/\v.isNone=q.isNone:=by
   cases s<;>exact ⟨_,_,_,rfl,rfl⟩
  obtain ⟨v,C,A,rfl,B⟩:=u
  refine fin (QF _ _ _ _ (by simp) (by simp)) ?_ (by rintro op (rfl | rfl)<;>simp [binOp])
  rw [<-B]
  exact N3l w 9999 t _ _ _ _ _ _ o
 ·cases h
  rename_i q n c m J
  obtain ⟨rfl,rfl,rfl⟩:=s.nilslice_left
  have o:∃e,P.underlying t=some (.slice e):=by unfold TT at hk;split at hk<;>simp_all
  obtain ⟨e,o⟩:=o
  have z:∃v C A,a'=.slice (some v) C A:=by
   obtain ⟨_,L,_,h | ⟨_,_,_,_,_,h⟩ | ⟨_,_,_,h⟩⟩:=ha.slice_left
   ·exact ⟨_,_,_,h.2⟩
   ·exact ⟨_,_,_,h⟩
   ·exact ⟨_,_,_,h⟩
  obtain ⟨v,C,A,rfl⟩:=z
  refine fin (QF _ _ _ _ (by simp) (by simp)) ?_ (by rintro op (rfl | rfl)<;>simp [binOp])
  exact N3k w 9999 t _ _ _ _ _ _ o
 ·cases h
  rename_i q
  rw [ha.nilmap_left] at *
  have o:∃e f,P.underlying t=some (.map e f):=by unfold TT at hk;split at hk<;>simp_all
  obtain ⟨e,f,o⟩:=o
  have u:∃v,b'=.map v/\v.isNone=q.isNone:=by
   cases s with
   | atom s=>exact ⟨_,rfl,rfl⟩
   | map s=>exact ⟨_,rfl,rfl⟩
  obtain ⟨v,rfl,B⟩:=u
  refine fin (QF _ _ _ _ (by simp) (by simp)) ?_ (by rintro op (rfl | rfl)<;>simp [binOp])
  rw [<-B]
  exact Nzr w 9999 t _ _ _ o
 ·cases h
  obtain ⟨L,h1,rfl⟩:=ha.map_left
  rw [s.nilmap_left] at *
  have o:∃e f,P.underlying t=some (.map e f):=by unfold TT at hk;split at hk<;>simp_all
  obtain ⟨e,f,o⟩:=o
  refine fin (QF _ _ _ _ (by simp) (by simp)) ?_ (by rintro op (rfl | rfl)<;>simp [binOp])
  exact Nzq w 9999 t _ _ _ o
 ·cases h
  rw [ha.nilfunc_left,s.nilfunc_left] at *
  have o:∃e f g,P.underlying t=some (.func e f g):=by unfold TT at hk;split at hk<;>simp_all
  obtain ⟨e,f,g,o⟩:=o
  refine fin (QF _ _ _ _ (by simp) (by simp)) ?_ (by rintro op (rfl | rfl)<;>simp [binOp])
  exact N3o w 9999 t o
 ·cases h
  rw [ha.nilfunc_left] at *
  have o:∃e f g,P.underlying t=some (.func e f g):=by unfold TT at hk;split at hk<;>simp_all
  obtain ⟨e,f,g,o⟩:=o
  have u:∃q i j,b'=.func q i j:=by cases s<;>exact ⟨_,_,_,rfl⟩
  obtain ⟨q,i,j,rfl⟩:=u
  refine fin (QF _ _ _ _ (by simp) (by simp)) ?_ (by rintro op (rfl | rfl)<;>simp [binOp])
  exact N3n w 9999 t _ _ _ o
 ·cases h
  rw [s.nilfunc_left] at *
  have o:∃e f g,P.underlying t=some (.func e f g):=by unfold TT at hk;split at hk<;>simp_all
  obtain ⟨e,f,g,o⟩:=o
  have z:∃q i j,a'=.func q i j:=by cases ha<;>exact ⟨_,_,_,rfl⟩
  obtain ⟨q,i,j,rfl⟩:=z
  refine fin (QF _ _ _ _ (by simp) (by simp)) ?_ (by rintro op (rfl | rfl)<;>simp [binOp])
  exact N3m w 9999 t _ _ _ o
 ·rename_i l xs ys
  obtain ⟨D,rfl,G,_⟩:=ha.agg_left
  obtain ⟨E,rfl,H,_⟩:=s.agg_left
  have F:P.eqGuardType P.depth t=false/\OY P 20 t=some l/\QT P t=some true:=by
   unfold TT at hk
   split at hk<;>simp_all [QT]
  have same:∀{l:List KK} {a b c d:List Value} {r:Bool},OG σ a c->OG σ b d->PP l a b=some r->PP l c d=some r:=by
   intro l
   induction l with
   | nil=>
     intro a b c d r h1 h2 h
     cases a<;>cases b<;>simp [PP] at h
     have:=h1.1;have:=h2.1
     cases c<;>cases d<;>simp_all [PP]
   | cons k l ih=>
     intro a b c d r h1 h2 h
     cases a with
     | nil=>simp [PP] at h
     | cons x a=>
       cases b with
       | nil=>simp [PP] at h
       | cons y b=>
         cases c with
         | nil=>have:=h1.1;simp at this
         | cons K c=>
           cases d with
           | nil=>have:=h2.1;simp at this
           | cons M d=>
             simp only [PP] at h⊢
             have hx:Tz k x y=Tz k K M\/Tz k x y=none:=by
              cases k<;>cases hxx:x<;>cases hyy:y<;>first
               | (right;rfl)
               | (left;subst hxx hyy;first | rw [h1.head.int_left,h2.head.int_left] | rw [h1.head.bool_left,h2.head.bool_left] | rw [h1.head.string_left,h2.head.string_left])
             split at h
             ·rename_i p q e1 e2
              cases h
              rcases hx with hx | hx
              ·rw [<-hx,e1,ih h1.tail h2.tail e2]
              ·rw [hx] at e1;cases e1
             ·cases h
  refine fin (run_eqGuard_agg w _ t x y D E F.1) ?_ (by rintro op (rfl | rfl)<;>simp [binOp])
  exact Vr w 20 t l F.2.1 9980 (.agg D) (.agg E) r (fun _=>⟨⟨_,rfl⟩,⟨_,rfl⟩⟩) (fun h=>by rw [F.2.2] at h;cases h) (same G H h)
 ·cases h
end
end Go.AM


namespace Go.AM
open Go.MapKept
section
variable {P:Program} {pureF:FuncId->Bool} {Pg:Prg} {W:Nat->Prop} {lim:Nat} {σ:PH} {H H':NA} {w:World} {dest:Option Nat} {ρ ρ':Operand->Value} {v:Value}
theorem TV {t:TypeId} {z:List Value} (h:zeroOf P t=some z):∃i a,P.info? t=some i/\i.zero=some a/\z=a.cells.toList/\(∀x∈z,atom x=true/\x.oneCell'=true):=by
 unfold zeroOf at h
 split at h
 ·rename_i i hi
  split at h
  ·rename_i a b
   split at h
   ·rename_i ha
    cases h
    refine ⟨i,a,hi,b,rfl,fun x hx=>?_⟩
    have:=N6.1 ha x hx
    simpa using this
   ·cases h
  ·cases h
 ·cases h
theorem YJ {t:TypeId} {n:Nat} (h:PG P t=some n):∃i,P.info? t=some i/\i.size=n:=by
 simpa [PG] using h
theorem ZP {t:TypeId} {n:Nat} (h:Vb P t=some n):∃i,P.info? t=some i/\i.bytes=n:=by
 simpa [Vb] using h
theorem Nmy (a:Inv Pg W lim σ H w) (hd:∀d,dest=some d->d<H.length/\σ d=none) {e:TypeId} {z:List Value} (h:zeroOf P e=some z)
  (hx:NJ lim dest (.alloc z) ρ H=some (v,H')) (o:Oper) (ho:o.op=.alloc e):OC Pg W lim σ dest H w ((execOp ρ' o).run P w) v H':=by
 obtain ⟨i,g,hi,f,rfl,b⟩:=TV h
 simp only [NJ] at hx
 cases hp:place dest (.cells false g.cells.toList) H with
 | mk k K=>
 rw [hp] at hx
 cases hx
 refine OC.made a hd hp (cs:=g.cells) (el:=e) (fun j x c=>⟨x,by simpa using c,.atom (b x (N8 c)).1,(b x (N8 c)).2⟩) (by simp) a (Stp.refl _ _)
  (v':=.pointer (some ⟨w.heap.size,0,none⟩)) ?_ (by simpa using VRel.ptr (σ:=σ.put k ⟨w.heap.size,0,g.cells.size⟩) (i:=k) (k:=0) PH.put_same)
 simp [execOp,ho,Instr.alloc,zeroValue,typeInfo,hi,f,newVar,newRow]
theorem Nvc (a:Inv Pg W lim σ H w) (hd:∀d,dest=some d->d<H.length/\σ d=none) {e:TypeId} {x:Operand} (hv:VRel σ (ρ x) (ρ' x))
  (hx:NJ lim dest (.box x) ρ H=some (v,H')) (o:Oper) (ho:o.op=.box e x):OC Pg W lim σ dest H w ((execOp ρ' o).run P w) v H':=by
 simp only [NJ] at hx
 split at hx
 case isFalse=>cases hx
 rename_i ht
 cases hp:place dest (.cells false (ρ x).cells.toList) H with
 | mk k K=>
 rw [hp] at hx
 cases hx
 refine OC.made a hd hp (cs:=(ρ' x).cells) (el:=e) (fun j y c=>?_) (by have:=hv.cells.1;simp at this;simp;omega) a (Stp.refl _ _)
  (v':=.pointer (some ⟨w.heap.size,0,none⟩)) ?_ (by simpa using VRel.ptr (σ:=σ.put k ⟨w.heap.size,0,(ρ' x).cells.size⟩) (i:=k) (k:=0) PH.put_same)
 ·obtain ⟨b,h1,h2⟩:=hv.cells.get c
  exact ⟨b,by simpa using h1,h2,hv.cells_one ht b (N8 h1)⟩
 ·simp [execOp,ho,Instr.box,newVar,newRow]
theorem Nbx (P:Program) (w:World):∀(a:List Field),(a.all fun f=>(P.info? f.type).isSome)=true->
  (a.mapM fun f=>(do pure (f.offset,<-sizeOf f.type):Sem (Nat×Nat))).run P w=.ok (a.map fun f=>(f.offset,P.cellsOf f.type)) w
 | [],_=>rfl
 | f::a,h=>by
   simp only [List.all_cons,Nx] at h
   obtain ⟨i,hi⟩:=Option.isSome_iff_exists.1 h.1
   have ih:=Nbx P w a h.2
   have h1:(do pure (f.offset,<-sizeOf f.type):Sem (Nat×Nat)).run P w=.ok (f.offset,P.cellsOf f.type) w:=by simp [sizeOf,typeInfo,hi,Program.cellsOf]
   rw [List.mapM_cons,Sem.run_bind,h1]
   simp only [Result.andThen_ok,Sem.run_bind,ih,Sem.run_pure,N9]
theorem Nc2 {z:List Value} (h:∀x∈z,atom x=true/\x.oneCell'=true):OG σ z z:=OG.refl_of fun x hx=>.atom (h x hx).1
theorem Ndp (P:Program) (w:World) (a:Array Field) (h:(a.toList.all fun f=>(P.info? f.type).isSome)=true) :
  (a.mapM fun f=>(do pure (f.offset,<-sizeOf f.type):Sem (Nat×Nat))).run P w=.ok (a.map fun f=>(f.offset,P.cellsOf f.type)) w:=by
 rw [Array.mapM_eq_mapM_toList]
 rw [Sem.run_map,Nbx P w a.toList h]
 simp only [Result.andThen_ok]
 congr 1
 apply Array.ext'
 simp
theorem ZQ (r:Inv Pg W lim σ H w) {t:TypeId} {d:Array Field} (M:P.underlying t=some (.struct d)) {z:List Value} (F:zeroOf P t=some z) {parts:Array (Nat×Operand)} {ps:List (Nat×Nat×Operand)}
  (b:parts.toList.mapM (Nnk P d)=some ps) (k:(d.toList.all fun f=>(P.info? f.type).isSome)=true) (O:∀x,PV x=true->VRel σ (ρ x) (ρ' x))
  (hx:NJ lim dest (.build z ps) ρ H=some (v,H')) (o:Oper) (ho:o.op=.build t parts):OC Pg W lim σ dest H w ((execOp ρ' o).run P w) v H':=by
 obtain ⟨i,u,hi,E,rfl,m⟩:=TV F
 simp only [NJ,Nb,Prod.mk.injEq] at hx
 obtain ⟨c,hc,rfl,rfl⟩:=hx
 have key:parts.toList.length=ps.length/\∀(j:Nat) s p,parts.toList[j]? = some s->ps[j]? = some p->((d.map fun f=>(f.offset,P.cellsOf f.type))[s.1]? = some (p.1,p.2.1))/\p.2.2=s.2/\VRel σ (ρ s.2) (ρ' s.2):=by
  generalize parts.toList=l at b
  clear hc ho F
  induction l generalizing ps with
  | nil=>simp at b;subst b;exact ⟨rfl,fun j s p h=>by simp at h⟩
  | cons a l ih=>
    rw [List.mapM_cons] at b
    simp only [bind,Option.bind_eq_some_iff,pure,Option.some.injEq] at b
    obtain ⟨q,g,R,D,rfl⟩:=b
    obtain ⟨I,J⟩:=ih D
    refine ⟨by simp [I],fun j s p hs hp=>?_⟩
    cases j with
    | zero=>
      simp at hs hp;subst hs hp
      simp only [Nnk,bind,Option.bind_eq_some_iff] at g
      obtain ⟨f,L,n,hn,g⟩:=g
      split at g
      case isFalse=>cases g
      rename_i C
      cases g
      obtain ⟨Q,A,B⟩:=YJ hn
      refine ⟨by simp [L,Program.cellsOf,A,B],rfl,O _ C⟩
    | succ j=>exact J j s p (by simpa using hs) (by simpa using hp)
 obtain ⟨G,h1,h2,K⟩:=TI (σ:=σ) ρ ρ' (fun j=>(d.map fun f=>(f.offset,P.cellsOf f.type))[j]?) parts.toList ps u.cells.toList c u.cells.toList key.1 key.2 hc (Nc2 m) (fun y N=>(m y N).2)
 refine OC.plain r (v':=.agg G.toArray) ?_ (VRel.agg_iff.2 ⟨by simpa using h2,by simpa using K⟩)
 simp only [execOp,ho]
 refine OT P w _ ?_
 simp only [Instr.build,Sem.run_bind,zeroValue,typeInfo,run_program,Result.andThen_ok,hi,E,Sem.run_pure,run_underlying M,Ndp P w d k]
 have e:((parts.map fun x=>(x.1,ρ' x.2)).toList)=parts.toList.map fun x=>(x.1,ρ' x.2):=by simp
 rw [e]
 have e2:(u.cells.toList).toArray=u.cells:=by simp
 rw [e2] at h1
 rw [h1]
 simp
theorem Naa (d:Inv Pg W lim σ H w) {t e:TypeId} {n:Nat} (m:P.underlying t=some (.array n e)) {z:List Value} (r:zeroOf P t=some z) {s:Nat} (hs:PG P e=some s) {parts:Array (Nat×Operand)}
  (g:∀x∈parts.toList,VRel σ (ρ x.2) (ρ' x.2))
  (hx:NJ lim dest (.build z (parts.toList.map fun x=>(x.1*s,s,x.2))) ρ H=some (v,H')) (o:Oper) (ho:o.op=.build t parts):OC Pg W lim σ dest H w ((execOp ρ' o).run P w) v H':=by
 obtain ⟨i,f,hi,h,rfl,b⟩:=TV r
 simp only [NJ,Nb,Prod.mk.injEq] at hx
 obtain ⟨c,hc,rfl,rfl⟩:=hx
 obtain ⟨k,h1,h2,l⟩:=TI (σ:=σ) ρ ρ' (fun j=>some (j*s,s)) parts.toList _ f.cells.toList c f.cells.toList (by simp) (fun j a p ha hp=>by
  rw [O0,ha] at hp
  simp at hp;subst hp
  exact ⟨rfl,rfl,g a (N8 ha)⟩) hc (Nc2 b) (fun y q=>(b y q).2)
 refine OC.plain d (v':=.agg k.toArray) ?_ (VRel.agg_iff.2 ⟨by simpa using h2,by simpa using l⟩)
 simp only [execOp,ho]
 refine OT P w _ ?_
 simp only [Instr.build,Sem.run_bind,zeroValue,typeInfo,run_program,Result.andThen_ok,hi,h,Sem.run_pure,run_underlying m,RI hs]
 have e:((parts.map fun x=>(x.1,ρ' x.2)).toList)=parts.toList.map fun x=>(x.1,ρ' x.2):=by simp
 rw [e]
 have e2:(f.cells.toList).toArray=f.cells:=by simp
 rw [e2] at h1
 rw [h1]
 simp
theorem Nbh (g:Inv Pg W lim σ H w) (hd:∀d,dest=some d->d<H.length/\σ d=none) {t e:TypeId} {len:Nat} (M:P.underlying t=some (.slice e)) {z:List Value} (S:zeroOf P e=some z) {s:Nat} (hs:PG P e=some s)
  (F:z.length=s) (E:s≠0) (L:len*s<=2 ^ 20) {parts:Array (Nat×Operand)} (D:∀x∈parts.toList,VRel σ (ρ x.2) (ρ' x.2))
  (hx:NJ lim dest (.buildSlice len ((List.range (len*s)).map fun j=>z.getD (j % z.length) undef) (parts.toList.map fun x=>(x.1*s,s,x.2))) ρ H=some (v,H')) (o:Oper) (ho:o.op=.buildSlice t len parts) :
  OC Pg W lim σ dest H w ((execOp ρ' o).run P w) v H':=by
 obtain ⟨i,b,hi,G,rfl,B⟩:=TV S
 simp only [NJ] at hx
 split at hx
 case h_2=>cases hx
 rename_i c hc
 have q:∀j,atom (b.cells.toList.getD (j % b.cells.toList.length) undef)=true/\(b.cells.toList.getD (j % b.cells.toList.length) undef).oneCell'=true:=fun j=>by
  have l:j % b.cells.toList.length<b.cells.toList.length:=Pr _ (by omega)
  rw [Na,Nf l]
  exact B _ (P6 l)
 have u:∀x∈((List.range (len*s)).map fun j=>b.cells.toList.getD (j % b.cells.toList.length) undef),atom x=true/\x.oneCell'=true:=fun x hx=>by
  obtain ⟨j,_,rfl⟩:=List.mem_map.1 hx
  exact q j
 obtain ⟨I,h1,h2,Q⟩:=TI (σ:=σ) ρ ρ' (fun j=>some (j*s,s)) parts.toList _ _ c _ (by simp) (fun j a p ha hp=>by
  rw [O0,ha] at hp
  simp at hp;subst hp
  exact ⟨rfl,rfl,D a (N8 ha)⟩) hc (Nc2 u) (fun y R=>(u y R).2)
 cases hp:place dest (.cells false c) H with
 | mk k K=>
 rw [hp] at hx
 cases hx
 refine OC.made g hd hp (cs:=I.toArray) (el:=e) (fun j y l=>?_) (by have:=h2.1;simp;omega) g (Stp.refl _ _)
  (v':=.slice (some ⟨w.heap.size,0,none⟩) len len) ?_ ?_
 ·obtain ⟨N,J,O⟩:=h2.get l
  exact ⟨N,by simpa using J,O,Q N (N8 J)⟩
 ·simp only [execOp,ho]
  refine OT P w _ ?_
  have r:¬(len*s > 2 ^ 24):=by omega
  have e:((parts.map fun x=>(x.1,ρ' x.2)).toList)=parts.toList.map fun x=>(x.1,ρ' x.2):=by simp
  have e3:∀m,(Array.map (fun x=>b.cells[x % b.cells.size]!) (Array.range m))=((List.range m).map fun j=>b.cells.toList.getD (j % b.cells.toList.length) undef).toArray:=fun m=>by
   apply Array.ext'
   simp only [Array.toList_map,Array.toList_range,Array.length_toList]
   refine Pv fun j _=>?_
   have l:j % b.cells.size<b.cells.size:=Pr _ (by simp at F;omega)
   rw [Na,Array.getElem?_toList,Ny l]
   simp [l]
  by_cases h0:len*s=0
  ·have C:len=0:=by
    rcases Nat.mul_eq_zero.1 h0 with h | h
    ·exact h
    ·exact absurd h E
   subst C
   simp only [Instr.buildSlice,Sem.run_bind,run_underlying M,Result.andThen_ok,RI hs,Qq,e]
   simp only [Qq,List.range_zero,List.map_nil] at h1
   have:¬(0 > 2 ^ 24):=by omega
   have e0:∀f:Nat->Value,Array.map f (Array.range 0)=#[]:=fun f=>by apply Array.ext';simp
   simp [e0,h1,newRow]
  ·simp only [Instr.buildSlice,Sem.run_bind,run_underlying M,Result.andThen_ok,RI hs,Ng r,Ng h0,e,zeroValue,typeInfo,run_program,hi,G,Sem.run_pure,e3,h1]
   simp [newRow]
 ·have A:len<2 ^ 62:=by
   have:len*1<=len*s:=Nat.mul_le_mul_left _ (by omega)
   omega
  simpa using VRel.slice (σ:=σ.put k ⟨w.heap.size,0,I.toArray.size⟩) (i:=k) (k:=0) (n:=len) PH.put_same A
end
section
variable {P:Program} {Pg:Prg} {W:Nat->Prop} {lim:Nat} {σ:PH} {H H':NA} {w:World} {dest:Option Nat} {ρ ρ':Operand->Value} {v:Value}
theorem Tj (a:Addr) (n:Nat) (hs:a.spot=none):a.add n=⟨a.block,a.off+n,none⟩:=by
 obtain ⟨b,o,s⟩:=a
 simp only at hs;subst hs
 unfold Addr.add
 split
 ·rename_i h;subst h;rfl
 ·rfl
theorem VRel.ptr_add {a:Addr} {L:Loc} (hL:σ a.block=some L) (hs:a.spot=none) (n:Nat) :
  VRel σ (.pointer (some (a.add n))) (.pointer (some ((⟨L.blk,L.base+a.off,none⟩:Addr).add n))):=by
 rw [Tj a n hs,Tj _ n rfl]
 have:=VRel.ptr (σ:=σ) (i:=a.block) (k:=a.off+n) hL
 rw [<-Oo] at this
 exact this
theorem Nkf {s f:Nat} {b:Array Field} {fd:Field} {n:Nat} (d:P.underlying s=some (.struct b)) (c:b[f]? = some fd) (hn:PG P fd.type=some n) (h0:n≠0) (a:Addr) :
  (Instr.fieldAt s (.pointer (some a)) f).run P w=.ok (.pointer (some (a.add fd.offset))) w:=by
 simp [Instr.fieldAt,run_underlying d,c,Instr.sureAddr,fieldPlace,RI hn,h0]
theorem ZA {t e:TypeId} {s:Nat} (b:P.underlying t=some (.slice e)) (hs:PG P e=some s) (a:Addr) (len cap:Nat) (k:IntKind) (n:Int) (h:0<=n/\n<(len:Int)) :
  (Instr.indexAt t (.slice (some a) len cap) (.int k n)).run P w=.ok (.pointer (some (a.add (n.toNat*s)))) w:=by
 simp [Instr.indexAt,asIntOf,run_underlying b,RI hs,h]
theorem ZB {t e:TypeId} {s len:Nat} (b:P.underlying t=some (.array len e)) (hs:PG P e=some s) (a:Addr) (k:IntKind) (n:Int) (h:0<=n/\n<(len:Int)) :
  (Instr.indexAt t (.pointer (some a)) (.int k n)).run P w=.ok (.pointer (some (a.add (n.toNat*s)))) w:=by
 simp [Instr.indexAt,asIntOf,run_underlying b,RI hs,Instr.sureAddr,h]
theorem WM {t e:TypeId} {s len:Nat} (a:P.underlying t=some (.array len e)) (hs:PG P e=some s) (cs:Array Value) (k:IntKind) (n:Int) (h:0<=n/\n<(len:Int)) :
  (Instr.index t (.agg cs) (.int k n)).run P w=(part e cs (n.toNat*s)).run P w:=by
 simp [Instr.index,asIntOf,run_underlying a,RI hs,h]
theorem Mo {t:TypeId} (d:P.underlying t=some .string) (s:ByteArray) (k:IntKind) (n:Int) {b:UInt8} (h0:0<=n) (h:s.data.toList[n.toNat]? = some b) :
  (Instr.index t (.string s) (.int k n)).run P w=.ok (.int .u8 b.toNat) w:=by
 have h':s[n.toNat]? = some b:=by
  obtain ⟨hl,c⟩:=List.getElem?_eq_some_iff.1 h
  have a:n.toNat<s.size:=by simpa using hl
  show (if h:n.toNat<s.size then some s[n.toNat] else none)=some b
  rw [dif_pos a,<-c]
  rfl
 simp [Instr.index,asIntOf,run_underlying d,h0,h']
theorem Nh0 {t e:TypeId} {s:Nat} (M:P.underlying t=some (.slice e)) (hs:PG P e=some s) {x K:Value} (hx:VRel σ x K) {lo hi mx:Option Operand}
  (C:∀y∈lo.toList++hi.toList++mx.toList,VRel σ (ρ y) (ρ' y)) (h:TJ s ρ x lo hi mx=some v) :
  ∃v',(Instr.sliceAt t K (lo.map ρ') (hi.map ρ') (mx.map ρ')).run P w=.ok v' w/\VRel σ v v':=by
 unfold TJ at h
 split at h
 case h_2=>cases h
 rename_i a len cap
 have run:∀(a':Option Addr) (g f l h' b:Nat),(Instr.sliceBounds true g f (lo.map ρ') (hi.map ρ') (mx.map ρ')).run P w=.ok (l,h',b) w->
   (Instr.sliceAt t (.slice a' g f) (lo.map ρ') (hi.map ρ') (mx.map ρ')).run P w=.ok (.slice (if b=l then a' else a'.map (·.add (l*s))) (h'-l) (b-l)) w:=by
  intro a' g f l h' b j
  simp [Instr.sliceAt,Instr.slice,run_underlying M,j,RI hs]
 cases a with
 | none=>
   obtain ⟨rfl,rfl,rfl⟩:=hx.nilslice_left
   have F:¬(0=loose s):=by unfold loose;omega
   rw [Ng F,Nh (by omega)] at h
   split at h
   ·cases h
   ·rename_i l h' m j
    cases h
    obtain ⟨b,o,r2,r3,D,E,q,r⟩:=SC (P:=P) (w:=w) j C (Nd _) true
    have hm:b=m:=by
     by_cases e:mx=none
     ·rw [(r2 e).1,(r2 e).2]
     ·exact r3 e
    subst hm
    have B:l=0/\h'=0/\b=0:=by
     by_cases e:hi=none
     ·have:=q e;omega
     ·have:=r e;omega
    obtain ⟨rfl,rfl,rfl⟩:=B
    exact ⟨_,run _ _ _ _ _ _ o,by simpa using VRel.atom rfl⟩
 | some a=>
   obtain ⟨d,L,hL,hc⟩:=hx.slice_left
   split at h
   ·
    rename_i p
    split at h
    ·cases h
    rename_i l h' m j
    rcases hc with ⟨u,_⟩ | ⟨e',he,N,hn,hr,rfl⟩ | ⟨a',he,hn,rfl⟩
    ·rw [p] at u;unfold loose at u;omega
    ·have H:e'=s:=by rw [p] at he;unfold loose at he;omega
     subst H
     obtain ⟨b,o,r2,r3,D,E,q,r⟩:=SC (P:=P) (w:=w) j C hn true
     have O:h'<=len:=by
      by_cases e:hi=none
      ·have:=q e;omega
      ·have:=r e;omega
     refine ⟨_,run _ _ _ _ _ _ o, ?_⟩
     cases mx with
     | none=>
       simp only at h;cases h
       obtain ⟨e1,e2⟩:=r2 rfl
       subst e1
       by_cases A:b=l
       ·rw [Nh A]
        have:h'-l=0:=by omega
        rw [this,A,Qr]
        simp only [Nr]
        rw [Tj a _ d]
        exact .eslice hL (.inr ⟨_,rfl⟩)
       ·rw [Ng A]
        simp only [Nr]
        rw [Tj a _ d,Tj _ _ rfl]
        have key:a.off+l*e'+(b-l)*e'<=L.room:=by
         have:l*e'+(b-l)*e'=b*e':=by rw [<-Pw];congr 1;omega
         omega
        have:=VRel.lslice (σ:=σ) (i:=a.block) (k:=a.off+l*e') (n:=h'-l) (e:=e') (c:=b-l) hL (by omega) key
        rw [<-Oo] at this
        exact this
     | some z=>
       simp only at h
       split at h
       case isFalse=>cases h
       rename_i J
       cases h
       have I:=r3 (by simp)
       subst I
       split
       ·exact VRel.slice' d hL (by omega)
       ·simp only [Nr]
        rw [Tj a _ d,Tj _ _ rfl]
        have:=VRel.slice (σ:=σ) (i:=a.block) (k:=a.off+l*e') (n:=h'-l) (c:=b-l) hL (by omega)
        rw [<-Oo] at this
        exact this
    ·subst hn
     obtain ⟨b,o,r2,r3,D,E,q,r⟩:=SC (P:=P) (w:=w) j C (Nd _) true
     have hm:b=m:=by
      by_cases e:mx=none
      ·rw [(r2 e).1,(r2 e).2]
      ·exact r3 e
     subst hm
     have B:l=0/\h'=0/\b=0:=by
      by_cases e:hi=none
      ·have:=q e;omega
      ·have:=r e;omega
     obtain ⟨rfl,rfl,rfl⟩:=B
     refine ⟨_,run _ _ _ _ _ _ o, ?_⟩
     cases mx with
     | none=>
       simp only at h;cases h
       simp only [Nr,if_true,Qr]
       rw [Tj a _ d]
       exact .eslice hL (.inr ⟨_,rfl⟩)
     | some z=>
       simp at h;subst h
       exact VRel.eslice' d hL (.inl rfl)
   ·split at h
    case isFalse=>cases h
    rename_i u
    split at h
    ·cases h
    rename_i l h' m j
    cases h
    rcases hc with ⟨_,rfl⟩ | ⟨e',he,_⟩ | ⟨a',he,hn,rfl⟩
    ·obtain ⟨b,o,r2,r3,D,E,q,r⟩:=SC (P:=P) (w:=w) j C (Nd _) true
     have hm:b=m:=by
      by_cases e:mx=none
      ·rw [(r2 e).1,(r2 e).2]
      ·exact r3 e
     subst hm
     refine ⟨_,run _ _ _ _ _ _ o, ?_⟩
     split
     ·exact VRel.slice' d hL (by omega)
     ·simp only [Nr]
      rw [Tj a _ d,Tj _ _ rfl]
      have:=VRel.slice (σ:=σ) (i:=a.block) (k:=a.off+l*s) (n:=h'-l) (c:=b-l) hL (by omega)
      rw [<-Oo] at this
      exact this
    ·exact absurd he (by unfold loose at *;omega)
    ·subst hn
     have G:cap=0:=by
      rcases he with h | ⟨e,h⟩
      ·exact h
      ·exact absurd h (by unfold loose at *;omega)
     subst G
     obtain ⟨b,o,r2,r3,D,E,q,r⟩:=SC (P:=P) (w:=w) j C (Nd _) true
     have hm:b=m:=by
      by_cases e:mx=none
      ·rw [(r2 e).1,(r2 e).2]
      ·exact r3 e
     subst hm
     have B:l=0/\h'=0/\b=0:=by
      by_cases e:hi=none
      ·have:=q e;omega
      ·have:=r e;omega
     obtain ⟨rfl,rfl,rfl⟩:=B
     refine ⟨_,run _ _ _ _ _ _ o, ?_⟩
     simp only [if_true,Qr]
     exact VRel.eslice' d hL (.inl rfl)
end
section
variable {P:Program} {Pg:Prg} {W:Nat->Prop} {lim:Nat} {σ:PH} {H H':NA} {w:World} {dest:Option Nat} {v:Value}
theorem Nsf (p:Inv Pg W lim σ H w) {r:TypeId} {esz m:Nat} {str:Bool} (f:if str then P.underlying r=some .string/\esz=1 else ∃t,P.underlying r=some (.slice t)) {x q:Value} (hx:VRel σ x q)
  {new:List Value} (hn:firstCells H esz str x=some new) (hm:lenOf x=some m) :
  ∃news,Src P esz r q m news w/\OG σ new news/\(∀y∈news,y.oneCell'=true)/\new.length=m*esz:=by
 unfold firstCells at hn
 split at hn
 ·rename_i n c
  obtain ⟨rfl,rfl,rfl⟩:=hx.nilslice_left
  simp [lenOf] at hm;subst hm
  split at hn
  ·cases hn
  ·rename_i hs
   cases hn
   simp at hs
   rw [hs] at f
   obtain ⟨t,g⟩:=f
   exact ⟨[],Src.ofNil w g 0,OG.nil,fun y i=>by simp at i,by simp⟩
 ·rename_i a n c
  simp [lenOf] at hm;subst hm
  split at hn
  ·cases hn
  ·rename_i hs
   simp at hs
   rw [hs] at f
   obtain ⟨t,g⟩:=f
   obtain ⟨B,L,hL,hc⟩:=hx.slice_left
   have k:∀l,q=.slice (some ⟨L.blk,L.base+a.off,none⟩) n l->∃news,Src P esz r q n news w/\OG σ new news/\(∀y∈news,y.oneCell'=true)/\new.length=n*esz:=by
    intro l d
    by_cases o:n=0
    ·subst o
     rw [Nh rfl] at hn;cases hn
     subst d
     exact ⟨[],Src.ofSlice w g _ 0 l [] (by simp) (fun j u h=>by simp at h) (fun u h=>by simp at h),OG.nil,fun y i=>by simp at i,by simp⟩
    rw [Ng o] at hn
    obtain ⟨z,h1,h2,v,A⟩:=p.loadCells hL hn
    subst d
    refine ⟨z,Src.ofSlice w g _ n l z h2 (fun j u h=>by rw [Addr.add_mid];exact A j u h) v,h1,v,by rw [h1.1,h2]⟩
   rcases hc with ⟨_,d⟩ | ⟨e,_,l,_,_,d⟩ | ⟨a',_,h0,d⟩
   ·exact k _ d
   ·exact k _ d
   ·subst h0 d
    rw [Nh rfl] at hn;cases hn
    exact ⟨[],Src.ofSlice w g _ 0 0 [] (by simp) (fun j u h=>by simp at h) (fun u h=>by simp at h),OG.nil,fun y i=>by simp at i,by simp⟩
 ·rename_i s
  simp [lenOf] at hm;subst hm
  split at hn
  case isFalse=>cases hn
  rename_i hs
  cases hn
  rw [Nh hs] at f
  obtain ⟨f,rfl⟩:=f
  rw [hx.string_left]
  refine ⟨byteCells s,Src.ofString w f s,OG.refl_of fun y i=>?_,fun y i=>?_,by simp⟩
  ·obtain ⟨b,_,rfl⟩:=List.mem_map.1 i;exact .atom rfl
  ·obtain ⟨b,_,rfl⟩:=List.mem_map.1 i;rfl
 ·cases hn
theorem Nae (f:Inv Pg W lim σ H w) (hd:∀d,dest=some d->d<H.length/\σ d=none) {st xt ty e:TypeId} (T:P.underlying st=some (.slice e)) {esz bytes:Nat} {str:Bool}
  (a9:if str then P.underlying xt=some .string/\esz=1 else ∃e',P.underlying xt=some (.slice e')) (az:PG P e=some esz) (ay:Vb P e=some bytes) {z:List Value} (hz:zeroOf P e=some z) (ba:z.length=esz)
  {s s' x x':Value} (hs:VRel σ s s') (hx:VRel σ x x') (h:OU lim dest esz bytes str s x H=some (v,H')) {run:Result Next}
  (F:run=((Builtin.append_ #[st,xt] ty #[s',x']).run P w).andThen fun v w'=>.ok (.value v) w'):OC Pg W lim σ dest H w run v H':=by
 obtain ⟨i,hi,a1⟩:=YJ az
 obtain ⟨i2,ai,a0⟩:=ZP ay
 rw [hi] at ai;cases ai
 obtain ⟨i3,zv,aj,bc,bd,be⟩:=TV hz
 rw [hi] at aj;cases aj
 have bb:zv.cells.size=esz:=by rw [<-ba,bd];simp
 subst a1 a0
 unfold OU at h
 split at h
 case h_2=>cases h
 rename_i base n cap new m am hm
 obtain ⟨news,G,l,E,Q⟩:=Nsf f a9 hx am hm
 split at h
 ·cases h
 rename_i C
 have bf:i.size≠0:=fun e=>C (.inl e)
 have av:¬(n+m)*i.bytes > PM:=fun e=>C (.inr (.inl e))
 have bg:¬n+m>=2 ^ 62:=fun e=>C (.inr (.inr (.inl e)))
 have bh:¬cap<n:=fun e=>C (.inr (.inr (.inr e)))
 have U:(n+m)*i.bytes<=140737488355328:=by unfold PM at av;omega
 split at h
 ·rename_i al
  subst al
  have a5:news=[]:=by have:=l.1;simp at Q;subst Q;simpa using this.symm
  subst a5
  cases h
  have fin:∀b' n' g,s'=.slice b' n' g->n'<=g->OC Pg W lim σ dest H w run (.slice base n cap) H:=fun b' n' g b hle=>by
   refine OC.plain f (v':=s') ?_ hs
   subst b
   rw [F,run_append_nothing w st xt ty e i T hi b' n' g hle x' G]
   rfl
  cases base with
  | none=>obtain ⟨_,_,b⟩:=hs.nilslice_left;exact fin _ _ _ b (Nd _)
  | some a=>
    obtain ⟨_,L,hL,⟨_,b⟩ | ⟨_,_,g,hn,_,b⟩ | ⟨_,_,_,b⟩⟩:=hs.slice_left
    ·exact fin _ _ _ b (by omega)
    ·exact fin _ _ _ b hn
    ·exact fin _ _ _ b (Nd _)
 rename_i al
 have a2:0<m:=by omega
 have grow:∀(H0:NA) (B:Option Addr) (n' g:Nat) (old olds:List Value) (k:Nat) (K:NA),Inv Pg W lim σ H0 w->H0.length=H.length->s'=.slice B n' g->n'=n->OG σ old olds->(∀y∈olds,y.oneCell'=true)->old.length=n*i.size->
   (Builtin.firstCells i.size n' (.slice B n' g)).run P w.drew=.ok olds.toArray w.drew->g<n+m->place dest (.cells false (old++new)) H0=(k,K)->
   OC Pg W lim σ dest H w run (.slice (some ⟨k,0,none⟩) (n+m) (loose i.size)) K:=by
  intro H0 B n' g old olds k K hI N b a4 aq R D r O hp
  subst b a4
  have hg:=run_append_grow_src w st xt ty e i zv T hi bc B n' g olds r x' m news G O (by omega) (growslice_fits O U)
  have ah:=grownCap_ge w (n'+m) g e
  have ae:∀d,dest=some d->d<H0.length/\σ d=none:=fun d e=>by rw [N];exact hd d e
  have ab:(((olds++news).toArray++Builtin.zeroCells zv.cells (grownCap w (n'+m) g e-(n'+m))).size)=grownCap w (n'+m) g e*i.size:=by
   simp only [Array.size_append,size_zeroCells,bb,List.size_toArray,Ni,<-aq.1,<-l.1,D,Q]
   rw [<-Pw,<-Pw];congr 1;omega
  obtain ⟨q1,q2⟩:=hI.drew.alloc (lim:=lim) (el:=e) hp ae (cs:=(olds++news).toArray++Builtin.zeroCells zv.cells (grownCap w (n'+m) g e-(n'+m))) (fun j y M=>by
   obtain ⟨y',h1,h2⟩:=(aq.append l).get M
   refine ⟨y', ?_,h2, ?_⟩
   ·rw [Array.getElem?_append_left (by have:=(List.getElem?_eq_some_iff.1 h1).1;simpa using this)]
    simpa using h1
   ·rcases N0.1 (N8 h1) with h | h
    ·exact R _ h
    ·exact E _ h) (by rw [ab];simp only [Ni,D,Q,<-Pw];exact O8 _ ah)
  obtain ⟨g1,g2,g3,g4,g5,g6,g7⟩:=Tg hp fun d e=>(ae d e).1
  refine ⟨_,_,_,_,by rw [F,hg];rfl,rfl, ?_,q1,Stp.drew.trans (Stp.alloc hI.drew.fresh _),PH.le_put q2,fun j M=>?_,by omega,fun X=>?_⟩
  ·have Z:0+grownCap w (n'+m) g e*i.size<=((olds++news).toArray++Builtin.zeroCells zv.cells (grownCap w (n'+m) g e-(n'+m))).size:=by omega
   have:=VRel.lslice (σ:=σ.put k ⟨w.drew.heap.size,0,_⟩) (i:=k) (k:=0) (n:=n'+m) (e:=i.size) (c:=grownCap w (n'+m) g e) PH.put_same ah Z
   simpa [Oo] using this
  ·by_cases e:j=k
   ·subst e
    cases dest with
    | none=>exact .inr ⟨rfl,by rw [g5 rfl,N];exact Nd _⟩
    | some d=>exact .inl (by rw [(g6 d rfl).1])
   ·simp [PH.put,e] at M
  ·cases dest with
   | none=>exact absurd rfl X
   | some d=>rw [(g6 d rfl).2,N]
 cases base with
 | none=>
   simp only at h
   split at h
   case isFalse=>cases h
   rename_i h0
   obtain ⟨rfl,rfl⟩:=h0
   obtain ⟨_,_,b⟩:=hs.nilslice_left
   cases hp:place dest (.cells false new) H with
   | mk k K=>
   rw [hp] at h
   cases h
   have:=grow H none 0 0 [] [] k K f rfl b rfl OG.nil (fun y hy=>by simp at hy) (by simp) (run_firstCells_none w.drew i.size 0 0 0) (by omega) (by simpa using hp)
   simpa using this
 | some a=>
   simp only at h
   split at h
   ·cases h
   rename_i old q
   obtain ⟨au,L,hL,hc⟩:=hs.slice_left
   have D:old.length=n*i.size:=by
    unfold AM.loadCells at q
    split at q
    ·split at q
     ·cases q;simp;omega
     ·cases q
    ·cases q
   obtain ⟨olds,Y,a7,an,a8⟩:=f.loadCells hL q
   have r:∀g,(Builtin.firstCells i.size n (.slice (some ⟨L.blk,L.base+a.off,none⟩) n g)).run P w.drew=.ok olds.toArray w.drew:=fun g=>
    run_firstCells_some w.drew i.size n _ n g olds a7 fun j u T=>by rw [Addr.add_mid];simpa using a8 j u T
   have empty:n=0->old=[]:=fun h0=>by subst h0;simpa using D
   split at h
   ·
    rename_i I
    split at h
    case h_2=>cases h
    rename_i cb hb
    split at h
    case isFalse=>cases h
    rename_i ak
    cases hp:place dest (.cells false (old++new)) (H.set a.block .dead) with
    | mk k K=>
    rw [hp] at h
    cases h
    rcases hc with ⟨O,_⟩ | ⟨e',he,g,hn,hr,b⟩ | ⟨a',he,hn,b⟩
    ·rw [I] at O;unfold loose at O;omega
    ·have ag:e'=i.size:=by rw [I] at he;unfold loose at he;omega
     subst ag
     by_cases o:n+m<=g
     ·
      have Z:a.off+old.length+new.length<=L.room:=by
       rw [D,Q,Oo,<-Pw]
       have:(n+m)*i.size<=g*i.size:=O8 _ o
       omega
      obtain ⟨w',q1,q2,q3,q4⟩:=f.appendRoom (P:=P) hb hL ak (by rw [D];exact q) l E Z hp hd
      obtain ⟨cs,el,fz,hh,aw,ho⟩:=f.cells hb hL
      obtain ⟨ao,ap,S⟩:=ho rfl
      have t:∀j,j<news.length->(w.cell? ⟨L.blk,L.base+a.off+n*i.size+j,none⟩).isSome=true:=fun j M=>by
       rw [cell_of_heap hh (Ny (by have:=l.1;omega))];rfl
      have J:∀j,j<news.length->w.frozen? ⟨L.blk,L.base+a.off+n*i.size+j,none⟩=false:=fun j M=>by
       simp only [World.frozen?,hh]
       have:=S.ok (L.base+a.off+n*i.size+j) (by have:=l.1;omega)
       obtain ⟨f1,f2⟩:=fz
       simp at this⊢
       exact this
      have aa:=run_append_room_src w st xt ty e i T hi L.blk (L.base+a.off) n g x' m news G o t J
      have A:=run_storeCells_cells (P:=P) L.blk (L.base+a.off+n*i.size) news 0 w (by simpa using t) (by simpa using J) E
      rw [D] at q1
      rw [Pd] at A
      have ac:w'=w.setCells L.blk (L.base+a.off+n*i.size) news:=by
       have:=q1.symm.trans A
       simpa using this
      obtain ⟨g1,g2,g3,g4,g5,g6,g7⟩:=Tg hp fun d e=>by simpa using (hd d e).1
      subst b
      refine ⟨_,w',_,_,by rw [F,aa,ac];rfl,rfl, ?_,q2,q3,PH.le_put q4,fun j M=>?_,by simpa using g3,fun X=>?_⟩
      ·have ar:0+g*i.size<=L.room-a.off:=by omega
       have:=VRel.lslice (σ:=σ.put k ⟨L.blk,L.base+a.off,L.room-a.off⟩) (i:=k) (k:=0) (n:=n+m) (e:=i.size) (c:=g) PH.put_same o ar
       simpa using this
      ·by_cases e:j=k
       ·subst e
        cases dest with
        | none=>exact .inr ⟨rfl,by rw [g5 rfl];simp⟩
        | some d=>exact .inl (by rw [(g6 d rfl).1])
       ·simp [PH.put,e] at M
      ·cases dest with
       | none=>exact absurd rfl X
       | some d=>rw [(g6 d rfl).2];simp
     ·exact grow (H.set a.block .dead) _ n g old olds k K (f.killAny _) (by simp) b rfl Y an D (r g) (by omega) hp
    ·subst hn
     have:=empty rfl
     subst this
     have a6:olds=[]:=by have:=Y.1;simpa using this.symm
     subst a6
     exact grow (H.set a.block .dead) (some a') 0 0 [] [] k K (f.killAny _) (by simp) b rfl OG.nil (fun y hy=>by simp at hy) (by simp) (run_firstCells_some w.drew i.size 0 _ 0 0 [] (by simp) (fun j u T=>by simp at T)) (by omega) hp
   ·split at h
    case isFalse=>cases h
    rename_i I ad
    split at h
    ·
     rename_i o
     split at h
     case h_2=>cases h
     rename_i H2 A
     cases h
     rcases hc with ⟨_,b⟩ | ⟨e',he,_⟩ | ⟨a',he,hn,b⟩
     ·rw [Tj a _ au] at A
      obtain ⟨w',q1,q2,q3,q4⟩:=f.store (P:=P) (p:=⟨a.block,a.off+n*i.size,none⟩) hL A l E
      unfold storeAt at A
      split at A
      case h_2=>cases A
      rename_i cb hb
      split at A
      case isFalse=>cases A
      rename_i ax
      obtain ⟨cs,el,fz,hh,aw,ho⟩:=f.cells hb hL
      obtain ⟨ao,ap,S⟩:=ho rfl
      simp only at ax
      have t:∀j,j<news.length->(w.cell? ⟨L.blk,L.base+a.off+n*i.size+j,none⟩).isSome=true:=fun j M=>by
       rw [cell_of_heap hh (Ny (by have:=l.1;omega))];rfl
      have J:∀j,j<news.length->w.frozen? ⟨L.blk,L.base+a.off+n*i.size+j,none⟩=false:=fun j M=>by
       simp only [World.frozen?,hh]
       have:=S.ok (L.base+a.off+n*i.size+j) (by have:=l.1;omega)
       obtain ⟨f1,f2⟩:=fz
       simp at this⊢
       exact this
      have aa:=run_append_room_src w st xt ty e i T hi L.blk (L.base+a.off) n cap x' m news G o t J
      have V:=run_storeCells_cells (P:=P) L.blk (L.base+a.off+n*i.size) news 0 w (by simpa using t) (by simpa using J) E
      rw [Pd] at V
      rw [show L.base+(a.off+n*i.size)=L.base+a.off+n*i.size by omega] at q1
      have ac:w'=w.setCells L.blk (L.base+a.off+n*i.size) news:=by
       have:=q1.symm.trans V
       simpa using this
      subst b
      exact ⟨_,w',σ,_,by rw [F,aa,ac];rfl,rfl,VRel.slice' au hL ad,q2,q3,PH.le_refl σ,fun j M=>absurd rfl M,by omega,fun _=>q4⟩
     ·exact absurd he (by unfold loose at *;omega)
     ·exact absurd he (by unfold loose at *;omega)
    ·rename_i o
     cases hp:place dest (.cells false (old++new)) H with
     | mk k K=>
     rw [hp] at h
     cases h
     rcases hc with ⟨_,b⟩ | ⟨e',he,_⟩ | ⟨a',he,hn,b⟩
     ·exact grow H _ n cap old olds k K f rfl b rfl Y an D (r cap) (by omega) hp
     ·exact absurd he (by unfold loose at *;omega)
     ·subst hn
      have:=empty rfl
      subst this
      exact grow H (some a') 0 0 [] [] k K f rfl b rfl OG.nil (fun y hy=>by simp at hy) (by simp) (run_firstCells_some w.drew i.size 0 _ 0 0 [] (by simp) (fun j u T=>by simp at T)) (by omega) hp
end
section
variable {P:Program} {Pg:Prg} {W:Nat->Prop} {lim:Nat} {σ:PH} {H H':NA} {w:World} {dest:Option Nat} {ρ ρ':Operand->Value} {v:Value}
theorem MB:∀{l:List KK} {ks:List IntKind},Td l=some ks->l=ks.map .int
 | [],ks,h=>by simp [Td] at h;subst h;rfl
 | .int k::l,ks,h=>by
   simp only [Td,Nb] at h
   obtain ⟨r,h1,rfl⟩:=h
   rw [MB h1];rfl
 | .str::l,ks,h=>by simp [Td] at h
 | .bool::l,ks,h=>by simp [Td] at h
 | .ints _::l,ks,h=>by simp [Td] at h
theorem M9:∀{ks:List IntKind} {xs ys:List Value} {r:Bool},RA ks xs=true->Tx xs ys=some r->PP (ks.map .int) xs ys=some r
 | [],[],ys,r,_,h=>by
   cases ys with
   | nil=>simpa [Tx,PP] using h
   | cons y ys=>simp [Tx] at h
 | [],x::xs,ys,r,h1,_=>by simp [RA] at h1
 | k::ks,[],ys,r,h1,_=>by simp [RA] at h1
 | k::ks,x::xs,ys,r,h1,h=>by
   cases x<;>simp only [RA,Nz] at h1
   rename_i k' a
   rw [Nx,beq_iff_eq] at h1
   obtain ⟨rfl,h1⟩:=h1
   cases ys with
   | nil=>simp [Tx] at h
   | cons y ys=>
     cases y<;>simp only [Tx] at h<;>try (cases h;done)
     rename_i k2 b
     split at h
     ·rename_i hk
      subst hk
      simp only [Nb] at h
      obtain ⟨c,h2,rfl⟩:=h
      have:=M9 h1 h2
      simp only [N9,PP,Tz,this,and_self,if_true]
     ·cases h
theorem Zq:∀{ks:List IntKind} {xs:List Value},RA ks xs=true->xs.length=ks.length
 | [],[],_=>rfl
 | [],x::xs,h=>by simp [RA] at h
 | k::ks,[],h=>by simp [RA] at h
 | k::ks,x::xs,h=>by
   cases x<;>simp only [RA,Nz] at h
   rw [Nx] at h
   simp [Zq h.2]
theorem Nb4:∀{xs ys:List Value},Tx xs ys=some true->ys=xs
 | [],[],_=>rfl
 | [],y::ys,h=>by simp [Tx] at h
 | x::xs,[],h=>by cases x<;>simp [Tx] at h
 | x::xs,y::ys,h=>by
   cases x<;>cases y<;>simp only [Tx] at h<;>try (cases h;done)
   split at h
   ·rename_i hk
    subst hk
    simp only [Nb,Nx,beq_iff_eq] at h
    obtain ⟨r,h1,rfl,rfl⟩:=h
    rw [Nb4 h1]
   ·cases h
theorem Nee:∀{ks:List IntKind} {xs ys:List Value},RA ks xs=true->OG σ xs ys->ys=xs
 | [],[],ys,_,h=>by
   have:=h.1
   cases ys with
   | nil=>rfl
   | cons y ys=>simp at this
 | [],x::xs,ys,h,_=>by simp [RA] at h
 | k::ks,[],ys,h,_=>by simp [RA] at h
 | k::ks,x::xs,ys,h,hr=>by
   cases ys with
   | nil=>have:=hr.1;simp at this
   | cons y ys=>
     cases x<;>simp only [RA,Nz] at h
     rw [Nx] at h
     rw [Nee h.2 hr.tail,hr.head.int_left]
theorem Nhc {n:Nat} {t:TypeId} {l:List KK} (h:OY P n t=some l):∃b,QT P t=some b/\(b=false->l.length=1):=by
 cases n with
 | zero=>simp [OY] at h
 | succ n=>
   unfold OY at h
   unfold QT
   cases hu:P.underlying t with
   | none=>simp [hu] at h
   | some a=>
     rw [hu] at h
     cases a<;>simp at h<;>first
      | (subst h;exact ⟨false,rfl,fun _=>rfl⟩)
      | exact ⟨true,rfl,fun h=>by cases h⟩
theorem Tv (em:Bool) (d:Nat):∀(n:Nat) (t:TypeId) (l:List KK),OY P n t=some l->∀x,(QT P t=some true->∃xs,x=.agg xs/\l.length<=xs.size)->(Instr.checkKey em (d+n) t x).run P w=.ok () w
 | 0,t,l,h,_,_=>by simp [OY] at h
 | n+1,t,l,h,x,hx=>by
   rw [show d+(n+1)=(d+n)+1 from rfl]
   unfold OY at h
   split at h
   ·rename_i hu
    simp only [Instr.checkKey,Sem.run_bind,run_underlying hu,Result.andThen_ok]
    cases x<;>rfl
   ·rename_i k hu
    simp only [Instr.checkKey,Sem.run_bind,run_underlying hu,Result.andThen_ok]
    cases x<;>rfl
   ·rename_i hu
    simp only [Instr.checkKey,Sem.run_bind,run_underlying hu,Result.andThen_ok]
    cases x<;>rfl
   ·rename_i len e hu
    split at h
    case h_2=>cases h
    rename_i l1 hl1
    split at h
    case isFalse=>cases h
    rename_i hc
    cases h
    obtain ⟨xs,rfl,hsz⟩:=hx (by simp [QT,hu])
    have hue:∃dsc,P.underlying e=some dsc:=by
     cases hd:P.underlying e with
     | some x=>exact ⟨x,rfl⟩
     | none=>cases n<;>simp [OY,hd] at hl1
    obtain ⟨dsc,hue⟩:=hue
    obtain ⟨i,hi⟩:=info_of_underlying hue
    have hsz1:PG P e=some l1.length:=by
     rw [hc];simp [PG,Program.cellsOf,hi]
    have his:i.size=l1.length:=by
     have:=hsz1;simpa [PG,hi] using this
    obtain ⟨b,hb,hb1⟩:=Nhc hl1
    have hlen:(List.replicate len l1).flatten.length=len*l1.length:=by simp
    rw [hlen] at hsz
    simp only [Instr.checkKey,Sem.run_bind,run_underlying hu,Result.andThen_ok]
    simp only [Std.Legacy.Range.forIn_eq_forIn_range',Std.Legacy.Range.size,Nat.sub_zero,Nat.add_one_sub_one,Nat.div_one]
    have each:∀j∈List.range' 0 len,j<len:=fun j hj=>by simpa using (List.mem_range'_1.1 hj).2
    generalize List.range' 0 len=is at each
    induction is with
    | nil=>simp
    | cons j is ih=>
      have hj:=each j (by simp)
      have hjl:j*l1.length+l1.length<=xs.size:=by
       have:=O8 l1.length (Qw hj)
       rw [Pq] at this
       omega
      obtain ⟨a,p1,p2,p3,p4⟩:=Vs w e hb hsz1 xs (j*l1.length) hjl hb1
      have q:=Tv em d n e l1 hl1 a (fun ht=>by
       obtain ⟨zs,rfl⟩:=p2 ht
       refine ⟨zs,rfl, ?_⟩
       rw [hb] at ht
       cases ht
       have:=P3 List.length (p4 rfl)
       simp only [Value.cells,Array.length_toList,O6,Pj] at this
       omega)
      simp only [List.forIn_cons,Sem.run_bind,run_sizeOf w hi,Result.andThen_ok,<-hc,p1,q,Sem.run_pure]
      exact ih (fun y hy=>each y (by simp [hy]))
   ·rename_i fs hu
    split at h
    ·cases h
    obtain ⟨xs,rfl,hsz⟩:=hx (by simp [QT,hu])
    simp only [Instr.checkKey,Sem.run_bind,run_underlying hu,Result.andThen_ok]
    rw [<-Array.forIn_toList]
    have ho:0+l.length<=xs.size\/l=[]:=.inl (by omega)
    clear hx hsz
    generalize fs.toList=L at h
    generalize (0:Nat)=off at h ho
    induction L generalizing off l with
    | nil=>simp
    | cons f L ih=>
      simp only [YR] at h
      split at h
      ·cases h
      rename_i hf
      split at h
      case h_2=>cases h
      rename_i l1 hl1
      split at h
      case isFalse=>cases h
      rename_i hc
      simp only [Nb] at h
      obtain ⟨l2,hl2,rfl⟩:=h
      obtain ⟨hc,hne⟩:=hc
      have hname:f.name≠ "_":=fun e=>hf (.inl e)
      have hoff:f.offset=off:=Of fun e=>hf (.inr e)
      have hsz2:off+(l1.length+l2.length)<=xs.size:=by
       rcases ho with h | h
       ·simpa using h
       ·simp at h;exact absurd (by rw [h.1];rfl) hne
      have hue:∃dsc,P.underlying f.type=some dsc:=by
       cases hd:P.underlying f.type with
       | some x=>exact ⟨x,rfl⟩
       | none=>cases n<;>simp [OY,hd] at hl1
      obtain ⟨dsc,hue⟩:=hue
      obtain ⟨i,hi⟩:=info_of_underlying hue
      have hsz1:PG P f.type=some l1.length:=by
       rw [hc];simp [PG,Program.cellsOf,hi]
      obtain ⟨b,hb,hb1⟩:=Nhc hl1
      obtain ⟨a,p1,p2,p3,p4⟩:=Vs w f.type hb hsz1 xs off (by omega) hb1
      have q:=Tv em d n f.type l1 hl1 a (fun ht=>by
       obtain ⟨zs,rfl⟩:=p2 ht
       refine ⟨zs,rfl, ?_⟩
       rw [hb] at ht
       cases ht
       have:=P3 List.length (p4 rfl)
       simp only [Value.cells,Array.length_toList,O6,Pj] at this
       omega)
      simp only [List.forIn_cons,Sem.run_bind,hname,ne_eq,not_false_eq_true,if_true,hoff,p1,q,Result.andThen_ok,Sem.run_pure]
      exact ih l2 (off+l1.length) hl2 (.inl (by omega))
   ·cases h
theorem V3 {t:TypeId} {kk:KK} (h:RP P t=some kk) {x:Value} (hx:SF kk x=true) (w:World):(∀e,(Instr.checkKey e 10000 t x).run P w=.ok () w)/\(Instr.keyThatStays x x).run P w=.ok x w/\
  ∃d,P.underlying t=some d/\((IsKey d x/\∀y r,Ub x y=some r->Instr.sameNow d x y=some r)\/
   ((∀y,Instr.sameNow d x y=none)/\∀y r,Ub x y=some r->(Op.equal t x y).run P w=.ok r w)):=by
 unfold RP at h
 cases hu:P.underlying t with
 | none=>simp [hu] at h
 | some d=>
   rw [hu] at h
   by_cases hw:∃ks cs,kk=.ints ks/\x=.agg cs
   ·obtain ⟨ks,cs,rfl,rfl⟩:=hw
    have hs:OY P 20 t=some (ks.map .int)/\QT P t=some true:=by
     cases d<;>simp at h
     all_goals
      split at h
      ·rename_i l hl
       simp only [Nb,KK.ints.injEq,exists_eq_right] at h
       rw [hl,MB h]
       exact ⟨rfl,by simp [QT,hu]⟩
      ·cases h
    obtain ⟨hs,c⟩:=hs
    have a:RA ks cs.toList=true:=hx
    have b:=Zq a
    refine ⟨fun e=>?_, ?_,d,rfl,.inr ⟨fun y=>?_,fun y r hr=>?_⟩⟩
    ·exact Tv (w:=w) e 9980 20 t _ hs (.agg cs) (fun _=>⟨cs,rfl,by rw [Nw,<-b];simp⟩)
    ·have f:Instr.sameBits 10000 (.agg cs) (.agg cs)=true:=by
      show Instr.sameBits (9999+1) (.agg cs) (.agg cs)=true
      simp only [Instr.sameBits,beq_self_eq_true,Bool.true_and,N6]
      intro p hp
      have key:∀(ks:List IntKind) (xs:List Value),RA ks xs=true->∀p∈xs.zip xs,Instr.sameBits 9999 p.1 p.2=true:=by
       intro ks
       induction ks with
       | nil=>
         intro xs h p hp
         cases xs with
         | nil=>simp at hp
         | cons x xs=>simp [RA] at h
       | cons k ks ih=>
         intro xs h p hp
         cases xs with
         | nil=>simp at hp
         | cons x xs=>
           cases x<;>simp only [RA,Nz] at h
           rw [Nx] at h
           rw [List.zip_cons_cons,Nn] at hp
           rcases hp with rfl | hp
           ·simp [Instr.sameBits]
           ·exact ih xs h.2 p hp
      exact key ks _ a p hp
     simp [Instr.keyThatStays,f]
    ·cases d<;>rfl
    ·cases y<;>simp only [Ub] at hr<;>try (cases hr;done)
     rename_i ys
     have:=Vr w 20 t _ hs 9980 (.agg cs) (.agg ys) r (fun _=>⟨⟨_,rfl⟩,⟨_,rfl⟩⟩) (fun g=>by rw [c] at g;cases g) (M9 a hr)
     exact this
   ·have hk:IsKey d x/\∀y r,Ub x y=some r->Instr.sameNow d x y=some r:=by
     constructor
     ·cases d<;>simp at h<;>first
       | (subst h;cases x<;>simp_all [SF,IsKey];done)
       | (split at h
          ·rename_i l hl
           cases hi:Td l with
           | none=>simp [hi] at h
           | some ks=>
             simp [hi] at h
             subst h
             cases x<;>simp [SF] at hx
             exact absurd ⟨_,_,rfl,rfl⟩ hw
          ·cases h)
     ·intro y r hr
      cases d<;>simp at h<;>first
       | (subst h;cases x<;>simp [SF] at hx<;>cases y<;>simp_all [Ub,Instr.sameNow];done)
       | (split at h
          ·rename_i l hl
           cases hi:Td l with
           | none=>simp [hi] at h
           | some ks=>
             simp [hi] at h
             subst h
             cases x<;>simp [SF] at hx
             exact absurd ⟨_,_,rfl,rfl⟩ hw
          ·cases h)
    exact ⟨fun e=>MapKept.run_checkKey hu hk.1 e 9999,run_keyThatStays hk.1,d,rfl,.inl hk⟩
theorem Na5 {x:Value} {kk:KK} (hx:SF kk x=true) {y:Value} (h:VRel σ x y):y=x:=by
 cases kk<;>cases x<;>simp [SF] at hx<;>first
  | exact h.int_left
  | exact h.string_left
  | exact h.bool_left
  | (obtain ⟨ys,rfl,hl,_⟩:=h.agg_left
     have:=Nee hx hl
     congr 1
     exact Array.toList_inj.1 this)
theorem Nea {a b:Value} (h:Ub a b=some true):b=a:=by
 unfold Ub at h
 split at h
 ·split at h
  ·rename_i hk;subst hk
   simp at h;rw [h]
  ·cases h
 ·rename_i a b
  have h2:(a == b)=true:=by simpa using h
  rw [beq_toListBytes,ByteArray.toList_eq,ByteArray.toList_eq] at h2
  have c:a.data.toList=b.data.toList:=by simpa using h2
  obtain ⟨⟨x⟩⟩:=a
  obtain ⟨⟨y⟩⟩:=b
  simp at c
  rw [c]
 ·simp at h;rw [h]
 ·congr 1
  exact Array.toList_inj.1 (Nb4 h)
 ·cases h
theorem Wy {t:TypeId} {kk:KK} (hk:RP P t=some kk) {x:Value} (hx:SF kk x=true) {es:List (Value×Value)} {ents:Array MapEntry} (v:ents.size=es.length)
  (y:∀(j:Nat) e c,es[j]? = some e->ents[j]? = some c->e.1=c.key/\VRel σ e.2 c.val) {r:Option (Nat×Value)} (h:findKey x es 0=some r) :
  (Instr.findKey t x ents.toList).run P w=.ok (r.map fun p=>(p.1,(ents.getD p.1 default).val)) w/\
   (∀p,r=some p->∃e c,es[p.1]? = some e/\ents[p.1]? = some c/\e.2=p.2/\Ub x e.1=some true):=by
 obtain ⟨_,_,d,hd,n⟩:=V3 hk hx w
 have found:∀(es:List (Value×Value)) (l:List MapEntry) (i:Nat),l.length=es.length->∀r,findKey x es i=some r->∀p,r=some p->i<=p.1/\∃e c,es[p.1-i]? = some e/\l[p.1-i]? = some c/\e.2=p.2/\Ub x e.1=some true:=by
  intro es
  induction es with
  | nil=>intro l i _ r hr p hp;simp [findKey] at hr;subst hr;cases hp
  | cons a es ih=>
    intro l i hl r hr p hp
    cases l with
    | nil=>simp at hl
    | cons b l=>
      obtain ⟨k',v'⟩:=a
      simp only [findKey] at hr
      split at hr
      ·rename_i he
       cases hr
       cases hp
       exact ⟨Nd _,(k',v'),b,by simp,by simp,rfl,he⟩
      ·obtain ⟨h1,e,c,h2,A,B,h5⟩:=ih l (i+1) (by simpa using hl) r hr p hp
       refine ⟨by omega,e,c, ?_, ?_,B,h5⟩
       ·rw [show p.1-i=(p.1-(i+1))+1 by omega];simpa using h2
       ·rw [show p.1-i=(p.1-(i+1))+1 by omega];simpa using A
      ·cases hr
 have u:∀(j:Nat) e c,es[j]? = some e->ents.toList[j]? = some c->e.1=c.key:=fun j e c h1 h2=>(y j e c h1 (by simpa using h2)).1
 have g:ents.toList.length=es.length:=by simpa using v
 refine ⟨?_,fun p hp=>?_⟩
 ·rcases n with ⟨_,k⟩ | ⟨o,q⟩
  ·have key:∀(es:List (Value×Value)) (l:List MapEntry) (i:Nat),l.length=es.length->(∀(j:Nat) e c,es[j]? = some e->l[j]? = some c->e.1=c.key)->∀r,findKey x es i=some r->
     Instr.findNow d x l i=some (r.map fun p=>(p.1,(l.getD (p.1-i) default).val)):=by
    intro es
    induction es with
    | nil=>
      intro l i hl _ r hr
      have:l=[]:=by simpa using hl
      subst this
      simp [findKey] at hr;subst hr
      rfl
    | cons a es ih=>
      intro l i hl s r hr
      cases l with
      | nil=>simp at hl
      | cons b l=>
        have D:=found (a::es) (b::l) i hl r hr
        obtain ⟨k',v'⟩:=a
        have f:k'=b.key:=s 0 (k',v') b rfl rfl
        simp only [findKey] at hr
        split at hr
        ·rename_i he
         cases hr
         have:=k _ _ he
         rw [f] at this
         simp [Instr.findNow,this]
        ·rename_i he
         have hs:=k _ _ he
         rw [f] at hs
         have m:=ih l (i+1) (by simpa using hl) (fun j e c h1 h2=>s (j+1) e c (by simpa using h1) (by simpa using h2)) r hr
         have z:=found es l (i+1) (by simpa using hl) r hr
         simp only [Instr.findNow,hs,m]
         cases r with
         | none=>rfl
         | some p=>
           obtain ⟨h1,_⟩:=z p rfl
           simp only [Nr]
           rw [show p.1-i=(p.1-(i+1))+1 by omega]
           rfl
        ·cases hr
   have m:=key es ents.toList 0 g u r h
   have:=run_findKey (w:=w) (kt:=t) hd m
   rw [this]
   cases r with
   | none=>rfl
   | some p=>simp
  ·
   have key:∀(es:List (Value×Value)) (l:List MapEntry) (i:Nat),l.length=es.length->(∀(j:Nat) e c,es[j]? = some e->l[j]? = some c->e.1=c.key)->∀r,findKey x es i=some r->
     (Instr.findAsking t x l i).run P w=.ok (r.map fun p=>(p.1,(l.getD (p.1-i) default).val)) w:=by
    intro es
    induction es with
    | nil=>
      intro l i hl _ r hr
      have:l=[]:=by simpa using hl
      subst this
      simp [findKey] at hr;subst hr
      simp [Instr.findAsking]
    | cons a es ih=>
      intro l i hl s r hr
      cases l with
      | nil=>simp at hl
      | cons b l=>
        obtain ⟨k',v'⟩:=a
        have f:k'=b.key:=s 0 (k',v') b rfl rfl
        simp only [findKey] at hr
        split at hr
        ·rename_i he
         cases hr
         have:=q _ _ he
         rw [f] at this
         simp [Instr.findAsking,this]
        ·rename_i he
         have hs:=q _ _ he
         rw [f] at hs
         have m:=ih l (i+1) (by simpa using hl) (fun j e c h1 h2=>s (j+1) e c (by simpa using h1) (by simpa using h2)) r hr
         have z:=found es l (i+1) (by simpa using hl) r hr
         simp only [Instr.findAsking,Sem.run_bind,hs,Result.andThen_ok,Nz,if_false,m]
         cases r with
         | none=>rfl
         | some p=>
           obtain ⟨h1,_⟩:=z p rfl
           simp only [Nr]
           rw [show p.1-i=(p.1-(i+1))+1 by omega]
           rfl
        ·cases hr
   have m:=key es ents.toList 0 g u r h
   have hfn:Instr.findNow d x ents.toList 0=none\/ents.toList=[]:=by
    cases ents.toList with
    | nil=>exact .inr rfl
    | cons b l=>exact .inl (by simp [Instr.findNow,o])
   rcases hfn with hfn | hfn
   ·simp only [Instr.findKey,Sem.run_bind,run_underlying hd,Result.andThen_ok,hfn,m]
    cases r with
    | none=>rfl
    | some p=>simp
   ·have C:es=[]:=by rw [hfn] at g;simpa using g.symm
    subst C
    simp [findKey] at h
    subst h
    rw [hfn]
    simp [Instr.findKey,run_underlying hd,Instr.findNow]
 ·obtain ⟨_,e,c,h2,A,B,h5⟩:=found es ents.toList 0 g r h p hp
  exact ⟨e,c,by simpa using h2,by simpa using A,B,h5⟩
theorem Inv.entries (h:Inv Pg W lim σ H w) {m b:Value} (hm:VRel σ m b) {es:List (Value×Value)} (he:mapEntries H m=some es) :
  (b=.map none/\es=[])\/∃(r:Nat) (L:Loc) (ents:Array MapEntry) (clock:Nat),m=.map (some r)/\NC H r=.map es/\σ r=some L/\b=.map (some L.blk)/\w.heap[L.blk]? = some (.map ents clock)/\ents.size=es.length/\
   ∀(j:Nat) e a,es[j]? = some e->ents[j]? = some a->e.1=a.key/\VRel σ e.2 a.val:=by
 unfold mapEntries at he
 split at he
 ·cases he;exact .inl ⟨hm.nilmap_left,rfl⟩
 ·rename_i r
  split at he
  ·rename_i es' c
   cases he
   obtain ⟨L,hL,rfl⟩:=hm.map_left
   obtain ⟨g,h1,ents,clock,h2,d,f,_⟩:=h.blk r _ (QX c rfl) rfl
   rw [hL] at h1;cases h1
   exact .inr ⟨r,L,ents,clock,rfl,c,hL,rfl,h2,d,f⟩
  ·cases he
 ·cases he
theorem Inv.stamps (h:Inv Pg W lim σ H w) {r:Nat} {L:Loc} {es:List (Value×Value)} {ents:Array MapEntry} {clock:Nat} (c:NC H r=.map es) (hL:σ r=some L) (d:w.heap[L.blk]? = some (.map ents clock)):Nqs es.length clock ents:=by
 obtain ⟨e,h1,b,a,h2,f,g,h5⟩:=h.blk r _ (QX c rfl) rfl
 rw [hL] at h1;cases h1
 rw [d] at h2;cases h2
 exact h5
theorem ZX {t:TypeId} {z:Value} (h:YD P t=some z):∃i,P.info? t=some i/\i.zero=some z/\∀τ,VRel τ z z:=by
 unfold YD at h
 split at h
 ·rename_i i hi
  split at h
  ·rename_i d c
   split at h
   ·rename_i ha
    cases h
    refine ⟨i,hi,c,fun τ=>?_⟩
    have hc:∀x∈z.cells.toList,atom x=true/\x.oneCell'=true:=fun x hx=>by
     have:=N6.1 ha x hx
     simpa using this
    by_cases a:∃cs,z=.agg cs
    ·obtain ⟨cs,rfl⟩:=a
     exact VRel.agg_iff.2 ⟨OG.refl_of fun x hx=>.atom (hc x hx).1,fun y b=>(hc y b).2⟩
    ·refine .atom (hc z ?_).1
     cases z<;>first | (exact absurd ⟨_,rfl⟩ a) | simp [Value.cells]
   ·cases h
  ·cases h
 ·cases h
theorem Nit (f:Inv Pg W lim σ H w) {t kt e:TypeId} (F:P.underlying t=some (.map kt e)) {kk:KK} (hk:RP P kt=some kk) {z:Value} (R:YD P e=some z)
  {ok:Bool} {m key:Operand} (hm:VRel σ (ρ m) (ρ' m)) (x:VRel σ (ρ key) (ρ' key))
  (hx:NJ lim dest (.lookup kk z ok m key) ρ H=some (v,H')) (o:Oper) (ho:o.op=.lookup t m key ok):OC Pg W lim σ dest H w ((execOp ρ' o).run P w) v H':=by
 obtain ⟨i,hi,G,B⟩:=ZX R
 simp only [NJ] at hx
 split at hx
 case h_2=>cases hx
 rename_i es D
 split at hx
 case isFalse=>cases hx
 rename_i s
 obtain ⟨n,Q,d,hd,_⟩:=V3 hk s w
 have q:=Na5 s x
 have l:(zeroValue e).run P w=.ok z w:=by simp [zeroValue,typeInfo,hi,G]
 have pack:∀{a b:Value} {c:Bool},VRel σ a b->VRel σ (if ok then .tuple #[a,.bool c] else a) (if ok then .tuple #[b,.bool c] else b):=by
  intro a b c h
  cases ok
  ·exact h
  ·exact VRel.tuple_iff.2 (OG.cons h (OG.cons (.atom rfl) OG.nil))
 rcases f.entries hm D with ⟨j,rfl⟩ | ⟨r,L,ents,clock,O,T,hL,j,J,y,k⟩
 ·simp [findKey] at hx
  obtain ⟨rfl,rfl⟩:=hx
  refine OC.plain f (v':=if ok then .tuple #[z,.bool false] else z) ?_ (pack (B σ))
  simp only [execOp,ho]
  refine OT P w _ ?_
  rw [j,q]
  simp [Instr.lookup,run_underlying F,n,Instr.findKey,run_underlying hd,Instr.findNow,l]
 ·have E:∃g,findKey (ρ key) es 0=some g:=by
   cases u:findKey (ρ key) es 0 with
   | none=>simp [u] at hx
   | some g=>exact ⟨g,rfl⟩
  obtain ⟨g,u⟩:=E
  obtain ⟨C,N⟩:=Wy (P:=P) (w:=w) (σ:=σ) hk s y k u
  cases g with
  | none=>
    simp [u] at hx
    obtain ⟨rfl,rfl⟩:=hx
    refine OC.plain f (v':=if ok then .tuple #[z,.bool false] else z) ?_ (pack (B σ))
    simp only [execOp,ho]
    refine OT P w _ ?_
    rw [j,q]
    simp only [Oh] at C
    simp [Instr.lookup,run_underlying F,MapKept.run_getObj_map J,n,C,l]
  | some p=>
    obtain ⟨e1,e2,K,I,M,V⟩:=N p rfl
    obtain ⟨S,U⟩:=p
    simp [u] at hx
    obtain ⟨rfl,rfl⟩:=hx
    simp only at K I M
    have A:(ents.getD S default).val=e2.val:=by rw [N2,I];rfl
    refine OC.plain f (v':=if ok then .tuple #[e2.val,.bool true] else e2.val) ?_ (pack (by rw [<-M];exact (k _ _ _ K I).2))
    simp only [execOp,ho]
    refine OT P w _ ?_
    rw [j,q]
    simp only [Nr,A] at C
    simp [Instr.lookup,run_underlying F,MapKept.run_getObj_map J,n,C]
theorem Inv.setMap (h:Inv Pg W lim σ H w) {r:Nat} {L:Loc} {es es':List (Value×Value)} (m:NC H r=.map es) (hL:σ r=some L) (c:lim<=r) {ents:Array MapEntry} {clock:Nat} (g:L.blk<w.heap.size) (b:ents.size=es'.length)
  (d:∀(j:Nat) e f,es'[j]? = some e->ents[j]? = some f->e.1=f.key/\VRel σ e.2 f.val) (i:Nqs es'.length clock ents) :
  Inv Pg W lim σ (H.set r (.map es')) { w with heap:=w.heap.setIfInBounds L.blk (.map ents clock) }/\Stp W w { w with heap:=w.heap.setIfInBounds L.blk (.map ents clock) }:=by
 have a:=QX m rfl
 have hs:({ w with heap:=w.heap.setIfInBounds L.blk (.map ents clock) }:World).heap.size=w.heap.size:=by simp
 have l:∀k,k≠L.blk->({ w with heap:=w.heap.setIfInBounds L.blk (.map ents clock) }:World).heap[k]? = w.heap[k]?:=fun k hk=>by
  simp [Array.getElem?_setIfInBounds,Ne.symm hk]
 refine ⟨h.rewrite a rfl hL hs l ⟨ents,clock, ?_,b,d,i⟩ (fun _=>rfl),Stp.one (h.wr _ _ _ a rfl c hL) l hs rfl rfl ⟨rfl,Nd _⟩⟩
 simp [g]
theorem Zo (f:Inv Pg W lim σ H w) {t kt e:TypeId} (V:P.underlying t=some (.map kt e)) {kk:KK} (hk:RP P kt=some kk) {m key x:Operand} (hm:VRel σ (ρ m) (ρ' m)) (B:VRel σ (ρ key) (ρ' key)) (n:VRel σ (ρ x) (ρ' x))
  (hx:NJ lim dest (.mapUpdate kk m key x) ρ H=some (v,H')):∃w',(Instr.mapUpdate t (ρ' m) (ρ' key) (ρ' x)).run P w=.ok () w'/\Inv Pg W lim σ H' w'/\Stp W w w'/\H'.length=H.length/\v=undef:=by
 simp only [NJ] at hx
 split at hx
 case h_2=>cases hx
 rename_i r hr
 split at hx
 case h_2=>cases hx
 rename_i es y
 split at hx
 case isFalse=>cases hx
 rename_i o
 obtain ⟨s,l⟩:=o
 obtain ⟨z,R,d,hd,_⟩:=V3 hk s w
 have N:=Na5 s B
 have J:mapEntries H (ρ m)=some es:=by rw [hr];simp [mapEntries,y]
 rcases f.entries hm J with ⟨u,rfl⟩ | ⟨r',L,ents,clock,D,Z,hL,u,q,g,i⟩
 ·rw [hr] at hm;obtain ⟨L,_,h2⟩:=hm.map_left;rw [u] at h2;cases h2
 rw [hr] at D;cases D
 have C:L.blk<w.heap.size:=(Array.getElem?_eq_some_iff.1 q).1
 have K:∃k,findKey (ρ key) es 0=some k:=by
  cases A:findKey (ρ key) es 0 with
  | none=>simp [A] at hx
  | some k=>exact ⟨k,rfl⟩
 obtain ⟨k,A⟩:=K
 obtain ⟨G,Y⟩:=Wy (P:=P) (w:=w) (σ:=σ) hk s g i A
 rw [u,N]
 cases k with
 | none=>
   simp [A] at hx
   obtain ⟨rfl,rfl⟩:=hx
   obtain ⟨S,T⟩:=f.setMap (es':=es++[(ρ key,ρ x)]) y hL l (ents:=ents.push { key:=ρ key,val:=ρ' x,born:=clock }) (clock:=clock+1) C (by simp [g]) (fun j a b ha c=>by
    by_cases h:j<es.length
    ·rw [N4 h] at ha
     rw [Pn,Ng (by omega)] at c
     exact i j a b ha c
    ·have M:j=es.length:=by
      have:=(List.getElem?_eq_some_iff.1 ha).1
      simp at this;omega
     subst M
     simp at ha
     rw [<-g] at c
     simp at c
     subst ha c
     exact ⟨rfl,n⟩) (by
    obtain ⟨U,I⟩:=f.stamps y hL q
    refine ⟨by simp [U],fun j e h=>?_⟩
    rw [Pn] at h
    split at h
    ·cases h;simp only;omega
    ·exact I j e h)
   simp only [Oh] at G
   exact ⟨_,by simp [Instr.mapUpdate,run_underlying V,MapKept.run_getObj_map q,z,G,MapKept.run_setObj_map _ q],S,T,by simp,rfl⟩
 | some p=>
   obtain ⟨E,p2⟩:=p
   obtain ⟨e1,e2,X,F,q3,q4⟩:=Y _ rfl
   simp only at X F q3
   simp [A] at hx
   obtain ⟨rfl,rfl⟩:=hx
   have O:e2.key=ρ key:=by
    rw [<-(i _ _ _ X F).1]
    exact Nea q4
   have Q:E<ents.size:=(Array.getElem?_eq_some_iff.1 F).1
   obtain ⟨S,T⟩:=f.setMap (es':=es.set E (ρ key,ρ x)) y hL l (ents:=ents.modify E fun e=>{ e with key:=ρ key,val:=ρ' x }) (clock:=clock) C (by simp [g]) (fun j a b ha c=>by
    rw [N1] at ha
    rw [Array.getElem?_modify] at c
    by_cases h:E=j
    ·subst h
     rw [Nh rfl,Nh (by rw [<-g];exact Q)] at ha
     rw [Nh rfl,F] at c
     simp at ha c
     subst ha c
     exact ⟨rfl,n⟩
    ·rw [Ng h] at ha
     rw [Ng h] at c
     exact i j a b ha c) (by
    obtain ⟨U,I⟩:=f.stamps y hL q
    refine ⟨by simp [U],fun j e h=>?_⟩
    rw [Array.getElem?_modify] at h
    split at h
    ·simp only [Nb] at h
     obtain ⟨a,ha,rfl⟩:=h
     exact I j a ha
    ·exact I j e h)
   simp only [Nr] at G
   have hq:((ents[E]?).map (·.key)).getD (ρ key)=ρ key:=by rw [F];simp [O]
   refine ⟨_, ?_,S,T,by simp,rfl⟩
   simp only [Instr.mapUpdate,Sem.run_bind,run_underlying V,Result.andThen_ok,MapKept.run_getObj_map q,z,G,hq]
   rw [R]
   simp [MapKept.run_setObj_map _ q]
theorem Nis (h:Inv Pg W lim σ H w) {t kt e:TypeId} (hu:P.underlying t=some (.map kt e)) {kk:KK} (hk:RP P kt=some kk) {z:Value} (hz:YD P e=some z) {m key:Operand} (hm:VRel σ (ρ m) (ρ' m)) (D:VRel σ (ρ key) (ρ' key))
  (hx:NJ lim dest (.mapEntry kk z m key) ρ H=some (v,H')):∃v' w',(Instr.mapEntry t (ρ' m) (ρ' key)).run P w=.ok v' w'/\VRel σ v v'/\Inv Pg W lim σ H' w'/\Stp W w w'/\H'.length=H.length:=by
 simp only [NJ] at hx
 split at hx
 case h_2=>cases hx
 rename_i r hr
 split at hx
 case h_2=>cases hx
 rename_i es A
 split at hx
 case isFalse=>cases hx
 rename_i q
 obtain ⟨s,n⟩:=q
 obtain ⟨B,X,d,hd,_⟩:=V3 hk s w
 have U:=Na5 s D
 have R:mapEntries H (ρ m)=some es:=by rw [hr];simp [mapEntries,A]
 rcases h.entries hm R with ⟨u,rfl⟩ | ⟨r',L,ents,clock,G,ab,hL,u,y,i,f⟩
 ·rw [hr] at hm;obtain ⟨L,_,h2⟩:=hm.map_left;rw [u] at h2;cases h2
 rw [hr] at G;cases G
 have F:L.blk<w.heap.size:=(Array.getElem?_eq_some_iff.1 y).1
 obtain ⟨t1,O⟩:=h.stamps A hL y
 have S:∃k,findKey (ρ key) es 0=some k:=by
  cases C:findKey (ρ key) es 0 with
  | none=>simp [C] at hx
  | some k=>exact ⟨k,rfl⟩
 obtain ⟨k,C⟩:=S
 obtain ⟨M,g2⟩:=Wy (P:=P) (w:=w) (σ:=σ) hk s i f C
 obtain ⟨zi,Z,aa,J⟩:=ZX hz
 have K:(zeroValue e).run P w=.ok z w:=by simp [zeroValue,typeInfo,Z,aa]
 rw [u,U]
 cases k with
 | none=>
   simp [C] at hx
   obtain ⟨rfl,rfl⟩:=hx
   obtain ⟨N,i2⟩:=h.setMap (es':=es++[(ρ key,z)]) A hL n (ents:=ents.push { key:=ρ key,val:=z,born:=clock }) (clock:=clock+1) F (by simp [i]) (fun j a b ha c=>by
    by_cases g:j<es.length
    ·rw [N4 g] at ha
     rw [Pn,Ng (by omega)] at c
     exact f j a b ha c
    ·have T:j=es.length:=by
      have:=(List.getElem?_eq_some_iff.1 ha).1
      simp at this;omega
     subst T
     simp at ha
     rw [<-i] at c
     simp at c
     subst ha c
     exact ⟨rfl,J σ⟩) (by
    refine ⟨by simp [t1],fun j e g=>?_⟩
    rw [Pn] at g
    split at g
    ·cases g;simp only;omega
    ·exact O j e g)
   simp only [Oh] at M
   refine ⟨.tuple #[z,goInt clock],_,by simp [Instr.mapEntry,run_underlying hu,MapKept.run_getObj_map y,B,M,K,MapKept.run_setObj_map _ y], ?_,N,i2,by simp⟩
   have:(clock:Int)=(es.length:Int):=by omega
   rw [show goInt (clock:Int)=.int .i64 (es.length:Int) by rw [this];rfl]
   exact VRel.tuple_iff.2 (OG.cons (J σ) (OG.cons (.atom rfl) OG.nil))
 | some p=>
   obtain ⟨o,p2⟩:=p
   obtain ⟨e1,e2,q1,l,q3,q4⟩:=g2 _ rfl
   simp only at q1 l q3
   simp [C] at hx
   obtain ⟨rfl,rfl⟩:=hx
   have E:e2.key=ρ key:=by
    rw [<-(f _ _ _ q1 l).1]
    exact Nea q4
   have ac:o<ents.size:=(Array.getElem?_eq_some_iff.1 l).1
   have I:H.set r (.map es)=H:=by
    by_cases V:r<H.length
    ·have:H[r]=.map es:=by
      have:=A
      unfold NC at this
      rw [Na,Nf V] at this
      exact this
     rw [<-this,List.set_getElem_self]
    ·exact List.set_eq_of_length_le (by omega)
   obtain ⟨N,i2⟩:=h.setMap (es':=es) A hL n (ents:=ents.modify o fun e=>{ e with key:=ρ key }) (clock:=clock) F (by simp [i]) (fun j a b ha c=>by
    rw [Array.getElem?_modify] at c
    by_cases g:o=j
    ·subst g
     rw [Nh rfl,l] at c
     simp at c
     have:=f _ _ _ ha l
     subst c
     exact ⟨by rw [this.1];exact E,this.2⟩
    ·rw [Ng g] at c
     exact f j a b ha c) (by
    refine ⟨by simp [t1],fun j e g=>?_⟩
    rw [Array.getElem?_modify] at g
    split at g
    ·simp only [Nb] at g
     obtain ⟨a,ha,rfl⟩:=g
     exact O j a ha
    ·exact O j e g)
   rw [I] at N
   simp only [Nr] at M
   have hq:((ents[o]?).map (·.key)).getD (ρ key)=ρ key:=by rw [l];simp [E]
   have Q:((ents[o]?).map (fun x=>(x.born:Int))).getD 0=(o:Int):=by rw [l];exact P3 Int.ofNat (O _ _ l)
   have Y:(ents.getD o default).val=e2.val:=by rw [N2,l];rfl
   refine ⟨.tuple #[e2.val,goInt o],_, ?_, ?_,N,i2,rfl⟩
   ·simp only [Instr.mapEntry,Sem.run_bind,run_underlying hu,Result.andThen_ok,MapKept.run_getObj_map y,B,M,hq]
    rw [X]
    simp only [Sem.run_bind,Sem.run_pure,Result.andThen_ok,MapKept.run_setObj_map _ y,Q,Y]
   ·have hv:=(f _ _ _ q1 l).2
    exact VRel.tuple_iff.2 (OG.cons (by first | exact hv | exact q3▸hv) (OG.cons (.atom rfl) OG.nil))
theorem Nev (d:Inv Pg W lim σ H w) (t:TypeId) {m s x:Operand} (hm:VRel σ (ρ m) (ρ' m)) (hs:VRel σ (ρ s) (ρ' s)) (u:VRel σ (ρ x) (ρ' x))
  (hx:NJ lim dest (.entryStore m s x) ρ H=some (v,H')):∃w',(Instr.entryStore t (ρ' m) (ρ' s) (ρ' x)).run P w=.ok () w'/\Inv Pg W lim σ H' w'/\Stp W w w'/\H'.length=H.length/\v=undef:=by
 simp only [NJ] at hx
 split at hx
 case h_2=>cases hx
 rename_i r n hr hn
 split at hx
 case h_2=>cases hx
 rename_i es A
 split at hx
 case isFalse=>cases hx
 rename_i k
 obtain ⟨h0,f,p⟩:=k
 cases hx
 have B:mapEntries H (ρ m)=some es:=by rw [hr];simp [mapEntries,A]
 rcases d.entries hm B with ⟨l,rfl⟩ | ⟨J,L,ents,clock,q,E,hL,l,y,o,i⟩
 ·rw [hr] at hm;obtain ⟨L,_,h2⟩:=hm.map_left;rw [l] at h2;cases h2
 rw [hr] at q;cases q
 have D:L.blk<w.heap.size:=(Array.getElem?_eq_some_iff.1 y).1
 obtain ⟨I,z⟩:=d.stamps A hL y
 rw [hn] at hs
 rw [l,hs.int_left]
 have h:n.toNat<ents.size:=by omega
 have C:ents.findIdx? (fun e=>(e.born:Int) == n)=some n.toNat:=by
  rw [Array.findIdx?_eq_some_iff_getElem]
  refine ⟨h, ?_,fun j g=>?_⟩
  ·have:=z n.toNat _ (Ny h)
   simp [this];omega
  ·have:=z j _ (Ny (by omega))
   simp [this];omega
 obtain ⟨F,G⟩:=d.setMap (es':=es.set n.toNat ((es.getD n.toNat (undef,undef)).1,ρ x)) A hL p (ents:=ents.modify n.toNat fun e=>{ e with val:=ρ' x }) (clock:=clock) D (by simp [o]) (fun j a b ha c=>by
  rw [N1] at ha
  rw [Array.getElem?_modify] at c
  by_cases g:n.toNat=j
  ·subst g
   rw [Nh rfl,Nh f] at ha
   rw [Nh rfl,Ny h] at c
   simp at ha c
   subst ha c
   refine ⟨?_,u⟩
   have:=(i n.toNat _ _ (Nf f) (Ny h)).1
   simpa [Nf f] using this
  ·rw [Ng g] at ha
   rw [Ng g] at c
   exact i j a b ha c) (by
  refine ⟨by simp [I],fun j e g=>?_⟩
  rw [Array.getElem?_modify] at g
  split at g
  ·simp only [Nb] at g
   obtain ⟨a,ha,rfl⟩:=g
   exact z j a ha
  ·exact z j e g)
 exact ⟨_,by simp [Instr.entryStore,MapKept.run_getObj_map y,asInt,asIntOf,C,MapKept.run_setObj_map _ y],F,G,by simp,rfl⟩
end
section
variable {P:Program} {Pg:Prg} {W:Nat->Prop} {lim:Nat} {σ:PH} {H H':NA} {w:World} {dest:Option Nat} {ρ ρ':Operand->Value} {v:Value}
theorem Np3 (b:Inv Pg W lim σ H w) {t kt e ty:TypeId} (f:P.underlying t=some (.map kt e)) {kk:KK} (hk:RP P kt=some kk) {m key:Operand} (hm:VRel σ (ρ m) (ρ' m)) (c:VRel σ (ρ key) (ρ' key))
  (hx:NJ lim dest (.delete kk m key) ρ H=some (v,H')) {a:Array TypeId} (d:a[0]? = some t):∃w',(Builtin.delete_ a ty #[ρ' m,ρ' key]).run P w=.ok (.tuple #[]) w'/\Inv Pg W lim σ H' w'/\Stp W w w'/\H'.length=H.length/\v=.tuple #[]:=by
 simp only [NJ] at hx
 cases hx
theorem Nip (mx:Bool) {x y z:Value} (h:Wq mx x y=some z):(if mx then Builtin.max2 x y else Builtin.min2 x y).run P w=.ok z w/\∃k n,z=.int k n:=by
 unfold Wq at h
 split at h
 ·split at h
  ·rename_i hk
   cases h;subst hk
   cases mx<;>simp [Builtin.min2,Builtin.max2]
  ·cases h
 ·cases h
theorem Vh (mx:Bool):∀(ys a:List Value) (x b r:Value),VRel σ x b->OG σ ys a->Rq mx x ys=some r->
  ∃d,(a.foldlM (if mx then Builtin.max2 else Builtin.min2) b).run P w=.ok d w/\VRel σ r d
 | [],a,x,b,r,hx,hy,h=>by
   have:a=[]:=by have:=hy.1;simpa using this.symm
   subst this
   simp [Rq] at h;subst h
   exact ⟨b,by simp,hx⟩
 | y::ys,a,x,b,r,hx,hy,h=>by
   cases a with
   | nil=>have:=hy.1;simp at this
   | cons f a=>
     simp only [Rq] at h
     split at h
     case h_2=>cases h
     rename_i z c
     have e:b=x/\f=y:=by
      unfold Wq at c
      split at c
      ·exact ⟨hx.int_left,hy.head.int_left⟩
      ·cases c
     obtain ⟨rfl,rfl⟩:=e
     obtain ⟨h1,k,n,rfl⟩:=Nip (P:=P) (w:=w) mx c
     obtain ⟨d,h2,g⟩:=Vh mx ys a _ _ r (.atom rfl) hy.tail h
     refine ⟨d, ?_,g⟩
     rw [List.foldlM_cons,Sem.run_bind]
     have:((if mx then Builtin.max2 else Builtin.min2) b f).run P w=.ok (.int k n) w:=by cases mx<;>simpa using h1
     rw [this]
     exact h2
theorem Nfa:∀(ns:List Int) (s:ByteArray),ns.foldl (fun r n=>r.push (UInt8.ofNat n.toNat)) s=⟨s.data++(ns.map fun n=>UInt8.ofNat n.toNat).toArray⟩
 | [],s=>by simp
 | n::ns,s=>by
   rw [Oi,Nfa ns]
   simp [ByteArray.push]
theorem MZ:∀{cs:List Value} {bs:List UInt8},bytesOf cs=some bs->∃ns:List Int,cs=ns.map (Value.int .u8)/\bs=ns.map fun n=>UInt8.ofNat n.toNat
 | [],bs,h=>by simp [bytesOf] at h;subst h;exact ⟨[],rfl,rfl⟩
 | c::cs,bs,h=>by
   unfold bytesOf at h
   split at h
   ·rename_i h1 h2;cases h2
   ·rename_i n l h1
    split at h
    ·rename_i a d
     cases h
     obtain ⟨ns,h2,b⟩:=MZ d
     cases h1
     exact ⟨n::ns,by simp [h2],by simp [b]⟩
    ·cases h
   ·cases h
theorem Nvh (l:Inv Pg W lim σ H w) {s d e:TypeId} (hs:P.underlying s=some (.slice e)) (he:P.underlying e=some (.int .u8)) (hd:P.underlying d=some .string) {x:Operand} (hv:VRel σ (ρ x) (ρ' x))
  (hx:NJ lim dest (.b2s x) ρ H=some (v,H')):∃v',(convert s d (ρ' x)).run P w=.ok v' w/\VRel σ v v'/\H'=H:=by
 simp only [NJ] at hx
 split at hx
 ·rename_i n c hr
  rw [hr] at hv
  obtain ⟨rfl,rfl,h2⟩:=hv.nilslice_left
  simp at hx
  obtain ⟨rfl,rfl⟩:=hx
  rw [h2,run_convert_bytes_string w s d e none 0 0 hs he hd]
  exact ⟨.string .empty,by simp [Conv.bytesToString],.atom rfl,rfl⟩
 ·rename_i a n c hr
  split at hx
  case h_2=>cases hx
  rename_i cs f
  split at hx
  case h_2=>cases hx
  rename_i bs p
  cases hx
  rw [hr] at hv
  obtain ⟨ns,g,u⟩:=MZ p
  obtain ⟨z,L,hL,hc⟩:=hv.slice_left
  have fin:∀(a':Addr) h,ρ' x=.slice (some a') n h->(Go.loadCells a' n).run P w=.ok (ns.map (Value.int .u8)).toArray w->∃v',(convert s d (ρ' x)).run P w=.ok v' w/\VRel σ (.string ⟨bs.toArray⟩) v'/\H=H:=by
   intro a' h b hl
   refine ⟨_,by rw [b,run_convert_bytes_string w s d e (some a') n h hs he hd,run_bytesToString w a' n h ns hl], ?_,rfl⟩
   rw [Nfa,u]
   have e:(ByteArray.empty.data++(ns.map fun n=>UInt8.ofNat n.toNat).toArray)=(ns.map fun n=>UInt8.ofNat n.toNat).toArray:=by
    show (#[]:Array UInt8)++_=_
    simp
   rw [e]
   exact .atom rfl
  have i:∀h,ρ' x=.slice (some ⟨L.blk,L.base+a.off,none⟩) n h->∃v',(convert s d (ρ' x)).run P w=.ok v' w/\VRel σ (.string ⟨bs.toArray⟩) v'/\H=H:=by
   intro h b
   obtain ⟨A,h1,h2,C,D⟩:=Na3 (P:=P) l hL f
   refine fin _ h b ?_
   rw [h1]
   congr 2
   apply List.ext_getElem?
   intro j
   cases hj:cs[j]? with
   | none=>
     have:A[j]? = none:=by
      rw [List.getElem?_eq_none_iff] at hj⊢
      rw [<-h2.1];exact hj
     rw [this,<-g,hj]
   | some y=>
     obtain ⟨E,r,t⟩:=h2.get hj
     rw [r,<-g,hj]
     have:∃k n,y=.int k n:=by
      have hm:=N8 hj
      rw [g] at hm
      obtain ⟨q,_,rfl⟩:=List.mem_map.1 hm
      exact ⟨_,_,rfl⟩
     obtain ⟨k,n,rfl⟩:=this
     rw [t.int_left]
  rcases hc with ⟨_,b⟩ | ⟨B,_,h,_,_,b⟩ | ⟨a',_,h0,b⟩
  ·exact i _ b
  ·exact i _ b
  ·subst h0
   have m:cs=[]:=by
    unfold AM.loadCells at f
    split at f
    ·split at f
     ·simp at f;exact f
     ·cases f
    ·cases f
   have o:ns=[]:=by rw [m] at g;simpa using g.symm
   subst o
   exact fin a' 0 b (by simpa using run_loadCells_list (P:=P) w a' [] (by simp))
 ·cases hx
theorem Nfz (b:Inv Pg W lim σ H w) {t e:TypeId} (ht:P.underlying t=some (.slice e)) (he:P.underlying e=some (.int .u8)) {x:Operand} (i:VRel σ (ρ x) (ρ' x)) (hx:NJ lim dest (.rowMark x) ρ H=some (v,H'))
  {o:Oper}:OC Pg W lim σ dest H w ((execOp ρ' { o with op:=.convert t t x }).run P w) v H':=by
 simp only [NJ] at hx
 split at hx
 case h_2=>cases hx
 rename_i a n c O
 split at hx
 case h_2=>cases hx
 rename_i cells I
 split at hx
 case isFalse=>cases hx
 rename_i hc
 obtain ⟨m,hn⟩:=hc
 simp only [Option.some.injEq,Prod.mk.injEq] at hx
 obtain ⟨rfl,rfl⟩:=hx
 rw [O] at i
 obtain ⟨N,L,hL,J⟩:=i.slice_left
 obtain ⟨cs,el,fz,z,u,ho⟩:=b.cells I hL
 obtain ⟨D,E,p⟩:=ho rfl
 have key:∃l,ρ' x=.slice (some ⟨L.blk,L.base+a.off,none⟩) n l:=by
  rcases J with ⟨_,h⟩ | ⟨Q,_,l,_,_,h⟩ | ⟨_,_,h,_⟩
  ·exact ⟨_,h⟩
  ·exact ⟨_,h⟩
  ·exact absurd h hn
 obtain ⟨l,G⟩:=key
 have F:w.shape? L.blk=some (el,cs.size):=by unfold World.shape?;rw [z]
 have M:L.blk<w.heap.size:=(Array.getElem?_eq_some_iff.1 z).1
 have q:(convert t t (.slice (some ⟨L.blk,L.base+a.off,none⟩) n l)).run P w=.ok (.slice (some ⟨L.blk,L.base+a.off,none⟩) n l) (w.freeze ⟨L.blk,cs.size,none⟩ 1):=by
  simp [convert,run_underlying ht,run_underlying he,markStringish,F]
 have y:∃d,(w.freeze ⟨L.blk,cs.size,none⟩ 1).heap[L.blk]? = some (.cells cs el d)/\Nvy d cs.size:=by
  obtain ⟨lo,hi⟩:=fz
  unfold World.freeze
  rw [Ng (by decide)]
  simp only [Array.getElem?_modify,Nh,z,Nr]
  refine ⟨_,rfl, ?_⟩
  unfold Nvy at p⊢
  simp only at p
  right
  split
  ·exact Nd _
  ·rename_i B
   have:lo≠hi:=by simpa using B
   simp only
   omega
 have g:∀k,k≠L.blk->(w.freeze ⟨L.blk,cs.size,none⟩ 1).heap[k]? = w.heap[k]?:=fun k hk=>by
  unfold World.freeze
  rw [Ng (by decide)]
  simp only [Array.getElem?_modify]
  rw [Ng (Ne.symm hk)]
 have s:(w.freeze ⟨L.blk,cs.size,none⟩ 1).heap.size=w.heap.size:=by
  unfold World.freeze
  rw [Ng (by decide)]
  simp
 obtain ⟨d,A,C⟩:=y
 have f:=QX I rfl
 have r:H.set a.block (.cells false cells)=H:=by
  apply List.ext_getElem?
  intro j
  rw [N1]
  split
  ·rename_i e;subst e
   rw [f,Nh (List.getElem?_eq_some_iff.1 f).1]
  ·rfl
 have hi:=b.rewrite (b':=.cells false cells) f rfl hL s g ⟨cs,el,d,A,u,fun _=>⟨D,E,C⟩⟩ (fun _=>rfl)
 rw [r] at hi
 refine ⟨.value (ρ' x),w.freeze ⟨L.blk,cs.size,none⟩ 1,σ,ρ' x, ?_,rfl,i,hi,Stp.one (b.wr _ _ _ f rfl m hL) g s ?_ ?_ ⟨?_,Nat.le_of_eq ?_⟩,PH.le_refl _,fun j K=>absurd rfl K,Nd _,fun _=>rfl⟩
 ·simp only [execOp]
  refine OT P _ _ ?_
  rw [G]
  exact q
 all_goals (unfold World.freeze;rw [Ng (by decide)])
end
end Go.AM


