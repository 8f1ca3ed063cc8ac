/-
  Joined texts, 1 of 11. A part of the claim that the last text states.
-/
import Derived.Orders
import Derived.Laws.Sem
import Derived.Deep.MidRow
import Derived.Deep.AppendSrc
import Derived.RowKit3
import Derived.MapKept
import Derived.Laws.StructEq
import Derived.Laws.BytesString
import Derived.Laws.MakeOwn
import Derived.Laws.Pointers
import Derived.Laws.Cover3
import Derived.ChangeKeysEq
import Derived.Deep.Upon
set_option linter.unusedVariables false
set_option linter.unusedSimpArgs false
set_option linter.defProp false
set_option linter.unusedSectionVars false
set_option maxRecDepth 100000
set_option maxHeartbeats 4000000
namespace Go
abbrev za:=@And.intro
abbrev Na.{u}:=@List.append_nil.{u}
abbrev Nb.{u}:=@List.getD_eq_getElem?_getD.{u}
abbrev Nc:=@eq_false
abbrev Nd.{u,v}:=@Option.map_eq_some_iff.{u,v}
abbrev Nf:=@Nat.le_refl
abbrev Ng.{u}:=@if_neg.{u}
abbrev Nh:=@eq_true
abbrev Ni.{u}:=@List.getElem?_eq_getElem.{u}
abbrev Nj:=@decide_eq_true
abbrev Nk.{u}:=@List.length_append.{u}
abbrev Nl.{u}:=@if_pos.{u}
abbrev Nm.{u}:=@List.length_cons.{u}
abbrev Nn.{u}:=@List.length_nil.{u}
abbrev No.{u}:=@List.append_assoc.{u}
abbrev Np:=@Nat.zero_le
abbrev Nq.{u}:=@List.mem_singleton.{u}
abbrev Nr.{u}:=@List.mem_cons_of_mem.{u}
abbrev Ns.{u}:=@List.mem_cons.{u}
abbrev Nu.{u}:=@List.mem_cons_self.{u}
abbrev Nv.{u}:=@List.take_succ_eq_append_getElem.{u}
abbrev Nw:=@decide_eq_false
abbrev Nx:=@Nat.zero_add
abbrev Ny.{u,v}:=@Option.map_some.{u,v}
abbrev Nz.{u,v}:=@List.length_map.{u,v}
abbrev N0.{u}:=@List.getElem?_eq_none.{u}
abbrev N1:=@Int.toNat_natCast
abbrev N2:=@Bool.and_eq_true
abbrev N3:=@Bool.false_eq_true
abbrev N4.{u}:=@List.idxOf_lt_length_of_mem.{u}
abbrev N5.{u}:=@List.length_take.{u}
abbrev N6:=@decide_eq_true_eq
abbrev N7.{u}:=@List.all_eq_true.{u}
abbrev N8.{u}:=@Array.getD_eq_getD_getElem?.{u}
abbrev N9.{u}:=@List.take_length.{u}
abbrev Oa.{u}:=@List.getElem?_append_left.{u}
abbrev Ob.{u}:=@List.getElem?_set.{u}
abbrev Oc.{u}:=@List.take_of_length_le.{u}
abbrev Od:=@Nat.lt_or_ge
abbrev Oe:=@Decidable.byContradiction
abbrev Of.{u}:=@Array.getElem?_eq_getElem.{u}
abbrev Og.{u}:=@List.nil_append.{u}
abbrev Oh.{u}:=@List.mem_of_getElem?.{u}
abbrev Oi.{u}:=@List.getElem?_append_right.{u}
abbrev Oj.{u,v}:=@List.map_cons.{u,v}
abbrev Ok.{u}:=@List.mem_append.{u}
abbrev Ol.{u,v}:=@List.flatMap_cons.{u,v}
abbrev Om:=@Classical.byContradiction
abbrev On.{u}:=@List.drop_zero.{u}
abbrev Oo.{u,v}:=@Option.map_none.{u,v}
abbrev Oq.{u}:=@List.getElem?_cons_zero.{u}
abbrev Ou.{u}:=@List.filter_cons_of_pos.{u}
abbrev Ov.{u}:=@List.filter_cons_of_neg.{u}
abbrev Ow:=@Int.le_refl
abbrev Ox.{u}:=@List.cons_append.{u}
abbrev Oy.{u}:=@List.drop_eq_getElem_cons.{u}
abbrev O0.{u}:=@List.mem_filter.{u}
abbrev O1.{u,v}:=@List.foldl_cons.{u,v}
abbrev O2.{u}:=@List.length_drop.{u}
abbrev O5:=@Int.tdiv_eq_ediv_of_nonneg
abbrev O7.{u,v}:=@List.map_append.{u,v}
abbrev O8.{u}:=@List.not_mem_nil.{u}
abbrev O9.{u}:=@List.mem_append_left.{u}
abbrev Pa.{u}:=@List.length_replicate.{u}
abbrev Pc.{u}:=@List.pairwise_iff_getElem.{u}
abbrev Pd:=@Nat.add_zero
abbrev Pe:=@List.length_range
abbrev Ph:=@Nat.mul_le_mul_right
abbrev Pi.{u,v}:=@List.flatMap_append.{u,v}
abbrev Pj.{u}:=@Option.getD_some.{u}
abbrev Pk.{u,v}:=@List.getElem?_map.{u,v}
abbrev Pn.{u}:=@List.length_filter_le.{u}
abbrev Po.{u}:=@List.replicate_succ.{u}
abbrev Pq:=@Nat.add_assoc
abbrev Pr.{u}:=@List.ext_getElem.{u}
abbrev Ps:=@Nat.mul_one
abbrev Pt:=@Nat.le_trans
abbrev Pu:=@Nat.le_max_right
abbrev Pv.{u}:=@List.take_append_drop.{u}
abbrev Pw:=@Nat.succ_mul
abbrev Py.{u}:=@List.length_set.{u}
abbrev Pz.{u}:=@Array.getElem?_setIfInBounds_ne.{u}
abbrev P0.{u}:=@List.length_singleton.{u}
abbrev P1:=@Nat.min_eq_left
abbrev P2.{u}:=@List.take_zero.{u}
abbrev P3.{u}:=@List.getElem?_replicate.{u}
abbrev P4:=@Nat.add_mul
abbrev P5.{u}:=@Array.getElem?_push.{u}
abbrev P6:=@Nat.mod_lt
abbrev P7:=@Nat.add_sub_cancel
abbrev P8.{u}:=@List.drop_eq_nil_of_le.{u}
abbrev P9.{u,v}:=@List.map_congr_left.{u,v}
abbrev Qa.{u}:=@List.getElem_mem.{u}
abbrev Qc.{u}:=@List.getElem?_take.{u}
abbrev Qd:=@Nat.le_max_left
abbrev Qe.{u}:=@List.set_append_right.{u}
abbrev Qg:=@List.range_succ
abbrev Qh.{u}:=@List.mem_append_right.{u}
abbrev Qi:=@Nat.zero_mul
abbrev Qj.{u}:=@List.set_append_left.{u}
abbrev Qk.{u}:=@List.drop_length.{u}
abbrev Qn:=@Bool.not_true
abbrev Qo.{u}:=@List.getElem_idxOf.{u}
abbrev Qp.{u}:=@List.nodup_append.{u}
abbrev Qq:=@Nat.sub_self
abbrev Qr.{u}:=@List.getElem?_set_ne.{u}
abbrev Qs.{u}:=@List.mem_or_eq_of_mem_set.{u}
abbrev Qt:=@Bool.eq_iff_iff
abbrev Qu:=@Nat.eq_zero_or_pos
abbrev Qv.{u}:=@List.take_succ_cons.{u}
abbrev Qw.{u,v}:=@List.getElem_map.{u,v}
abbrev Qy:=@Nat.succ_le_of_lt
abbrev Qz.{u}:=@List.set_cons_succ.{u}
abbrev Q0.{u}:=@List.getElem?_drop.{u}
abbrev Q1.{u}:=@List.getElem?_cons_succ.{u}
abbrev Q2.{u,v}:=@congrArg.{u,v}
abbrev Q3:=@Int.toNat_zero
abbrev Q4:=@Int.lt_trichotomy
abbrev Q5:=@Nat.add_sub_cancel_left
abbrev Q6.{u}:=@List.mem_of_find?_eq_some.{u}
abbrev Q7.{u}:=@List.exists_mem_of_ne_nil.{u}
abbrev Q8.{u}:=@List.getElem_drop.{u}
abbrev Q9.{u}:=@List.getElem_append_left.{u}
abbrev Rc.{u}:=@List.getElem?_set_self.{u}
abbrev Rd.{u}:=@List.take_take.{u}
abbrev Re.{u}:=@List.pairwise_append.{u}
abbrev Rf.{u}:=@List.mem_of_mem_take.{u}
abbrev Rg:=@Int.cast_ofNat_Int
abbrev Rh:=@true_and
abbrev Ri:=@of_decide_eq_true
abbrev Rj:=@Int.emod_eq_of_lt
abbrev Rk:=@Nat.div_le_self
abbrev Rl:=@Int.fdiv_eq_ediv_of_nonneg
abbrev Rm.{u}:=@List.take_append_of_le_length.{u}
abbrev Rn.{u}:=@List.find?_some.{u}
abbrev Ro:=@Nat.add_comm
abbrev Rp.{u,v}:=@List.flatMap_nil.{u,v}
abbrev Rq.{u}:=@Option.eq_none_or_eq_some.{u}
abbrev Rr.{u}:=@List.getElem_append_right.{u}
end Go
namespace Go.AM
variable {fz:Nat×Nat} {x v' y:Value} {b ys:List Value} {xs:Array Value} {α:Type} {j o:Nat} {w:World}
def loose (e:Nat):Nat:=2 ^ 62+e
inductive KK where
 | int (k:IntKind) | str | bool | ints (l:List IntKind)
 deriving DecidableEq,Inhabited
inductive EqKind where
 | bool | ptr | slice | map | func | agg (l:List KK)
 deriving Inhabited
inductive CM where
 | any | pure | mk | maps | recs
 deriving DecidableEq,Inhabited
def CM.isPure:CM->Bool
 | .pure=>true
 | _=>false
inductive AOp where
 | mov (x:Operand)
 | pick (c a b:Operand)
 | bin (op:BinOp) (x y:Operand)
 | eqv (neg:Bool) (k:EqKind) (x y:Operand)
 | un (op:UnOp) (x:Operand)
 | conv (k:IntKind) (x:Operand)
 | alloc (zero:List Value)
 | box (x:Operand)
 | build (zero:List Value) (parts:List (Nat×Nat×Operand))
 | buildSlice (len:Nat) (zero:List Value) (parts:List (Nat×Nat×Operand))
 | load1 (a:Operand)
 | loadN (n:Nat) (a:Operand)
 | store (n:Nat) (a x:Operand)
 | storeD (n:Nat) (a x:Operand)
 | nilCheck (x:Operand)
 | fieldAddr (off:Nat) (a:Operand)
 | field1 (off:Nat) (x:Operand)
 | fieldN (off n:Nat) (x:Operand)
 | idxAddrA (len esz:Nat) (x i:Operand)
 | idxAddrS (esz:Nat) (x i:Operand)
 | idxA (len esz:Nat) (agg:Bool) (x i:Operand)
 | idxStr (x i:Operand)
 | sliceS (esz:Nat) (x:Operand) (lo hi mx:Option Operand)
 | sliceA (n esz:Nat) (x:Operand) (lo hi mx:Option Operand)
 | sliceStr (x:Operand) (lo hi:Option Operand)
 | lenStr (x:Operand)
 | lenSlice (x:Operand)
 | capSlice (x:Operand)
 | lenMap (x:Operand)
 | lenK (n:Nat)
 | append (esz bytes:Nat) (str:Bool) (s x:Operand)
 | append0 (esz bytes:Nat) (str:Bool) (s x:Operand)
 | appendL (esz bytes:Nat) (str:Bool) (s x:Operand)
 | copy (esz:Nat) (d x:Operand)
 | minmax (mx:Bool) (xs:List Operand)
 | makeSlice (esz bytes:Nat) (zero:List Value) (len cap:Operand)
 | growNil (esz bytes:Nat) (zero:List Value) (s n:Operand)
 | die (x:Operand)
 | makeMap (hint:Option Operand)
 | lookup (kk:KK) (zero:Value) (ok:Bool) (m key:Operand)
 | mapUpdate (kk:KK) (m key v:Operand)
 | delete (kk:KK) (m key:Operand)
 | clear (zero:List Value) (x:Operand)
 | makeFunc (f:FuncId) (first captured:List Operand)
 | extract (i:Nat) (x:Operand)
 | b2s (x:Operand)
 | strId (x:Operand)
 | rowMark (x:Operand)
 | call (mp:CM) (f:Operand) (args:List Operand)
 | loadR (n:Option Nat) (x:Operand)
 | loadO (n:Option Nat) (x b:Operand)
 | storeO (n:Nat) (a x b:Operand)
 deriving Inhabited
def AOp.operands:AOp->List Operand
 | .mov x | .un _ x | .conv _ x | .box x | .load1 x | .loadN _ x | .nilCheck x | .fieldAddr _ x | .field1 _ x | .fieldN _ _ x | .lenStr x | .lenSlice x | .capSlice x | .lenMap x | .extract _ x | .b2s x | .strId x | .rowMark x | .die x | .clear _ x | .loadR _ x=>[x]
 | .pick c a b | .storeO _ c a b=>[c,a,b]
 | .bin _ x y | .eqv _ _ x y | .store _ x y | .storeD _ x y | .idxAddrA _ _ x y | .idxAddrS _ x y | .idxA _ _ _ x y | .idxStr x y | .append _ _ _ x y | .append0 _ _ _ x y | .appendL _ _ _ x y | .copy _ x y | .makeSlice _ _ _ x y | .growNil _ _ _ x y | .lookup _ _ _ x y | .delete _ x y | .loadO _ x y=>[x,y]
 | .mapUpdate _ m k v=>[m,k,v]
 | .alloc _ | .lenK _=>[]
 | .build _ ps | .buildSlice _ _ ps=>ps.map (·.2.2)
 | .sliceS _ x lo hi mx | .sliceA _ _ x lo hi mx=>x::(lo.toList++hi.toList++mx.toList)
 | .sliceStr x lo hi=>x::(lo.toList++hi.toList)
 | .minmax _ xs=>xs
 | .makeMap h=>h.toList
 | .makeFunc _ a b=>a++b
 | .call _ f args=>f::args
structure AIns where
 dst:Option Nat
 guard:Option (Nat×Bool)
 op:AOp
 dest:Option Nat:=none
 mask:List Nat:=[]
 deriving Inhabited
inductive ACode where
 | skip
 | ops (l:List AIns)
 | drawn (n:Nat) (l:List AIns)
 | seq (a b:ACode)
 | cond (c:Operand) (thn els:ACode)
 | block (id:Nat) (body:ACode)
 | loop (body:ACode)
 | exit (id:Nat)
 | ret
 | rangeF (f:Operand) (params:List Nat) (assign body:ACode)
 | retM
 | retR
 | exitR (id:Nat)
 deriving Inhabited
inductive ARes where
 | tmp (t:Nat)
 | cell1 (a:Nat)
 | cellN (n a:Nat)
 deriving Inhabited
structure AFunc where
 ntmps:Nat
 results:List ARes
 body:ACode
 deriving Inhabited
structure LoopB where
 st:Nat
 pend:Option ACode
 fr:Nat->Value
 N:Nat
 params:List Nat
 assign:ACode
 body:ACode
inductive Blk where
 | dead
 | cells (ro:Bool) (c:List Value)
 | map (es:List (Value×Value))
 | loop (x:LoopB)
 | dfr
 | iter (m:Option Nat) (n:Nat) (seen:List Nat)
 deriving Inhabited
abbrev NA:=List Blk
def NE (H:NA) (i:Nat):Blk:=H.getD i .dead
def atom:Value->Bool
 | .bool _ | .int _ _ | .string _ | .pointer none | .map none | .nilFunc | .nilIface=>true
 | .slice none n c=>n == 0&&c == 0
 | .func (.func _) a b=>a.isEmpty&&b.isEmpty
 | .tuple a=>a.isEmpty
 | _=>false
def flat:Nat->Value->Bool
 | n+1,.agg cs=>cs.toList.all (flat n)
 | n+1,.tuple cs=>cs.toList.all (flat n)
 | _,v=>atom v
def olds (n:Nat):Nat->Value->Bool
 | d+1,.agg cs=>cs.toList.all (olds n d)
 | d+1,.tuple cs=>cs.toList.all (olds n d)
 | _,.pointer (some a)=>decide (a.block<n)
 | _,.slice (some a) _ _=>decide (a.block<n)
 | _,.map (some r)=>decide (r<n)
 | _,v=>atom v
def NB:Value->Bool
 | .tuple _=>false
 | _=>true
def ev (fr:Nat->Value):Operand->Value
 | .tmp t=>fr t
 | .const v=>v
 | .func f=>.func (.func f) #[] #[]
 | .global _=>undef
def place (dest:Option Nat) (b:Blk) (H:NA):Nat×NA:=
 match dest with
 | none=>(H.length,H++[b])
 | some i=>(i,H.set i b)
def loadCell (H:NA) (a:Addr):Option Value:=
 match NE H a.block with
 | .cells _ c=>c[a.off]?
 | _=>none
def loadCells (H:NA) (a:Addr) (n:Nat):Option (List Value):=
 match NE H a.block with
 | .cells _ c=>if a.off+n<=c.length then some ((c.drop a.off).take n) else none
 | _=>none
def QI (c:List Value) (off:Nat):List Value->List Value
 | []=>c
 | v::vs=>QI (c.set off v) (off+1) vs
def storeAt (lim:Nat) (H:NA) (a:Addr) (vs:List Value):Option NA:=
 match NE H a.block with
 | .cells false c=>if lim<=a.block/\a.off+vs.length<=c.length then some (H.set a.block (.cells false (QI c a.off vs))) else none
 | _=>none
def NH (op:BinOp):Value->Value->Option Value
 | .int k a,.int k' b=>
   match op with
   | .shl=>if b<0 then none else some (.int k (k.wrap (a*2 ^ (min b.toNat k.bits))))
   | .shr=>if b<0 then none else some (.int k (a.fdiv (2 ^ (min b.toNat k.bits))))
   | _=>if k=k' then
     match op with
     | .add=>some (.int k (k.wrap (a+b)))
     | .sub=>some (.int k (k.wrap (a-b)))
     | .mul=>some (.int k (k.wrap (a*b)))
     | .quo=>if b=0 then none else some (.int k (k.wrap (a.tdiv b)))
     | .rem=>if b=0 then none else some (.int k (a.tmod b))
     | .and=>some (.int k (k.wrap (BitVec.ofInt k.bits a &&& BitVec.ofInt k.bits b).toNat))
     | .or=>some (.int k (k.wrap (BitVec.ofInt k.bits a ||| BitVec.ofInt k.bits b).toNat))
     | .xor=>some (.int k (k.wrap (BitVec.ofInt k.bits a ^^^ BitVec.ofInt k.bits b).toNat))
     | .andNot=>some (.int k (k.wrap (BitVec.ofInt k.bits a &&& ~~~ BitVec.ofInt k.bits b).toNat))
     | .eql=>some (.bool (a == b))
     | .neq=>some (.bool (a != b))
     | .lss=>some (.bool (decide (a<b)))
     | .leq=>some (.bool (decide (a<=b)))
     | .gtr=>some (.bool (decide (b<a)))
     | .geq=>some (.bool (decide (b<=a)))
     | _=>none
     else none
 | .string a,.string b=>
   match op with
   | .add=>if ((a.size+b.size:Nat):Int) > IntKind.i64.max then none else some (.string (a++b))
   | .eql=>some (.bool (a.toList == b.toList))
   | .neq=>some (.bool (!(a.toList == b.toList)))
   | .lss=>some (.bool (Op.bytesLess a.toList b.toList))
   | .leq=>some (.bool (Op.bytesLess a.toList b.toList||a.toList == b.toList))
   | .gtr=>some (.bool (!(Op.bytesLess a.toList b.toList||a.toList == b.toList)))
   | .geq=>some (.bool (!(Op.bytesLess a.toList b.toList)))
   | _=>none
 | _,_=>none
def SQ:KK->Value->Value->Option Bool
 | .int k,.int k1 a,.int k2 b=>if k1=k/\k2=k then some (a == b) else none
 | .bool,.bool a,.bool b=>some (a == b)
 | .str,.string a,.string b=>some (a.toList == b.toList)
 | _,_,_=>none
def PH:List KK->List Value->List Value->Option Bool
 | [],[],[]=>some true
 | k::ks,x::xs,y::ys=>match SQ k x y,PH ks xs ys with
   | some a,some b=>some (a&&b)
   | _,_=>none
 | _,_,_=>none
def aEq:EqKind->Value->Value->Option Bool
 | .bool,.bool a,.bool b=>some (a == b)
 | .ptr,.pointer none,.pointer b=>some b.isNone
 | .ptr,.pointer (some _),.pointer none=>some false
 | .slice,.slice none _ _,.slice b _ _=>some b.isNone
 | .slice,.slice (some _) _ _,.slice none _ _=>some false
 | .map,.map none,.map b=>some b.isNone
 | .map,.map (some _),.map none=>some false
 | .func,.nilFunc,.nilFunc=>some true
 | .func,.nilFunc,.func _ _ _=>some false
 | .func,.func _ _ _,.nilFunc=>some false
 | .agg l,.agg xs,.agg ys=>PH l xs.toList ys.toList
 | _,_,_=>none
def RN:UnOp->Value->Option Value
 | .not,.bool b=>some (.bool !b)
 | .neg,.int k n=>some (.int k (k.wrap (0-n)))
 | .xor,.int k n=>some (.int k (k.wrap (BitVec.ofInt k.bits (if k.signed then -1 else k.max) ^^^ BitVec.ofInt k.bits n).toNat))
 | _,_=>none
def RU (ρ:Operand->Value):List (Nat×Nat×Operand)->List Value->Option (List Value)
 | [],c=>some c
 | (off,size,x)::rest,c=>
   let vs:=(ρ x).cells.toList
   if vs.length=size/\off+size<=c.length/\NB (ρ x)=true then RU ρ rest (QI c off vs) else none
def bound (v:Value) (m:Nat):Option Nat:=
 match v with
 | .int _ i=>if 0<=i/\i<=(m:Int) then some i.toNat else none
 | _=>none
def bounds (ρ:Operand->Value) (len cap:Nat) (lo hi mx:Option Operand):Option (Nat×Nat×Nat):=
 match (match mx with | some x=>bound (ρ x) cap | none=>some cap) with
 | none=>none
 | some m=>
   match (match hi,mx with | some x,some _=>bound (ρ x) m | some x,none=>bound (ρ x) cap | none,none=>some len | none,some _=>none) with
   | none=>none
   | some h=>
     match (match lo with | some x=>bound (ρ x) h | none=>some 0) with
     | none=>none
     | some l=>some (l,h,m)
def TH (esz:Nat) (ρ:Operand->Value) (v:Value) (lo hi mx:Option Operand):Option Value:=
 match v with
 | .slice a len cap=>
   if cap=loose esz then
    match bounds ρ len len lo hi mx with
    | none=>none
    | some (l,h,m)=>
      match mx with
      | none=>some (.slice (a.map (·.add (l*esz))) (h-l) (loose esz))
      | some _=>if m<2 ^ 62 then some (.slice (if m=l then a else a.map (·.add (l*esz))) (h-l) (m-l)) else none
   else if cap<2 ^ 62 then
    match bounds ρ len cap lo hi mx with
    | none=>none
    | some (l,h,m)=>some (.slice (if m=l then a else a.map (·.add (l*esz))) (h-l) (m-l))
   else none
 | _=>none
def firstCells (H:NA) (size:Nat) (str:Bool):Value->Option (List Value)
 | .slice none n _=>if str\/n≠0 then none else some []
 | .slice (some a) n _=>if str then none else if n=0 then some [] else loadCells H a (n*size)
 | .string s=>if str then some (s.data.toList.map fun b=>.int .u8 b.toNat) else none
 | _=>none
def lenOf:Value->Option Nat
 | .slice _ n _=>some n
 | .string s=>some s.size
 | _=>none
def OX:Nat:=2 ^ 45
def OP (lim:Nat) (dest:Option Nat) (esz bytes:Nat) (str:Bool) (s x:Value) (H:NA):Option (Value×NA):=
 match s,firstCells H esz str x,lenOf x with
 | .slice base n cap,some new,some m=>
   if esz=0\/(n+m)*bytes > OX\/n+m>=2 ^ 62\/cap<n then none
   else if m=0 then some (s,H)
   else match base with
    | none=>
      if n=0/\cap=0 then
       let (i,H'):=place dest (.cells false new) H
       some (.slice (some ⟨i,0,none⟩) m (loose esz),H')
      else none
    | some a=>
      match loadCells H a (n*esz) with
      | none=>none
      | some old=>
        if cap=loose esz then
         match NE H a.block with
         | .cells false _=>
           if lim<=a.block then
            let (i,H'):=place dest (.cells false (old++new)) (H.set a.block .dead)
            some (.slice (some ⟨i,0,none⟩) (n+m) (loose esz),H')
           else none
         | _=>none
        else if cap<2 ^ 62 then
         if n+m<=cap then
          match storeAt lim H (a.add (n*esz)) new with
          | some H'=>some (.slice base (n+m) cap,H')
          | none=>none
         else
          let (i,H'):=place dest (.cells false (old++new)) H
          some (.slice (some ⟨i,0,none⟩) (n+m) (loose esz),H')
        else none
 | _,_,_=>none
def WT (mx:Bool):Value->Value->Option Value
 | .int k x,.int k' y=>if k=k' then some (.int k (if mx then (if x<y then y else x) else (if y<x then y else x))) else none
 | _,_=>none
def RH (mx:Bool):Value->List Value->Option Value
 | x,[]=>some x
 | x,y::ys=>match WT mx x y with
   | some z=>RH mx z ys
   | none=>none
def UL:List Value->List Value->Option Bool
 | [],[]=>some true
 | .int k a::xs,.int k' b::ys=>if k=k' then (UL xs ys).map ((a == b)&&·) else none
 | _,_=>none
def Ta:List IntKind->List Value->Bool
 | [],[]=>true
 | k::ks,.int k' _::xs=>k == k'&&Ta ks xs
 | _,_=>false
def Wy:Value->Value->Option Bool
 | .int k a,.int k' b=>if k=k' then some (a == b) else none
 | .string a,.string b=>some (a == b)
 | .bool a,.bool b=>some (a == b)
 | .agg a,.agg b=>UL a.toList b.toList
 | _,_=>none
def findKey (k:Value):List (Value×Value)->Nat->Option (Option (Nat×Value))
 | [],_=>some none
 | (k',v)::es,i=>match Wy k k' with
   | some true=>some (some (i,v))
   | some false=>findKey k es (i+1)
   | none=>none
def U6:KK->Value->Bool
 | .int k,.int k' _=>k == k'
 | .str,.string _=>true
 | .bool,.bool _=>true
 | .ints l,.agg cs=>Ta l cs.toList
 | _,_=>false
def mapEntries (H:NA):Value->Option (List (Value×Value))
 | .map none=>some []
 | .map (some r)=>match NE H r with
   | .map es=>some es
   | _=>none
 | _=>none
def bytesOf:List Value->Option (List UInt8)
 | []=>some []
 | .int .u8 n::l=>match bytesOf l with
   | some bs=>some (UInt8.ofNat n.toNat::bs)
   | none=>none
 | _::_=>none
def Nix (H:NA) (esz n:Nat):Value->Option (List Value)
 | .slice none m _=>if m=0 then some [] else none
 | .slice (some a) _ _=>loadCells H a (n*esz)
 | .string s=>if esz=1 then some ((s.data.toList.take n).map fun b=>.int .u8 b.toNat) else none
 | _=>none
def TT:Blk->Bool
 | .cells _ c=>c.any fun v=>match v with
   | .int _ _=>false
   | _=>true
 | _=>false
def loadX (n:Option Nat) (H:NA) (p:Addr):Option Value:=match n with
 | none=>loadCell H p
 | some k=>(loadCells H p k).map fun c=>.agg c.toArray
def NL (lim:Nat) (dest:Option Nat) (o:AOp) (ρ:Operand->Value) (H:NA):Option (Value×NA):=
 match o with
 | .mov x=>some (ρ x,H)
 | .pick c a b=>match ρ c with
   | .bool true=>some (ρ a,H)
   | .bool false=>some (ρ b,H)
   | _=>none
 | .bin op x y=>(NH op (ρ x) (ρ y)).map (·,H)
 | .eqv neg k x y=>match aEq k (ρ x) (ρ y) with
   | some b=>some (.bool (if neg then !b else b),H)
   | none=>none
 | .un op x=>(RN op (ρ x)).map (·,H)
 | .conv k x=>match ρ x with
   | .int _ n=>some (.int k (k.wrap n),H)
   | _=>none
 | .alloc zero=>let (i,H'):=place dest (.cells false zero) H;some (.pointer (some ⟨i,0,none⟩),H')
 | .box x=>if NB (ρ x) then
   let (i,H'):=place dest (.cells false (ρ x).cells.toList) H;some (.pointer (some ⟨i,0,none⟩),H')
   else none
 | .build zero parts=>(RU ρ parts zero).map fun c=>(.agg c.toArray,H)
 | .buildSlice len zero parts=>match RU ρ parts zero with
   | some c=>let (i,H'):=place dest (.cells false c) H;some (.slice (some ⟨i,0,none⟩) len len,H')
   | none=>none
 | .load1 a=>match ρ a with
   | .pointer (some p)=>(loadCell H p).map (·,H)
   | _=>none
 | .loadN n a=>match ρ a with
   | .pointer (some p)=>(loadCells H p n).map fun c=>(.agg c.toArray,H)
   | _=>none
 | .loadR n a=>match ρ a with
   | .pointer (some p)=>if TT (NE H p.block)=true then (loadX n H p).map (·,H) else none
   | _=>none
 | .loadO n a b=>match ρ a,ρ b with
   | .pointer (some p),.pointer (some q)=>if p.block≠q.block then (loadX n H p).map (·,H) else none
   | _,_=>none
 | .storeO n a x b=>match ρ a,ρ b with
   | .pointer (some p),.pointer (some q)=>if p.block=q.block/\(ρ x).cells.size=n/\NB (ρ x)=true then (storeAt lim H p (ρ x).cells.toList).map (undef,·) else none
   | _,_=>none
 | .store n a x=>match ρ a with
   | .pointer (some p)=>if (ρ x).cells.size=n/\NB (ρ x)=true then (storeAt lim H p (ρ x).cells.toList).map (undef,·) else none
   | _=>none
 | .storeD n a x=>match dest,ρ a with
   | some d,.pointer (some p)=>if p.block=d/\(ρ x).cells.size=n/\NB (ρ x)=true then (storeAt lim H p (ρ x).cells.toList).map (undef,·) else none
   | _,_=>none
 | .nilCheck x=>match ρ x with
   | .pointer (some p)=>some (.pointer (some p),H)
   | .func (.func f) a b=>some (.func (.func f) a b,H)
   | _=>none
 | .fieldAddr off a=>match ρ a with
   | .pointer (some p)=>some (.pointer (some (p.add off)),H)
   | _=>none
 | .field1 off x=>match ρ x with
   | .agg cs=>(cs.toList[off]?).map (·,H)
   | _=>none
 | .fieldN off n x=>match ρ x with
   | .agg cs=>some (.agg ((cs.toList.drop off).take n).toArray,H)
   | _=>none
 | .idxAddrA len esz x i=>match ρ x,ρ i with
   | .pointer (some p),.int _ n=>if 0<=n/\n<(len:Int) then some (.pointer (some (p.add (n.toNat*esz))),H) else none
   | _,_=>none
 | .idxAddrS esz x i=>match ρ x,ρ i with
   | .slice (some p) len _,.int _ n=>if 0<=n/\n<(len:Int) then some (.pointer (some (p.add (n.toNat*esz))),H) else none
   | _,_=>none
 | .idxA len esz agg x i=>match ρ x,ρ i with
   | .agg cs,.int _ n=>if 0<=n/\n<(len:Int) then
     (if agg then some (.agg ((cs.toList.drop (n.toNat*esz)).take esz).toArray,H) else (cs.toList[n.toNat*esz]?).map (·,H))
     else none
   | _,_=>none
 | .idxStr x i=>match ρ x,ρ i with
   | .string s,.int _ n=>if 0<=n then (s.data.toList[n.toNat]?).map fun b=>(.int .u8 b.toNat,H) else none
   | _,_=>none
 | .sliceS esz x lo hi mx=>(TH esz ρ (ρ x) lo hi mx).map (·,H)
 | .sliceA n esz x lo hi mx=>match ρ x with
   | .pointer (some a)=>match bounds ρ n n lo hi mx with
     | some (l,h,m)=>if m<2 ^ 62 then some (.slice (some (if m=l then a else a.add (l*esz))) (h-l) (m-l),H) else none
     | none=>none
   | _=>none
 | .sliceStr x lo hi=>match ρ x with
   | .string s=>match bounds ρ s.size s.size lo hi none with
     | some (l,h,_)=>some (.string (s.extract l h),H)
     | none=>none
   | _=>none
 | .lenStr x=>match ρ x with
   | .string s=>some (.int .i64 s.size,H)
   | _=>none
 | .lenSlice x=>match ρ x with
   | .slice _ n _=>some (.int .i64 n,H)
   | _=>none
 | .capSlice x=>match ρ x with
   | .slice _ _ c=>if c<2 ^ 62 then some (.int .i64 c,H) else none
   | _=>none
 | .lenMap x=>(mapEntries H (ρ x)).map fun es=>(.int .i64 es.length,H)
 | .lenK n=>some (.int .i64 n,H)
 | .append esz bytes str s x=>OP lim dest esz bytes str (ρ s) (ρ x) H
 | .appendL esz bytes str s x=>match ρ s with
   | .slice none n c=>OP lim dest esz bytes str (.slice none n c) (ρ x) H
   | .slice (some a) n c=>if c=loose esz\/c=n then OP lim dest esz bytes str (.slice (some a) n c) (ρ x) H else none
   | _=>none
 | .append0 esz bytes str s x=>match ρ s with
   | .slice b 0 0=>OP lim dest esz bytes str (.slice b 0 0) (ρ x) H
   | _=>none
 | .copy esz d x=>match ρ d,lenOf (ρ x) with
   | .slice base dl _,some sl=>match Nix H esz (min sl dl) (ρ x) with
     | some cs=>match base with
       | some a=>if min sl dl=0 then some (.int .i64 0,H) else (storeAt lim H a cs).map (.int .i64 (min sl dl:Nat),·)
       | none=>if dl=0 then some (.int .i64 0,H) else none
     | none=>none
   | _,_=>none
 | .minmax mx xs=>match xs with
   | []=>none
   | x::r=>(RH mx (ρ x) (r.map ρ)).map (·,H)
 | .makeSlice esz bytes zero len cap=>match ρ len,ρ cap with
   | .int _ l,.int _ c=>
     if 0<=l/\l<=c/\c*bytes<=2 ^ 45/\c<2 ^ 62 then
      let (i,H'):=place dest (.cells false ((List.range (c.toNat*esz)).map fun j=>zero.getD (j % zero.length) undef)) H
      some (.slice (some ⟨i,0,none⟩) l.toNat c.toNat,H')
     else none
   | _,_=>none
 | .growNil esz bytes zero s n=>match ρ s,ρ n with
   | .slice none 0 0,.int _ l=>
     if 0<l/\l*bytes<=2 ^ 45/\l<2 ^ 62 then
      let (i,H'):=place dest (.cells false ((List.range (l.toNat*esz)).map fun j=>zero.getD (j % zero.length) undef)) H
      some (.slice (some ⟨i,0,none⟩) l.toNat (loose esz),H')
     else none
   | _,_=>none
 | .die _=>none
 | .makeMap hint=>match (match hint with | none=>true | some x=>match ρ x with | .int _ _=>true | _=>false) with
   | true=>let (i,H'):=place dest (.map []) H;some (.map (some i),H')
   | false=>none
 | .lookup kk zero ok m key=>match mapEntries H (ρ m) with
   | some es=>if U6 kk (ρ key) then
     match findKey (ρ key) es 0 with
     | some (some (_,v))=>some (if ok then .tuple #[v,.bool true] else v,H)
     | some none=>some (if ok then .tuple #[zero,.bool false] else zero,H)
     | none=>none
     else none
   | none=>none
 | .mapUpdate kk m key v=>match ρ m with
   | .map (some r)=>match NE H r with
     | .map es=>if U6 kk (ρ key)/\lim<=r then
       match findKey (ρ key) es 0 with
       | some (some (i,_))=>some (undef,H.set r (.map (es.set i (ρ key,ρ v))))
       | some none=>some (undef,H.set r (.map (es++[(ρ key,ρ v)])))
       | none=>none
       else none
     | _=>none
   | _=>none
 | .delete _ _ _=>none
 | .clear zero x=>match ρ x with
   | .slice (some a) n _=>if n=0 then some (.tuple #[],H) else (storeAt lim H a ((List.range (n*zero.length)).map fun j=>zero.getD (j % zero.length) undef)).map (.tuple #[],·)
   | _=>none
 | .makeFunc f first captured=>some (.func (.func f) (first.map ρ).toArray (captured.map ρ).toArray,H)
 | .extract i x=>match ρ x with
   | .tuple vs=>(vs.toList[i]?).map (·,H)
   | _=>none
 | .b2s x=>match ρ x with
   | .slice none n _=>if n=0 then some (.string .empty,H) else none
   | .slice (some a) n _=>match loadCells H a n with
     | some cs=>match bytesOf cs with
       | some bs=>some (.string ⟨bs.toArray⟩,H)
       | none=>none
     | none=>none
   | _=>none
 | .rowMark x=>match ρ x with
   | .slice (some a) n c=>match NE H a.block with
     | .cells false _=>if lim<=a.block/\n≠0 then some (.slice (some a) n c,H) else none
     | _=>none
   | _=>none
 | .strId x=>match ρ x with
   | .string s=>some (.string s,H)
   | _=>none
 | .call _ _ _=>none
def upd (fr:Nat->Value) (t:Nat) (v:Value):Nat->Value:=fun i=>if i=t then v else fr i
def YP (N:Nat) (fr:Nat->Value) (dst:Option Nat) (v:Value):Option (Nat->Value):=
 match dst with
 | none=>some fr
 | some d=>if d<N then some (upd fr d v) else none
def RO (N:Nat) (fr:Nat->Value):Option (Nat×Bool)->Option Bool
 | none=>some true
 | some (t,b)=>if t<N then (match fr t with
   | .bool c=>some (c == b)
   | _=>some false) else none
def OI (base:Nat) (l:List Nat) (H:NA):NA:=l.foldl (fun H i=>H.set (base+i) .dead) H
def OE (base:Nat) (l:List Nat) (H0 H:NA):NA:=l.foldl (fun H i=>H.set (base+i) (NE H0 (base+i))) H
def NF (f:Value) (args:List Value):Option ((FuncId ⊕ Nat)×List Value):=
 match f with
 | .func (.func g) first captured=>some (.inl g,first.toList++args++captured.toList)
 | .func (.yield i) first captured=>some (.inr i,first.toList++args++captured.toList)
 | _=>none
def CM.lim:CM->Nat->NA->Nat
 | .mk,_,H=>H.length
 | _,l,_=>l
abbrev Ul:=Bool->Nat->(FuncId ⊕ Nat)->List Value->NA->Option (Value×NA)
mutual
def RV:Value->Value->Bool
 | .bool a,.bool b=>a == b
 | .int k a,.int k' b=>decide (k=k')&&decide (a=b)
 | .float k a,.float k' b=>decide (k=k')&&decide (a=b)
 | .complex k a c,.complex k' b d=>decide (k=k')&&decide (a=b)&&decide (c=d)
 | .string a,.string b=>a.data.toList == b.data.toList
 | .pointer a,.pointer b=>decide (a=b)
 | .slice a n c,.slice b m d=>decide (a=b)&&decide (n=m)&&decide (c=d)
 | .map a,.map b=>decide (a=b)
 | .chan a,.chan b=>decide (a=b)
 | .func f ⟨a⟩ ⟨c⟩,.func g ⟨b⟩ ⟨d⟩=>decide (f=g)&&VG a b&&VG c d
 | .nilFunc,.nilFunc=>true
 | .iface t v,.iface u w=>decide (t=u)&&RV v w
 | .nilIface,.nilIface=>true
 | .agg ⟨a⟩,.agg ⟨b⟩=>VG a b
 | .tuple ⟨a⟩,.tuple ⟨b⟩=>VG a b
 | _,_=>false
def VG:List Value->List Value->Bool
 | [],[]=>true
 | x::xs,y::ys=>RV x y&&VG xs ys
 | _,_=>false
end
mutual
theorem Mm:∀v:Value,RV v v=true
 | .bool a=>by simp [RV]
 | .int k a=>by simp [RV]
 | .float k a=>by simp [RV]
 | .complex k a c=>by simp [RV]
 | .string a=>by simp [RV]
 | .pointer a=>by simp [RV]
 | .slice a n c=>by simp [RV]
 | .map a=>by simp [RV]
 | .chan a=>by simp [RV]
 | .func f ⟨a⟩ ⟨c⟩=>by simp [RV,TK a,TK c]
 | .nilFunc=>by simp [RV]
 | .iface t v=>by simp [RV,Mm v]
 | .nilIface=>by simp [RV]
 | .agg ⟨a⟩=>by simp [RV,TK a]
 | .tuple ⟨a⟩=>by simp [RV,TK a]
theorem TK:∀l:List Value,VG l l=true
 | []=>by simp [VG]
 | x::xs=>by simp [VG,Mm x,TK xs]
end
mutual
theorem Ndz:∀v w:Value,RV v w=true->v=w
 | .bool a,w,h=>by cases w<;>simp [RV] at h;rw [h]
 | .int k a,w,h=>by cases w<;>simp [RV] at h;rw [h.1,h.2]
 | .float k a,w,h=>by cases w<;>simp [RV] at h;rw [h.1,h.2]
 | .complex k a c,w,h=>by cases w<;>simp [RV] at h;rw [h.1.1,h.1.2,h.2]
 | .string a,w,h=>by
   cases w<;>simp [RV] at h;rename_i b;obtain ⟨⟨x⟩⟩:=a;obtain ⟨⟨y⟩⟩:=b;simp at h;rw [h]
 | .pointer a,w,h=>by cases w<;>simp [RV] at h;rw [h]
 | .slice a n c,w,h=>by cases w<;>simp [RV] at h;rw [h.1.1,h.1.2,h.2]
 | .map a,w,h=>by cases w<;>simp [RV] at h;rw [h]
 | .chan a,w,h=>by cases w<;>simp [RV] at h;rw [h]
 | .func f ⟨a⟩ ⟨c⟩,w,h=>by
   cases w<;>simp [RV] at h;rename_i g b d;obtain ⟨b⟩:=b;obtain ⟨d⟩:=d;simp [] at h;rw [h.1.1,Vf a b h.1.2,Vf c d h.2]
 | .nilFunc,w,h=>by cases w<;>simp [RV] at h;rfl
 | .iface t v,w,h=>by
   cases w<;>simp [RV] at h;rename_i u x;rw [h.1,Ndz v x h.2]
 | .nilIface,w,h=>by cases w<;>simp [RV] at h;rfl
 | .agg ⟨a⟩,w,h=>by
   cases w<;>simp [RV] at h;rename_i b;obtain ⟨b⟩:=b;simp [] at h;rw [Vf a b h]
 | .tuple ⟨a⟩,w,h=>by
   cases w<;>simp [RV] at h;rename_i b;obtain ⟨b⟩:=b;simp [] at h;rw [Vf a b h]
theorem Vf:∀l m:List Value,VG l m=true->l=m
 | [],m,h=>by cases m<;>simp [VG] at h;rfl
 | x::xs,m,h=>by
   cases m<;>simp [VG] at h;rename_i y ys;rw [Ndz x y h.1,Vf xs ys h.2]
end
def blkSame:Blk->Blk->Bool
 | .cells ro c,.cells ro' c'=>decide (ro=ro')&&VG c c'
 | .cells _ _,_=>false
 | _,_=>true
def Wn (H H':NA):Bool:=(List.range H.length).all fun j=>blkSame (NE H j) (NE H' j)
variable {H H':NA}
theorem Ng5 (h:Wn H H'=true) {ro:Bool} {c:List Value} (a:NE H j=.cells ro c):NE H' j=.cells ro c:=by
 have b:j<H.length:=by
  rcases Od j H.length with h1 | h1
  ·exact h1
  ·unfold NE at a;rw [Nb,N0 h1] at a;cases a
 have:=N7.1 h j (List.mem_range.2 b);rw [a] at this;cases hh:NE H' j with
 | cells d c'=>
   rw [hh] at this;simp only [blkSame,N2,N6] at this;rw [this.1,Vf _ _ this.2]
 | _=>rw [hh] at this;simp [blkSame] at this
theorem Nkm (h:∀j ro c,NE H j=.cells ro c->NE H' j=.cells ro c):Wn H H'=true:=by
 refine N7.2 fun j _=>?_
 cases hj:NE H j with
 | cells ro c=>rw [h j ro c hj];simp [blkSame,TK]
 | _=>rfl
def Xr (H H':NA):Bool:=(List.range H.length).all fun j=>!TT (NE H j)||blkSame (NE H j) (NE H' j)
theorem UK {b:Blk} (h:TT b=true):∃ro c,b=.cells ro c:=by
 cases b<;>first | exact ⟨_,_,rfl⟩ | cases h
theorem Njp (h:Xr H H'=true) (b:TT (NE H j)=true):NE H' j=NE H j:=by
 obtain ⟨ro,c,hc⟩:=UK b;have a:j<H.length:=by
  rcases Od j H.length with hl | hl
  ·exact hl
  ·unfold NE at hc;rw [Nb,N0 hl] at hc;cases hc
 have:=N7.1 h j (List.mem_range.2 a);rw [b,Qn,Bool.false_or,hc] at this;cases hh:NE H' j with
 | cells d c'=>
   rw [hh] at this;simp only [blkSame,N2,N6] at this;rw [hc,this.1,Vf _ _ this.2]
 | _=>rw [hh] at this;simp [blkSame] at this
theorem Nl0 (h:∀j,TT (NE H j)=true->NE H' j=NE H j):Xr H H'=true:=by
 refine N7.2 fun j _=>?_
 cases hj:TT (NE H j) with
 | false=>rfl
 | true=>
   rw [h j hj];obtain ⟨ro,c,hc⟩:=UK hj;rw [hc];simp [blkSame,TK]
def VM:CM->NA->Option (Value×NA)->Option (Value×NA)
 | .maps,H,some (v,H')=>if Wn H H'=true then some (v,H') else none
 | .recs,H,some (v,H')=>if Xr H H'=true then some (v,H') else none
 | _,_,r=>r
variable {m:CM} {r:Option (Value×NA)}
theorem Td {p:Value×NA} (h:VM m H r=some p):r=some p/\(m=.maps->Wn H p.2=true):=by
 cases m with
 | maps=>
   cases r with
   | none=>simp [VM] at h
   | some q=>
     obtain ⟨v,H'⟩:=q;simp only [VM] at h;split at h
     ·rename_i hc;cases h;exact ⟨rfl,fun _=>hc⟩
     ·cases h
 | recs=>
   cases r with
   | none=>simp [VM] at h
   | some q=>
     obtain ⟨v,H'⟩:=q;simp only [VM] at h;split at h
     ·cases h;exact ⟨rfl,fun e=>by cases e⟩
     ·cases h
 | _=>exact ⟨by simpa [VM] using h,fun e=>by cases e⟩
theorem Nb2 {p:Value×NA} (h:VM .recs H r=some p):Xr H p.2=true:=by
 cases r with
 | none=>simp [VM] at h
 | some q=>
   obtain ⟨v,H'⟩:=q;simp only [VM] at h;split at h
   ·rename_i hc;cases h;exact hc
   ·cases h
variable {r':Option (Value×NA)}
theorem Nwc (h:∀p,r=some p->r'=some p) {p:Value×NA} (hp:VM m H r=some p):VM m H r'=some p:=by
 obtain ⟨h1,h2⟩:=Td hp;rw [h p h1];cases m with
 | maps=>obtain ⟨v,H'⟩:=p;simp only [VM,Nl (h2 rfl)]
 | recs=>obtain ⟨v,H'⟩:=p;simp only [VM,Nl (Nb2 hp)]
 | _=>rfl
def R6 (C:Ul) (lim:Nat) (dest:Option Nat) (o:AOp) (ρ:Operand->Value) (H:NA):Option (Value×NA):=
 match o with
 | .call mp f args=>match NF (ρ f) (args.map ρ) with
   | some (g,as)=>VM mp H (C mp.isPure (mp.lim lim H) g as H)
   | none=>none
 | o=>NL lim dest o ρ H
def Tc (C:Ul) (N lim:Nat) (base:Option Nat) (i:AIns) (fr:Nat->Value) (H:NA):Option (Value×NA):=
 match RO N fr i.guard with
 | none=>none
 | some false=>some (undef,H)
 | some true=>match base with
   | none=>R6 C lim none i.op (ev fr) H
   | some b=>match R6 C lim (i.dest.map (b+·)) i.op (ev fr) (OI b i.mask H) with
     | some (v,H')=>some (v,OE b i.mask H H')
     | none=>none
def TW (C:Ul) (N lim:Nat) (base:Option Nat) (i:AIns) (fr:Nat->Value) (H:NA):Option ((Nat->Value)×NA):=
 match Tc C N lim base i fr H with
 | some (v,H')=>(YP N fr i.dst v).map (·,H')
 | none=>none
abbrev Tw:=Bool->Nat->(FuncId ⊕ Nat)->List Value->NA->Option (List (Value×NA))
def oneOf:Option (List α)->Option α
 | some [x]=>some x
 | _=>none
def det (C:Tw):Ul:=fun mp lim t as H=>oneOf (C mp lim t as H)
def YX {α β:Type} (f:α->Option β):List α->Option (List β)
 | []=>some []
 | x::l=>match f x,YX f l with
   | some y,some r=>some (y::r)
   | _,_=>none
def Uj {α β:Type} (f:α->Option (List β)):List α->Option (List β)
 | []=>some []
 | x::l=>match f x,Uj f l with
   | some y,some r=>some (y++r)
   | _,_=>none
def VY:Value->Bool
 | .agg cs=>cs.toList.all fun v=>match v with
   | .int _ _=>true
   | _=>false
 | .int _ _ | .string _ | .bool _=>true
 | _=>false
def Tq (n:Nat) (seen:List Nat):List Nat:=(List.range n).filter fun j=>!seen.contains j
def UB (v:Value) (H:NA):Option (Value×NA):=match v,mapEntries H v with
 | .map m,some es=>some (.pointer (some ⟨H.length,0,none⟩),H++[.iter m es.length []])
 | _,_=>none
def Mh (lim:Nat) (v:Value) (H:NA):Option (List (Value×NA)):=match v with
 | .pointer (some ⟨r,0,none⟩)=>match NE H r with
   | .iter m n seen=>if lim<=r then match mapEntries H (.map m) with
     | some es=>if es.length=n then match Tq n seen with
       | []=>some [(.tuple #[.bool false],H)]
       | j::l=>YX (fun j=>match es[j]? with
         | some e=>if VY e.1 then some (.tuple #[.bool true,e.1,e.2],H.set r (.iter m n (seen++[j]))) else none
         | none=>none) (j::l)
       else none
     | none=>none
     else none
   | _=>none
 | _=>none
def Zp (v:Value) (H:NA):Option (Value×NA):=match v with
 | .pointer (some ⟨r,0,none⟩)=>match NE H r with
   | .iter (some m) n seen=>match mapEntries H (.map (some m)),seen.getLast? with
     | some es,some j=>if es.length=n then match es[j]? with
       | some e=>if VY e.1 then some (.tuple #[e.1,e.2],H) else none
       | none=>none
     else none
     | _,_=>none
   | _=>none
 | _=>none
def YL (C:Tw) (lim:Nat) (o:AOp) (ρ:Operand->Value) (H:NA):Option (List (Value×NA)):=
 match o with
 | .call mp f args=>match NF (ρ f) (args.map ρ) with
   | some (g,as)=>match C mp.isPure (mp.lim lim H) g as H with
     | some L=>YX (fun r=>VM mp H (some r)) L
     | none=>none
   | none=>none
 | o=>(NL lim none o ρ H).map fun r=>[r]
def Nd5 (k lim:Nat) (o:AOp) (ρ:Operand->Value) (H:NA):Option (List (Value×NA)):=
 match k,o with
 | 1,.mov x=>(UB (ρ x) H).map fun r=>[r]
 | 2,.mov x=>Mh lim (ρ x) H
 | 3,.mov x=>(Zp (ρ x) H).map fun r=>[r]
 | _,_=>none
def stepX (C:Tw) (lim:Nat) (i:AIns) (ρ:Operand->Value) (H:NA):Option (List (Value×NA)):=
 match i.dest with
 | none=>YL C lim i.op ρ H
 | some k=>Nd5 k lim i.op ρ H
def M5 (C:Tw) (N lim:Nat) (i:AIns) (fr:Nat->Value) (H:NA):Option (List ((Nat->Value)×NA)):=
 match RO N fr i.guard with
 | none=>none
 | some false=>(YP N fr i.dst undef).map fun f=>[(f,H)]
 | some true=>match stepX C lim i (ev fr) H with
   | some L=>YX (fun r=>(YP N fr i.dst r.1).map (·,r.2)) L
   | none=>none
inductive AItem where
 | code (c:ACode)
 | ops (base:Option Nat) (l:List AIns)
 | inBlock (id:Nat)
 | inLoop (c:ACode)
 | begin (i:Nat)
 | round (i:Nat)
 | mark (i:Nat)
def roundOf:List AItem->Option Nat
 | []=>none
 | .round i::_=>some i
 | _::k=>roundOf k
def marks:List AItem->List Nat
 | []=>[]
 | .mark i::k=>marks k++[i]
 | _::k=>marks k
def shut (lim:Nat):List Nat->NA->Option NA
 | [],H=>some H
 | i::l,H=>match NE H i with
   | .dfr=>if lim<=i then shut lim l (H.set i .dead) else none
   | _=>none
def endRound (i:Nat) (j:Option ACode) (H:NA):Option (Value×NA):=
 match NE H i with
 | .loop x=>some (.bool j.isNone,H.set i (.loop { x with st:=if j.isNone then 0 else 2,pend:=j }))
 | _=>none
def Tx (fr:Nat->Value):List Nat->List Value->(Nat->Value)
 | p::ps,v::vs=>Tx (fun t=>if t=p then v else fr t) ps vs
 | _,_=>fr
def RI (id:Nat):List AItem->Option (List AItem)
 | .inBlock id'::k=>if id'=id then some k else RI id k
 | _::k=>RI id k
 | []=>none
def NC (fr:Nat->Value) (H:NA):ARes->Option Value
 | .tmp t=>some (fr t)
 | .cell1 a=>match fr a with
   | .pointer (some p)=>loadCell H p
   | _=>none
 | .cellN n a=>match fr a with
   | .pointer (some p)=>(loadCells H p n).map fun c=>.agg c.toArray
   | _=>none
def Vl (fr:Nat->Value) (H:NA):List ARes->Option (List Value)
 | []=>some []
 | r::rs=>match NC fr H r,Vl fr H rs with
   | some v,some vs=>some (v::vs)
   | _,_=>none
def result (fr:Nat->Value) (H:NA) (a:List ARes):Option Value:=
 match Vl fr H a with
 | some [v]=>some v
 | some vs=>some (.tuple vs.toArray)
 | none=>none
def NG (args:List Value):Nat->Value:=fun t=>args.getD t undef
structure Env where
 tr:FuncId->Option AFunc
 pure:FuncId->Bool
 orc:FuncId->List Value->Option Value
 dt:Bool
 eff:FuncId->List Value->NA->Option (Value×List (List Value)×Option (Nat×List Value))
def news (X:List (List Value)):NA:=X.map (Blk.cells false)
def N4r (H:NA):Option (Nat×List Value)->NA
 | none=>H
 | some (R,c)=>H.set R (.cells false c)
def YI (lim:Nat) (H:NA):Option (Nat×List Value)->Bool
 | none=>true
 | some (R,c)=>decide (lim<=R)&&match NE H R with
   | .cells false a=>decide (a.length=c.length)
   | _=>false
def Nrq (H:NA) (r:List (List Value)×Option (Nat×List Value)):NA:=N4r H r.2++news r.1
variable (E:Env)
def one (r:Option α):Option (List α):=r.map fun x=>[x]
def QV (run:AFunc->Nat->List AItem->(Nat->Value)->NA->Option (List (Value×NA))):Tw:=fun a lim t as H=>
 match t with
 | .inl g=>
   match E.orc g as with
   | some v=>if as.all atom&&flat 4 v then some [(v,H)] else none
   | none=>
     match E.eff g as H with
     | some r=>if a||!YI lim H r.2.2 then none else some [(r.1,Nrq H r.2)]
     | none=>
     match E.tr g with
     | none=>none
     | some af=>
       if E.pure g then
        match run af H.length [.code af.body] (NG as) H with
        | some ((v,_)::l)=>if l.all (fun r=>RV v r.1) then (if olds H.length 4 v then some [(v,H)] else none) else none
        | _=>none
       else if a then none
       else run af lim [.code af.body] (NG as) H
 | .inr i=>
   if a then none
   else match NE H i with
    | .loop x=>if lim<=i/\as.length=x.params.length/\x.params.all (·<x.N)=true then run ⟨x.N,[],.skip⟩ lim [.code x.assign,.begin i,.code x.body,.round i] (Tx x.fr x.params as) H else none
    | _=>none
def PK:Nat->AFunc->(lim:Nat)->List AItem->(Nat->Value)->NA->Option (List (Value×NA))
 | 0,_,_,_,_,_=>none
 | n+1,af,lim,k,fr,H=>
   match k with
   | []=>one ((result fr H af.results).map (·,H))
   | .inBlock _::k=>PK n af lim k fr H
   | .inLoop c::k=>PK n af lim (.code c::.inLoop c::k) fr H
   | .begin i::k=>match NE H i with
     | .loop x=>if x.st=0/\lim<=i then PK n af lim k fr (H.set i (.loop { x with st:=1 })) else none
     | _=>none
   | .round i::_=>if lim<=i then one (endRound i none H) else none
   | .mark _::_=>none
   | .ops _ []::k=>PK n af lim k fr H
   | .ops none (i::l)::k=>
     match M5 (QV E (PK n)) af.ntmps lim i fr H with
     | some L=>Uj (fun r=>PK n af lim (.ops none l::k) r.1 r.2) L
     | none=>none
   | .ops (some b) (i::l)::k=>
     match TW (det (QV E (PK n))) af.ntmps lim (some b) i fr H with
     | some (fr',H')=>PK n af lim (.ops (some b) l::k) fr' H'
     | none=>none
   | .code c::k=>
     match c with
     | .skip=>PK n af lim k fr H
     | .ops l=>PK n af lim (.ops none l::k) fr H
     | .drawn m l=>PK n af lim (.ops (some H.length) l::k) fr (H++List.replicate m .dead)
     | .seq a b=>PK n af lim (.code a::.code b::k) fr H
     | .cond c a b=>match ev fr c with
       | .bool true=>PK n af lim (.code a::k) fr H
       | .bool false=>PK n af lim (.code b::k) fr H
       | _=>none
     | .block id b=>PK n af lim (.code b::.inBlock id::k) fr H
     | .loop b=>PK n af lim (.code b::.inLoop b::k) fr H
     | .exit id=>match RI id k with
       | some k'=>PK n af lim k' fr H
       | none=>none
     | .ret=>one ((result fr H af.results).map (·,H))
     | .retM=>match shut lim (marks k) H with
       | some H'=>one ((result fr H' af.results).map (·,H'))
       | none=>none
     | .retR=>match roundOf k with
       | some i=>if lim<=i then one (endRound i (some .retM) H) else none
       | none=>none
     | .exitR id=>match RI id k with
       | some k'=>PK n af lim k' fr H
       | none=>match roundOf k with
         | some i=>if lim<=i then one (endRound i (some (.exit id)) H) else none
         | none=>none
     | .rangeF f ps assign body=>
       match NF (ev fr f) [.func (.yield (H.length+1)) #[] #[]] with
       | some (.inl g,as)=>
         match QV E (PK n) false lim (.inl g) as (H++[.dfr,.loop ⟨0,none,fr,af.ntmps,ps,assign,body⟩]) with
         | some L=>Uj (fun r=>match NE r.2 (H.length+1) with
           | .loop x=>if x.st=1 then none else PK n af lim ((match x.pend with | none=>[] | some c=>[.code c])++(k++[.mark H.length])) fr (r.2.set (H.length+1) .dead)
           | _=>none) L
         | none=>none
       | _=>none
def R4 (n:Nat):Tw:=QV E (PK E n)
variable (P:Program) (pureF:FuncId->Bool)
def QB:Operand->Bool
 | .tmp _=>true
 | .const v=>atom v
 | .func _=>true
 | .global _=>false
def Rx (t:TypeId):Option Bool:=
 match P.underlying t with
 | some (.struct _) | some (.array _ _)=>some true
 | some _=>some false
 | none=>none
def zeroOf (t:TypeId):Option (List Value):=
 match P.info? t with
 | some i=>match i.zero with
   | some z=>if z.cells.toList.all (fun v=>atom v&&v.oneCell') then some z.cells.toList else none
   | none=>none
 | none=>none
def Ndj (t:TypeId):Option Value:=
 match P.info? t with
 | some i=>match i.zero with
   | some z=>if z.cells.toList.all (fun v=>atom v&&v.oneCell') then some z else none
   | none=>none
 | none=>none
def PZ (t:TypeId):Option Nat:=(P.info? t).map (·.size)
def Zn (t:TypeId):Option Nat:=(P.info? t).map (·.bytes)
def ZB (f':TypeId->Option (List KK)):List Field->Nat->Option (List KK)
    | [],_=>some []
    | f::fs,off=>if f.name= "_"\/f.offset≠off then none else
      match f' f.type with
      | some l=>if l.length=P.cellsOf f.type/\l.length≠0 then (ZB f' fs (off+l.length)).map (l++·) else none
      | none=>none
def PL:Nat->TypeId->Option (List KK)
 | 0,_=>none
 | n+1,t=>match P.underlying t with
   | some .bool=>some [.bool]
   | some (.int k)=>some [.int k]
   | some .string=>some [.str]
   | some (.array len e)=>match PL n e with
     | some l=>if l.length=P.cellsOf e then some (List.replicate len l).flatten else none
     | none=>none
   | some (.struct fs)=>if P.stoodInHeld t then none else ZB P (PL n) fs.toList 0
   | _=>none
def U1 (t:TypeId):Option EqKind:=
 match P.underlying t with
 | some .bool=>some .bool
 | some (.pointer _)=>some .ptr
 | some (.slice _)=>some .slice
 | some (.map _ _)=>some .map
 | some (.func _ _ _)=>some .func
 | some (.struct _) | some (.array _ _)=>if P.eqGuardType P.depth t then none else (PL P 20 t).map .agg
 | _=>none
def TV:List KK->Option (List IntKind)
 | []=>some []
 | .int k::l=>(TV l).map (k::·)
 | _=>none
def TG (t:TypeId):Option KK:=
 match P.underlying t with
 | some (.int k)=>some (.int k)
 | some .string=>some .str
 | some .bool=>some .bool
 | some (.struct _) | some (.array _ _)=>match PL P 20 t with
   | some l=>(TV l).map .ints
   | none=>none
 | _=>none
def No6 (a:Array Field) (x:Nat×Operand):Option (Nat×Nat×Operand):=do
 let f <-a[x.1]?;let s <-PZ P f.type
 if QB x.2 then pure (f.offset,s,x.2) else none
def N99 (t:TypeId):Bool:=match P.underlying t with
 | some (.tuple ts)=>ts.isEmpty
 | _=>false
def Na8 (h:Bool) (o:Oper):Option AOp:=
 if !(o.op.operands.toList.all QB) then none else
 match o.op with
 | .move x | .assign x=>some (.mov x)
 | .pick c a b=>some (.pick c a b)
 | .alloc e=>(zeroOf P e).map .alloc
 | .box _ x=>some (.box x)
 | .build t parts=>do
   let z <-zeroOf P t
   match P.underlying t with
   | some (.struct fs)=>do
     let ps <-parts.toList.mapM (No6 P fs)
     if fs.toList.all (fun f=>(P.info? f.type).isSome) then pure (.build z ps) else none
   | some (.array _ e)=>do
     let s <-PZ P e
     pure (.build z (parts.toList.map fun x=>(x.1*s,s,x.2)))
   | _=>none
 | .buildSlice t len parts=>do
   match P.underlying t with
   | some (.slice e)=>do
     let s <-PZ P e;let z <-zeroOf P e
     if z.length≠s\/s=0\/len*s > 2 ^ 20 then none else
     pure (.buildSlice len ((List.range (len*s)).map fun j=>z.getD (j % z.length) undef) (parts.toList.map fun x=>(x.1*s,s,x.2)))
   | _=>none
 | .load t a=>do
   let p <-Rx P t
   if p then (PZ P t).map (.loadN · a) else some (.load1 a)
 | .store t a x=>(PZ P t).map (.store · a x)
 | .nilCheck x=>some (.nilCheck x)
 | .binOp op t x y _=>
   match P.underlying t with
   | some (.int _) | some .string=>some (.bin op x y)
   | _=>match op with
     | .eql=>(U1 P t).map (.eqv false · x y)
     | .neq=>(U1 P t).map (.eqv true · x y)
     | _=>none
 | .unOp op _ x=>some (.un op x)
 | .convert s d x=>
   match P.underlying s,P.underlying d with
   | some (.int _),some (.int k)=>some (.conv k x)
   | _,_=>none
 | .makeFunc (.func f) first captured=>some (.makeFunc f first.toList captured.toList)
 | .makeMap t x=>match P.underlying t with
   | some (.map _ _)=>some (.makeMap x)
   | _=>none
 | .makeSlice t l c=>do
   match P.underlying t with
   | some (.slice e)=>do
     let s <-PZ P e;let b <-Zn P e;let z <-zeroOf P e
     if z.length≠s\/s=0 then none else pure (.makeSlice s b z l c)
   | _=>none
 | .slice t x lo hi mx=>do
   match P.underlying t with
   | some (.slice e)=>do
     let s <-PZ P e
     if s=0 then none else pure (.sliceS s x lo hi mx)
   | some (.array n e)=>do
     let s <-PZ P e
     if s=0 then none else pure (.sliceA n s x lo hi mx)
   | _=>none
 | .fieldAddr s x f=>do
   match P.underlying s with
   | some (.struct fs)=>do
     let fd <-fs[f]?;let n <-PZ P fd.type
     if n=0 then none else pure (.fieldAddr fd.offset x)
   | _=>none
 | .indexAddr t x i=>do
   match P.underlying t with
   | some (.slice e)=>do
     let s <-PZ P e
     pure (.idxAddrS s x i)
   | some (.array n e)=>do
     let s <-PZ P e
     pure (.idxAddrA n s x i)
   | _=>none
 | .index t x i=>do
   match P.underlying t with
   | some (.array n e)=>do
     let s <-PZ P e;let p <-Rx P e
     pure (.idxA n s p x i)
   | _=>none
 | .lookup t m k ok=>do
   match P.underlying t with
   | some (.map kt e)=>do
     let z <-Ndj P e;let kk <-TG P kt
     pure (.lookup kk z ok m k)
   | _=>none
 | .mapUpdate t m k x | .insert t m k x=>do
   match P.underlying t with
   | some (.map kt _)=>(TG P kt).map fun kk=>.mapUpdate kk m k x
   | _=>none
 | .extract x i=>some (.extract i x)
 | .call c=>do
   match c.callee with
   | .value f=>pure (.call (if h&&(match f with | .func g=>pureF g | _=>!(N99 P o.type)) then .pure else .any) f c.args.toList)
   | .builtin .len=>match c.args.toList,c.argTypes.toList with
     | [x],[t]=>match P.underlying t with
       | some (.slice _)=>some (.lenSlice x)
       | _=>none
     | _,_=>none
   | .builtin .cap=>match c.args.toList,c.argTypes.toList with
     | [x],[t]=>match P.underlying t with
       | some (.slice _)=>some (.capSlice x)
       | _=>none
     | _,_=>none
   | .builtin .append=>match c.args.toList,c.argTypes.toList with
     | [s,x],[st,xt]=>match P.underlying st,P.underlying xt with
       | some (.slice e),some (.slice _)=>do
         let n <-PZ P e;let b <-Zn P e;let z <-zeroOf P e
         if z.length=n then pure (.append n b false s x) else none
       | _,_=>none
     | _,_=>none
   | .builtin .clear=>match c.args.toList,c.argTypes.toList with
     | [x],t::_=>match P.underlying t with
       | some (.slice e)=>(zeroOf P e).map (.clear · x)
       | _=>none
     | _,_=>none
   | .builtin .min=>some (.minmax false c.args.toList)
   | .builtin .max=>some (.minmax true c.args.toList)
   | _=>none
 | _=>none
inductive Kind where
 | p | r | a | w | c | n | s
 deriving DecidableEq,Inhabited
def kind:AOp->Kind
 | .mov _ | .pick .. | .bin .. | .eqv .. | .un .. | .conv .. | .build .. | .nilCheck _ | .fieldAddr .. | .field1 .. | .fieldN .. | .idxAddrA .. | .idxAddrS ..
 | .idxA .. | .idxStr .. | .sliceS .. | .sliceA .. | .sliceStr .. | .lenStr _ | .lenSlice _ | .capSlice _ | .lenK _ | .minmax .. | .makeFunc .. | .extract .. | .strId _ | .die _=>.p
 | .load1 _ | .loadN .. | .lenMap _ | .lookup .. | .b2s _ | .rowMark _ | .loadR .. | .loadO ..=>.r
 | .alloc _ | .box _ | .buildSlice .. | .makeSlice .. | .growNil .. | .makeMap _=>.a
 | .store .. | .storeO .. | .append .. | .appendL .. | .copy .. | .mapUpdate .. | .delete .. | .clear ..=>.w
 | .append0 ..=>.n
 | .storeD ..=>.s
 | .call mp ..=>if mp.isPure then .r else .c
def makes:AOp->Bool
 | .append .. | .append0 .. | .appendL ..=>true
 | o=>kind o=.a
def waits (ops:Array Oper):Nat->Nat->Nat->Bool
 | 0,_,_=>false
 | n+1,x,a=>match ops[x]? with
   | some o=>o.after.toList.any fun e=>Region.binds .any e&&(e.on == a||waits ops n e.on a)
   | none=>false
def conflict (k l:Kind):Bool:=
 match k,l with
 | .p,_ | _,.p=>false
 | .s,_ | _,.s=>false
 | .c,.a | .a,.c=>false
 | .c,_ | _,.c=>true
 | .a,_ | _,.a=>false
 | .w,_ | _,.w=>true
 | .r,.r | .n,.n | .n,.r | .r,.n=>false
def YD:AOp->Bool
 | .storeD ..=>true
 | _=>false
def AIns.made (i:AIns):Option Nat:=if YD i.op then none else i.dest
def QH (l:List AOp):List (Option Nat):=
 go 0 l
where
 go (n:Nat):List AOp->List (Option Nat)
  | []=>[]
  | o::l=>if makes o then some n::go (n+1) l else none::go n l
def MK (ops:Array Oper):Option (Nat×Bool)->Option (Option (Nat×Bool))
 | none=>some none
 | some (j,b)=>match (ops[j]?).bind (·.dst) with
   | some t=>some (some (t,b))
   | none=>none
def Nsm (b:Bool) (ops:Array Oper) (o:Oper):Option AIns:=do
 let a <-Na8 P pureF b o;let g <-MK ops o.guard
 pure { dst:=o.dst,guard:=g,op:=a }
def N4t (o:Oper):Option (Operand×Nat):=
 if !(o.op.operands.toList.all QB) then none else
 match o.op with
 | .range t x=>match P.underlying t with
   | some (.map _ _)=>some (x,1)
   | _=>none
 | .next b a=>if a then none else some (b,2)
 | .entry b=>some (b,3)
 | _=>none
def YJ (ops:Array Oper) (o:Oper):Option AIns:=
 match Nsm P pureF false ops o with
 | some i=>some i
 | none=>do
   let a <-N4t P o;let g <-MK ops o.guard
   pure { dst:=o.dst,guard:=g,op:=.mov a.1,dest:=some a.2 }
def AIns.looks (i:AIns):List Nat:=
 (i.op.operands.filterMap fun | .tmp t=>some t | _=>none)++(match i.guard with | some (t,_)=>[t] | none=>[])
def Nb6 (x y:AIns):Bool:=
 (match x.dst with
  | some d=>!y.looks.contains d&&y.dst != some d
  | none=>true) &&
 (match y.dst with
  | some d=>!x.looks.contains d
  | none=>true)
def isL:AOp->Bool
 | .appendL ..=>true
 | _=>false
def isLoad:AOp->Bool
 | .load1 _ | .loadN ..=>true
 | _=>false
def isRead:AOp->Bool
 | .load1 _ | .loadN .. | .lenMap _ | .lookup .. | .b2s _=>true
 | _=>false
def N6b:AOp->Bool
 | .call .mk ..=>true
 | _=>false
def isMaps:AOp->Bool
 | .call .maps ..=>true
 | _=>false
def ZF:AOp->Bool
 | .loadR ..=>true
 | _=>false
def isRecs:AOp->Bool
 | .call .recs ..=>true
 | _=>false
def isO (a b:AOp):Bool:=match a,b with
 | .loadO _ _ (.tmp s),.storeO _ _ _ (.tmp t)=>s == t
 | _,_=>false
def calm (a b:AOp):Bool:=!conflict (kind a) (kind b)||(isL a&&isLoad b)||(isRead a&&N6b b)||(isLoad a&&isMaps b)||(ZF a&&isRecs b)||isO a b
def Np2 (ops:Array Oper) (l:List AIns) (i j:Nat):Bool:=
 waits ops ops.size i j ||
  match l[i]?,l[j]? with
  | some a,some b=>Nb6 b a&&calm b.op a.op
  | _,_=>false
def Nsy (ops:Array Oper):List Nat->List Nat->Bool
 | _,[]=>true
 | A,i::B=>(match ops[i]? with
   | some o=>o.after.toList.all fun e=>!Region.binds .any e||A.contains e.on
   | none=>true)&&Nsy ops (A++[i]) B
def Ndk (ops:Array Oper) (l:List AIns):List Nat->List Nat->Bool
 | _,[]=>true
 | A,i::B=>(A.all fun j=>Np2 ops l i j)&&Ndk ops l (A++[i]) B
def nodupB:List Nat->Bool
 | []=>true
 | x::l=>!l.contains x&&nodupB l
def Ny8 (n:Nat) (ord:List Nat):Bool:=(ord.all (·<n))&&((List.range n).all fun i=>ord.contains i)&&nodupB ord
def Odj (l:List AIns) (b:List (Option Nat)) (i:AIns):Option Nat:=
 match i.op with
 | .storeD _ (.tmp t) _=>match (List.range l.length).find? fun k=>match l[k]? with
   | some a=>a.dst == some t&&(match a.op with | .alloc _=>true | _=>false)
   | none=>false with
   | some k=>b.getD k none
   | none=>none
 | _=>none
def Rt (ops:Array Oper) (b:List (Option Nat)) (j:Nat) (i:AIns):AIns:=
 { i with dest:=b.getD j none,mask:=if kind i.op=.r\/kind i.op=.w\/kind i.op=.n\/kind i.op=.c then
     ((List.range b.length).filterMap fun a=>if a≠j/\!waits ops ops.size j a then b.getD a none else none) else [] }
def ZQ:AOp->AOp
 | .append0 e b s x y=>.append e b s x y
 | .appendL e b s x y=>.append e b s x y
 | .storeD n a x=>.store n a x
 | .loadR none x=>.load1 x
 | .loadR (some n) x=>.loadN n x
 | .loadO none x _=>.load1 x
 | .loadO (some n) x _=>.loadN n x
 | .storeO n a x _=>.store n a x
 | o=>o
def isNone:AOp->Bool
 | .buildSlice 0 _ _=>true
 | _=>false
def fresh (l:List AIns) (i:AIns):AIns:=
 match i.op with
 | .append e b s (.tmp t) y=>if l.any (fun j=>j.dst == some t&&isNone j.op) then { i with op:=.append0 e b s (.tmp t) y } else i
 | _=>i
def late (ops:Array Oper) (l:List AIns):Option Nat:=
 (List.range l.length).find? fun k=>match l[k]? with
  | some a=>(match a.op with | .append ..=>true | _=>false)&&(List.range l.length).any fun j=>j != k&&(match l[j]? with | some b=>isLoad b.op | none=>false)&&!waits ops ops.size j k&&!waits ops ops.size k j
  | none=>false
def toL (i:AIns):AIns:=match i.op with
 | .append e b s x y=>{ i with op:=.appendL e b s x y }
 | _=>i
def toS (l:List AIns) (i:AIns):AIns:=match i.op with
 | .store n (.tmp t) x=>if l.any (fun j=>j.dst == some t&&(match j.op with | .alloc _=>true | _=>false)) then { i with op:=.storeD n (.tmp t) x } else i
 | _=>i
def YQ (st:Bool) (l:List AIns) (i:AIns):AIns:=if st then toS l (fresh l i) else fresh l i
def Ned (l:List AIns) (a:List (Option Nat)) (i:AIns):AIns:=if YD i.op then { i with dest:=Odj l a i } else i
def Oca (ops:Array Oper) (L:List AIns):Bool:=
 (List.range L.length).all fun i=>match L[i]? with
  | some x=>!(YD x.op)||(List.range L.length).all fun j=>i == j||waits ops ops.size i j||waits ops ops.size j i ||
    match x.dest,L[j]? with
    | some r,some y=>y.dest != some r&&(y.mask.contains r||kind y.op == .p||kind y.op == .a||kind y.op == .s)
    | _,_=>true
  | none=>true
def N12 (L:List AIns) (n:Nat):Bool:=L.all fun x=>!(YD x.op)||match x.dest with
 | some r=>decide (r<n)
 | none=>false
def MC (ops:Array Oper) (l:List AIns) (k:Nat):Bool:=
 (List.range l.length).any fun j=>j != k&&(match l[j]? with | some b=>isRead b.op | none=>false)&&!waits ops ops.size j k&&!waits ops ops.size k j
def codeAny (p:Oper->Bool):Code->Bool
 | .region _ ops _=>ops.any p
 | .seq a b=>codeAny p a||codeAny p b
 | .cond _ a b=>codeAny p a||codeAny p b
 | .block _ b=>codeAny p b
 | .loop b=>codeAny p b
 | _=>false
def mapsIn:Nat->FuncId->Bool
 | 0,_=>false
 | n+1,g=>match P.funcs[g]? with
   | some fn=>match fn.body with
     | some b=>codeAny (fun o=>match o.op with
       | .mapUpdate .. | .insert ..=>true
       | .call c=>match c.callee with
         | .value (.func g')=>mapsIn n g'
         | _=>false
       | _=>false) b
     | none=>false
   | none=>false
def No7 (i:AIns):AIns:=match i.op with
 | .call .any (.func g) as=>if mapsIn P 3 g then { i with op:=.call .maps (.func g) as } else { i with op:=.call .mk (.func g) as }
 | .call .any f as=>{ i with op:=.call .mk f as }
 | _=>i
def Ngb (ops:Array Oper) (l:List AIns) (k:Nat):Bool:=
 (List.range l.length).any fun j=>j != k&&(match l[j]? with | some b=>(match b.op with | .call .any ..=>true | _=>false) | none=>false)&&!waits ops ops.size j k&&!waits ops ops.size k j
def Nl1 (l:List AIns):Bool:=(l.all fun i=>!makes i.op)&&l.any fun i=>match i.op with | .store ..=>true | _=>false
def N3c (l:List AIns):Operand->Option Operand
 | .tmp a=>match l.find? fun j=>j.dst == some a with
   | some j=>match j.op with
     | .fieldAddr _ (.tmp t)=>some (.tmp t)
     | _=>none
   | none=>none
 | _=>none
def N89 (ops:Array Oper) (j k:Nat):Bool:=j != k&&!waits ops ops.size j k&&!waits ops ops.size k j
def Nc6 (ops:Array Oper) (l:List AIns) (k:Nat):Option Operand:=
 match (List.range l.length).find? fun j=>(match l[j]? with | some b=>(match b.op with | .store ..=>true | _=>false) | none=>false)&&N89 ops j k with
 | some j=>match l[j]? with
   | some b=>match b.op with
     | .store _ a _=>N3c l a
     | _=>none
   | none=>none
 | none=>none
def Nr5 (ops:Array Oper) (l:List AIns) (k:Nat):Bool:=
 (List.range l.length).any fun j=>(match l[j]? with | some b=>(match b.op with | .load1 .. | .loadN ..=>true | _=>false) | none=>false)&&N89 ops j k
def Nlf (ops:Array Oper) (l:List AIns) (k:Nat) (i:AIns):AIns:=match i.op with
 | .call .any f as=>if MC ops l k then { i with op:=.call .recs f as } else i
 | .load1 x=>if Ngb ops l k then { i with op:=.loadR none x } else match Nc6 ops l k with
   | some b=>{ i with op:=.loadO none x b }
   | none=>i
 | .loadN n x=>if Ngb ops l k then { i with op:=.loadR (some n) x } else match Nc6 ops l k with
   | some b=>{ i with op:=.loadO (some n) x b }
   | none=>i
 | .store n a x=>if Nr5 ops l k then match N3c l a with
   | some b=>{ i with op:=.storeO n a x b }
   | none=>i
   else i
 | _=>i
def mks (l:List AIns):List Nat:=(List.range l.length).filter fun k=>match l[k]? with | some a=>N6b a.op||isMaps a.op||isRecs a.op | none=>false
def Nng (key:Nat->Nat) (j:Nat):List Nat->List Nat
 | []=>[j]
 | i::l=>if key j<key i then j::i::l else i::Nng key j l
def N7u (ops:Array Oper) (n:Nat) (ms:List Nat):Option Nat->List Nat
 | some k=>(List.range n).filter (fun j=>j == k||waits ops ops.size k j)++(List.range n).filter (fun j=>!(j == k||waits ops ops.size k j))
 | none=>match ms with
   | []=>List.range n
   | _=>
     let key:=fun j=>2*(ms.filter fun m=>waits ops ops.size j m).length+(if ms.contains j then 1 else 0)
     (List.range n).foldl (fun l j=>Nng key j l) []
def Xn (st:Bool) (ops:Array Oper):Option ACode:=do
 let d <-ops.toList.mapM (Nsm P pureF true ops);let e:=d.map (YQ st d);let k:=late ops e;let a:=e.zipIdx.map fun (i,j)=>if k=some j then toL i else i
 let l:=a.zipIdx.map fun (i,j)=>if Nl1 a then Nlf ops a j i else if MC ops a j then No7 P i else i
 let ord:=N7u ops l.length (mks l) k;let b:=QH (l.map (·.op));let c:=l.zipIdx.map fun (i,j)=>Ned l b (Rt ops b j i)
 if Ny8 ops.size ord&&Nsy ops [] ord&&Ndk ops l [] ord&&d.all (fun i=>!YD i.op)&&Oca ops c&&N12 c (b.filterMap id).length then
  pure (.drawn (b.filterMap id).length (ord.map fun j=>c.getD j default))
 else none
def VS (ops:Array Oper):Option ACode:=match Xn P pureF false ops with
 | some c=>some c
 | none=>Xn P pureF true ops
def XM:Code->Option ACode
 | .skip=>some .skip
 | .region _ ops d=>
   if d then VS P pureF ops
   else do
    let l <-ops.toList.mapM (YJ P pureF ops)
    pure (.ops l)
 | .seq a b=>do pure (.seq (<-XM a) (<-XM b))
 | .cond c a b=>do if QB c then pure (.cond c (<-XM a) (<-XM b)) else none
 | .block id b=>do pure (.block id (<-XM b))
 | .loop b=>do pure (.loop (<-XM b))
 | .exit id=>some (.exit id)
 | .ret=>some .ret
 | _=>none
def MJ:ResultVar->Option ARes
 | .tmp t=>some (.tmp t)
 | .cell a t=>do
   let n <-PZ P t;let b <-Rx P t
   if b then pure (.cellN n a) else pure (.cell1 a)
def TF:Code->Option ACode
 | .skip=>some .skip
 | .region _ ops d=>
   if d then VS P pureF ops
   else do
    let l <-ops.toList.mapM (YJ P pureF ops)
    pure (.ops l)
 | .seq a b=>do pure (.seq (<-TF a) (<-TF b))
 | .cond c a b=>do if QB c then pure (.cond c (<-TF a) (<-TF b)) else none
 | .block id b=>do pure (.block id (<-TF b))
 | .loop b=>do pure (.loop (<-TF b))
 | .exit id=>some (.exitR id)
 | .ret=>some .retR
 | _=>none
def Uv:Code->Option ACode
 | .skip=>some .skip
 | .region _ ops d=>
   if d then VS P pureF ops
   else do
    let l <-ops.toList.mapM (YJ P pureF ops)
    pure (.ops l)
 | .seq a b=>do pure (.seq (<-Uv a) (<-Uv b))
 | .cond c a b=>do if QB c then pure (.cond c (<-Uv a) (<-Uv b)) else none
 | .block id b=>do pure (.block id (<-Uv b))
 | .loop b=>do pure (.loop (<-Uv b))
 | .exit id=>some (.exit id)
 | .ret=>some .retM
 | .rangeFunc f ps a b=>do if QB f then pure (.rangeF f ps.toList (<-TF P pureF a) (<-TF P pureF b)) else none
 | _=>none
def Nsn (f:FuncId):Option AFunc:=do
 let fn <-P.funcs[f]?;let b <-fn.body;let c <-XM P pureF b;let rs <-fn.results.toList.mapM (MJ P)
 if fn.name == "runtime.NumGoroutine" then none else
 pure { ntmps:=fn.ntmps,results:=rs,body:=c }
def Nso (f:FuncId):Option AFunc:=do
 let fn <-P.funcs[f]?;let b <-fn.body;let c <-Uv P pureF b;let rs <-fn.results.toList.mapM (MJ P)
 if fn.name == "runtime.NumGoroutine" then none else
 pure { ntmps:=fn.ntmps,results:=rs,body:=.seq c .retM }
def Um (f:FuncId):Option AFunc:=
 match Nsn P pureF f with
 | some a=>some a
 | none=>Nso P pureF f
structure Loc where
 blk:Nat
 base:Nat
 room:Nat
abbrev PO:=Nat->Option Loc
inductive VRel (σ:PO):Value->Value->Prop
 | atom {v} (h:atom v=true):VRel σ v v
 | ptr {i k L} (h:σ i=some L):VRel σ (.pointer (some ⟨i,k,none⟩)) (.pointer (some ⟨L.blk,L.base+k,none⟩))
 | slice {i k L n c} (h:σ i=some L) (hc:c<2 ^ 62):VRel σ (.slice (some ⟨i,k,none⟩) n c) (.slice (some ⟨L.blk,L.base+k,none⟩) n c)
 | lslice {i k L n e c} (h:σ i=some L) (hn:n<=c) (hr:k+c*e<=L.room) :
   VRel σ (.slice (some ⟨i,k,none⟩) n (loose e)) (.slice (some ⟨L.blk,L.base+k,none⟩) n c)
 | eslice {i k L c a} (h:σ i=some L) (hc:c=0\/∃e,c=loose e):VRel σ (.slice (some ⟨i,k,none⟩) 0 c) (.slice (some a) 0 0)
 | map {i L} (h:σ i=some L):VRel σ (.map (some i)) (.map (some L.blk))
 | func {f:FuncId} {a b c d:Array Value} (h1:a.size=c.size) (h2:b.size=d.size)
   (k1:∀i (h:i<a.size) (h':i<c.size),VRel σ a[i] c[i]) (k2:∀i (h:i<b.size) (h':i<d.size),VRel σ b[i] d[i]) :
   VRel σ (.func (.func f) a b) (.func (.func f) c d)
 | yld {i L} (h:σ i=some L):VRel σ (.func (.yield i) #[] #[]) (.func (.yield L.blk) #[] #[])
 | agg {xs ys:Array Value} (h:xs.size=ys.size) (k:∀i (h:i<xs.size) (h':i<ys.size),VRel σ xs[i] ys[i]) (o:∀i (h:i<ys.size),ys[i].oneCell'=true):VRel σ (.agg xs) (.agg ys)
 | tuple {xs ys:Array Value} (h:xs.size=ys.size) (k:∀i (h:i<xs.size) (h':i<ys.size),VRel σ xs[i] ys[i]):VRel σ (.tuple xs) (.tuple ys)
def OV (σ:PO) (xs ys:List Value):Prop:=xs.length=ys.length/\∀(i:Nat) x y,xs[i]? = some x->ys[i]? = some y->VRel σ x y
def PO.le (σ τ:PO):Prop:=∀i L,σ i=some L->τ i=some L
theorem PO.le_refl (σ:PO):PO.le σ σ:=fun _ _ h=>h
theorem PO.le_trans {a b c:PO} (h:PO.le a b) (k:PO.le b c):PO.le a c:=fun i L hi=>k i L (h i L hi)
variable {σ τ:PO} {v:Value}
theorem VRel.mono (a:PO.le σ τ) (h:VRel σ v v'):VRel τ v v':=by
 induction h with
 | atom h=>exact .atom h
 | ptr h=>exact .ptr (a _ _ h)
 | slice h hc=>exact .slice (a _ _ h) hc
 | lslice h hn hr=>exact .lslice (a _ _ h) hn hr
 | eslice h hc=>exact .eslice (a _ _ h) hc
 | map h=>exact .map (a _ _ h)
 | yld h=>exact .yld (a _ _ h)
 | func h1 h2 _ _ k1 k2=>exact .func h1 h2 k1 k2
 | agg h k o ih=>exact .agg h ih o
 | tuple h k ih=>exact .tuple h ih
theorem OV.mono (a:PO.le σ τ) {v v':List Value} (h:OV σ v v'):OV τ v v':=⟨h.1,fun i x y b c=>(h.2 i x y b c).mono a⟩
theorem OV.nil:OV σ [] []:=⟨rfl,fun i x y h=>by simp at h⟩
theorem OV.cons {xs:List Value} (h:VRel σ x y) (k:OV σ xs ys):OV σ (x::xs) (y::ys):=by
 refine ⟨by simp [k.1],fun i a b c d=>?_⟩;cases i with
 | zero=>simp at c d;subst c d;exact h
 | succ i=>simp at c d;exact k.2 i a b c d
theorem OV.head {xs:List Value} (h:OV σ (x::xs) (y::ys)):VRel σ x y:=h.2 0 x y rfl rfl
theorem OV.tail {xs:List Value} (h:OV σ (x::xs) (y::ys)):OV σ xs ys:=
 ⟨by have:=h.1;simp at this;exact this,fun i a b c d=>h.2 (i+1) a b (by simpa using c) (by simpa using d)⟩
variable {a:List Value}
theorem OV.append {c d:List Value} (h:OV σ a c) (k:OV σ b d):OV σ (a++b) (c++d):=by
 refine ⟨by simp [h.1,k.1],fun i x y e f=>?_⟩;by_cases hi:i<a.length
 ·rw [Oa hi] at e;rw [Oa (by rw [<-h.1];exact hi)] at f;exact h.2 i x y e f
 ·rw [Oi (by omega)] at e;rw [Oi (by rw [<-h.1];omega),<-h.1] at f;exact k.2 _ x y e f
theorem OV.drop (h:OV σ a b) (n:Nat):OV σ (a.drop n) (b.drop n):=
 ⟨by simp [h.1],fun i x y c d=>h.2 (n+i) x y (by simpa using c) (by simpa using d)⟩
theorem OV.take (h:OV σ a b) (n:Nat):OV σ (a.take n) (b.take n):=by
 refine ⟨by simp [h.1],fun i x y c d=>?_⟩;simp only [Qc] at c d;split at c
 ·rename_i hi;rw [Nl hi] at d;exact h.2 i x y c d
 ·cases c
theorem OV.get (h:OV σ a b) {i:Nat} (d:a[i]? = some x):∃y,b[i]? = some y/\VRel σ x y:=by
 have hi:i<a.length:=(List.getElem?_eq_some_iff.1 d).1;have c:b[i]? = some (b[i]'(by rw [<-h.1];exact hi)):=Ni _;exact ⟨_,c,h.2 i _ _ d c⟩
theorem OV.refl_of (h:∀x∈a,VRel σ x x):OV σ a a:=
 ⟨rfl,fun i x y b c=>by rw [b] at c;cases c;exact h x (Oh b)⟩
theorem OV.atoms (h:a.all atom=true):OV σ a a:=OV.refl_of fun x b=>.atom (N7.1 h x b)
theorem OV.set (h:OV σ a b) (k:VRel σ x y) (n:Nat):OV σ (a.set n x) (b.set n y):=by
 refine ⟨by simp [h.1],fun i u v c d=>?_⟩;rw [Ob] at c d;by_cases hn:n=i
 ·subst hn;rw [Nl rfl] at c d;split at c
  ·split at d
   ·cases c;cases d;exact k
   ·cases d
  ·cases c
 ·rw [Ng hn] at c d;exact h.2 i u v c d
theorem OV.map (l:List α) (f g:α->Value) (h:∀x∈l,VRel σ (f x) (g x)):OV σ (l.map f) (l.map g):=by
 refine ⟨by simp,fun i u v e j=>?_⟩;simp only [Pk,Nd] at e j;obtain ⟨a,c,rfl⟩:=e;obtain ⟨b,d,rfl⟩:=j;rw [c] at d;cases d;exact h a (Oh c)
theorem VRel.agg_iff {ys:Array Value}:VRel σ (.agg xs) (.agg ys)↔OV σ xs.toList ys.toList/\∀y∈ys.toList,y.oneCell'=true:=by
 constructor
 ·intro h;cases h with
  | atom h=>simp [AM.atom] at h
  | agg h k o=>
    refine ⟨⟨by simpa using h,fun i x y b a=>?_⟩,fun y a=>?_⟩
    ·simp only [Array.getElem?_toList] at b a;obtain ⟨hi,rfl⟩:=Array.getElem?_eq_some_iff.1 b;obtain ⟨c,rfl⟩:=Array.getElem?_eq_some_iff.1 a;exact k i hi c
    ·obtain ⟨i,hi,rfl⟩:=Array.mem_iff_getElem.1 (Array.mem_toList_iff.1 a);exact o i hi
 ·rintro ⟨h,k⟩;refine .agg (by simpa using h.1) (fun i h1 h2=>h.2 i _ _ (by simp [h1]) (by simp [h2])) (fun i h1=>k _ (by simp))
theorem VRel.tuple_iff {ys:Array Value}:VRel σ (.tuple xs) (.tuple ys)↔OV σ xs.toList ys.toList:=by
 constructor
 ·intro h;cases h with
  | atom h=>
    have c:xs=#[]:=by simpa [AM.atom] using h
    subst c;exact OV.nil
  | tuple h k=>
    refine ⟨by simpa using h,fun i x y a b=>?_⟩;simp only [Array.getElem?_toList] at a b;obtain ⟨hi,rfl⟩:=Array.getElem?_eq_some_iff.1 a;obtain ⟨d,rfl⟩:=Array.getElem?_eq_some_iff.1 b;exact k i hi d
 ·intro h;exact .tuple (by simpa using h.1) fun i h1 h2=>h.2 i _ _ (by simp [h1]) (by simp [h2])
theorem VRel.agg_left (h:VRel σ (.agg xs) v):∃ys,v=.agg ys/\OV σ xs.toList ys.toList/\∀y∈ys.toList,y.oneCell'=true:=by
 cases h with
 | atom h=>simp [AM.atom] at h
 | agg h k o=>exact ⟨_,rfl,VRel.agg_iff.1 (.agg h k o)⟩
theorem VRel.tuple_left (h:VRel σ (.tuple xs) v):∃ys,v=.tuple ys/\OV σ xs.toList ys.toList:=by
 cases h with
 | atom h=>exact ⟨_,rfl,VRel.tuple_iff.1 (.atom h)⟩
 | tuple h k=>exact ⟨_,rfl,VRel.tuple_iff.1 (.tuple h k)⟩
theorem VRel.int_left {k:IntKind} {n:Int} (h:VRel σ (.int k n) v):v=.int k n:=by cases h;rfl
theorem VRel.bool_left {b:Bool} (h:VRel σ (.bool b) v):v=.bool b:=by cases h;rfl
theorem VRel.string_left {b:ByteArray} (h:VRel σ (.string b) v):v=.string b:=by cases h;rfl
theorem VRel.nilptr_left (h:VRel σ (.pointer none) v):v=.pointer none:=by cases h;rfl
theorem VRel.nilmap_left (h:VRel σ (.map none) v):v=.map none:=by cases h;rfl
theorem VRel.nilfunc_left (h:VRel σ .nilFunc v):v=.nilFunc:=by cases h;rfl
variable {n c:Nat}
theorem VRel.nilslice_left (h:VRel σ (.slice none n c) v):n=0/\c=0/\v=.slice none 0 0:=by
 cases h with
 | atom h=>
   have a:n=0/\c=0:=by simpa [AM.atom] using h
   obtain ⟨rfl,rfl⟩:=a;exact ⟨rfl,rfl,rfl⟩
theorem VRel.ptr_left {p:Addr} (h:VRel σ (.pointer (some p)) v):∃L,σ p.block=some L/\p.spot=none/\v=.pointer (some ⟨L.blk,L.base+p.off,none⟩):=by
 cases h with
 | atom h=>simp [AM.atom] at h
 | ptr h=>exact ⟨_,h,rfl,rfl⟩
theorem VRel.map_left {r:Nat} (h:VRel σ (.map (some r)) v):∃L,σ r=some L/\v=.map (some L.blk):=by
 cases h with
 | atom h=>simp [AM.atom] at h
 | map h=>exact ⟨_,h,rfl⟩
theorem VRel.func_left {f:FuncId} {a b:Array Value} (h:VRel σ (.func (.func f) a b) v):∃c d,v=.func (.func f) c d/\OV σ a.toList c.toList/\OV σ b.toList d.toList:=by
 have key:∀{x y:Array Value},x.size=y.size->(∀i (h:i<x.size) (h':i<y.size),VRel σ x[i] y[i])->OV σ x.toList y.toList:=by
  intro x y h k;exact VRel.tuple_iff.1 (.tuple h k)
 cases h with
 | atom h=>
   have e:a=#[]/\b=#[]:=by simpa [AM.atom] using h
   obtain ⟨rfl,rfl⟩:=e;exact ⟨_,_,rfl,OV.nil,OV.nil⟩
 | func h1 h2 k1 k2=>exact ⟨_,_,rfl,key h1 k1,key h2 k2⟩
theorem VRel.slice_left {p:Addr} (h:VRel σ (.slice (some p) n c) v):p.spot=none/\∃L,σ p.block=some L/\
  ((c<2 ^ 62/\v=.slice (some ⟨L.blk,L.base+p.off,none⟩) n c)\/
   (∃e,c=loose e/\∃c',n<=c'/\p.off+c'*e<=L.room/\v=.slice (some ⟨L.blk,L.base+p.off,none⟩) n c')\/
   (∃a,(c=0\/∃e,c=loose e)/\n=0/\v=.slice (some a) 0 0)):=by
 cases h with
 | atom h=>simp [AM.atom] at h
 | slice h hc=>exact ⟨rfl,_,h,.inl ⟨hc,rfl⟩⟩
 | lslice h hn hr=>exact ⟨rfl,_,h,.inr (.inl ⟨_,rfl,_,hn,hr,rfl⟩)⟩
 | eslice h hc=>exact ⟨rfl,_,h,.inr (.inr ⟨_,hc,rfl,rfl⟩)⟩
variable {L:Loc}
theorem VRel.slice' {a:Addr} (hs:a.spot=none) (hL:σ a.block=some L) (hc:c<2 ^ 62):VRel σ (.slice (some a) n c) (.slice (some ⟨L.blk,L.base+a.off,none⟩) n c):=by
 obtain ⟨b,o,s⟩:=a;simp only at hs;subst hs;exact .slice hL hc
theorem VRel.eslice' {a b:Addr} (hs:a.spot=none) (hL:σ a.block=some L) (hc:c=0\/∃e,c=AM.loose e):VRel σ (.slice (some a) 0 c) (.slice (some b) 0 0):=by
 obtain ⟨b,o,s⟩:=a;simp only at hs;subst hs;exact .eslice hL hc
theorem VRel.cells {v':Value} (h:VRel σ v v'):OV σ v.cells.toList v'.cells.toList:=by
 cases h with
 | agg h k o=>exact (VRel.agg_iff.1 (.agg h k o)).1
 | atom h=>
   cases v<;>first | exact OV.cons (.atom h) OV.nil | (simp [AM.atom] at h)
 | ptr h=>exact OV.cons (.ptr h) OV.nil
 | slice h hc=>exact OV.cons (.slice h hc) OV.nil
 | lslice h hn hr=>exact OV.cons (.lslice h hn hr) OV.nil
 | eslice h hc=>exact OV.cons (.eslice h hc) OV.nil
 | map h=>exact OV.cons (.map h) OV.nil
 | yld h=>exact OV.cons (.yld h) OV.nil
 | func h1 h2 k1 k2=>exact OV.cons (.func h1 h2 k1 k2) OV.nil
 | tuple h k=>exact OV.cons (.tuple h k) OV.nil
theorem VRel.cells_one {v':Value} (h:VRel σ v v') (b:NB v=true):∀x∈v'.cells.toList,x.oneCell'=true:=by
 intro x a;cases h with
 | agg h k o=>exact (VRel.agg_iff.1 (.agg h k o)).2 x a
 | atom h=>cases v<;>first | (simp [NB] at b;done) | (simp [Value.cells] at a;subst a;rfl) | (simp [AM.atom] at h;done)
 | tuple h k=>simp [NB] at b
 | _=>simp [Value.cells] at a;subst a;rfl
def owned:Blk->Bool
 | .dead=>false
 | .cells ro _=>!ro
 | _=>true
def alive:Blk->Bool
 | .dead=>false
 | _=>true
def N7o (fz:Nat×Nat) (n:Nat):Prop:=fz.1=fz.2\/n<=fz.1
theorem N7o.ok (h:N7o fz n) (o:Nat) (ho:o<n):¬(fz.1<=o/\o<fz.2):=by
 rcases h with h | h<;>omega
structure Prg where
 P:Program
 pf:FuncId->Bool
def Ob8:Nat->LoopState
 | 0=>.ready
 | 1=>.busy
 | _=>.done
structure LoopRel (Pg:Prg) (σ:PO) (x:LoopB) (lp:Loop):Prop where
 st:lp.state=Ob8 x.st
 pend:match x.pend with
  | none=>lp.pending=none
  | some c=>∃C,lp.pending=some C/\Uv Pg.P Pg.pf C=some c
 size:x.N<=lp.tmps.size
 val:∀t,VRel σ (x.fr t) (lp.tmps.getD t undef)
 params:lp.params.toList=x.params
 assign:TF Pg.P Pg.pf lp.assign=some x.assign
 body:TF Pg.P Pg.pf lp.body=some x.body
variable {Pg:Prg}
theorem LoopRel.mono (a:PO.le σ τ) {x:LoopB} {lp:Loop} (h:LoopRel Pg σ x lp):LoopRel Pg τ x lp:=
 ⟨h.st,h.pend,h.size,fun t=>(h.val t).mono a,h.params,h.assign,h.body⟩
def Nse (n clock:Nat) (ents:Array MapEntry):Prop:=clock=n/\∀(j:Nat) e,ents[j]? = some e->e.born=j
def Ndv (σ:PO) (m a:Option Nat):Prop:=match m with
 | none=>a=none
 | some r=>∃L,σ r=some L/\a=some L.blk
theorem Ndv.mono (a:PO.le σ τ) {m m':Option Nat} (h:Ndv σ m m'):Ndv τ m m':=by
 cases m with
 | none=>exact h
 | some r=>obtain ⟨L,h1,h2⟩:=h;exact ⟨L,a _ _ h1,h2⟩
def UV (Pg:Prg) (σ:PO) (w:World) (L:Loc):Blk->Prop
 | .dead=>True
 | .cells ro c=>∃cs el fz,w.heap[L.blk]? = some (.cells cs el fz)/\
   (∀(j:Nat) v,c[j]? = some v->∃v',cs[L.base+j]? = some v'/\VRel σ v v'/\v'.oneCell'=true)/\
   (ro=false->L.base+L.room<=cs.size/\c.length<=L.room/\N7o fz cs.size)
 | .map es=>∃ents clock,w.heap[L.blk]? = some (.map ents clock)/\ents.size=es.length/\
   (∀(j:Nat) e a,es[j]? = some e->ents[j]? = some a->e.1=a.key/\VRel σ e.2 a.val)/\Nse es.length clock ents
 | .iter m n seen=>L.base=0/\∃b,Ndv σ m b/\w.heap[L.blk]? = some (.mapIter b (if m.isSome then n else 0) seen.toArray (if m.isSome then n else 0))/\∀j∈seen,j<n
 | .loop x=>∃lp,w.heap[L.blk]? = some (.loop lp)/\LoopRel Pg σ x lp
 | .dfr=>w.heap[L.blk]? = some (.deferred (some []))
structure Inv (Pg:Prg) (W:Nat->Prop) (lim:Nat) (σ:PO) (H:NA) (w:World):Prop where
 blk:∀(i:Nat) b,H[i]? = some b->alive b=true->∃L,σ i=some L/\UV Pg σ w L b
 inj:∀(i j:Nat) bi bj Li Lj,H[i]? = some bi->H[j]? = some bj->i≠j->owned bi=true->alive bj=true->σ i=some Li->σ j=some Lj->Li.blk≠Lj.blk
 wr:∀(i:Nat) b L,H[i]? = some b->owned b=true->lim<=i->σ i=some L->W L.blk
 fresh:∀b,w.heap.size<=b->W b
 dom:∀i,H.length<=i->σ i=none
structure Stp (W:Nat->Prop) (w w':World):Prop where
 os:w'.os=w.os
 tape:w'.tape=w.tape
 output:w'.output=w.output/\w.drawn<=w'.drawn
 size:w.heap.size<=w'.heap.size
 block:∀b,¬W b->w'.heap[b]? = w.heap[b]?
theorem Stp.refl (W:Nat->Prop) (w:World):Stp W w w:=⟨rfl,rfl,⟨rfl,Nf _⟩,Nf _,fun _ _=>rfl⟩
theorem Stp.trans {W:Nat->Prop} {a b c:World} (h:Stp W a b) (k:Stp W b c):Stp W a c:=
 ⟨k.os.trans h.os,k.tape.trans h.tape,⟨k.output.1.trans h.output.1,Pt h.output.2 k.output.2⟩,Pt h.size k.size,fun i hi=>(k.block i hi).trans (h.block i hi)⟩
theorem PS {b:Blk} (h:owned b=true):alive b=true:=by cases b<;>simp_all [owned,alive]
theorem UV.lt {b:Blk} (h:UV Pg σ w L b) (d:alive b=true):L.blk<w.heap.size:=by
 have key:∀{o:Obj},w.heap[L.blk]? = some o->L.blk<w.heap.size:=fun h=>(Array.getElem?_eq_some_iff.1 h).1
 cases b with
 | dead=>simp [alive] at d
 | cells ro c=>obtain ⟨_,_,_,a,_⟩:=h;exact key a
 | map es=>obtain ⟨_,_,a,_⟩:=h;exact key a
 | iter m n seen=>obtain ⟨_,_,_,a,_⟩:=h;exact key a
 | loop x=>obtain ⟨_,a,_⟩:=h;exact key a
 | dfr=>exact key h
theorem UV.mono (a:PO.le σ τ) {w':World} {b:Blk} (h:UV Pg σ w L b) (f:alive b=true->w'.heap[L.blk]? = w.heap[L.blk]?):UV Pg τ w' L b:=by
 cases b with
 | dead=>trivial
 | cells ro c=>
   obtain ⟨cs,el,fz,d,hc,ho⟩:=h;refine ⟨cs,el,fz,by rw [f rfl];exact d,fun j v p=>?_,ho⟩;obtain ⟨v',h1,h2,g⟩:=hc j v p;exact ⟨v',h1,h2.mono a,g⟩
 | map es=>
   obtain ⟨l,cl,d,hs,hk,i⟩:=h;exact ⟨l,cl,by rw [f rfl];exact d,hs,fun j e k h1 h2=>⟨(hk j e k h1 h2).1,(hk j e k h1 h2).2.mono a⟩,i⟩
 | iter m n seen=>
   obtain ⟨o,q,h1,h2,g⟩:=h;exact ⟨o,q,h1.mono a,by rw [f rfl];exact h2,g⟩
 | loop x=>
   obtain ⟨lp,d,hk⟩:=h;exact ⟨lp,by rw [f rfl];exact d,hk.mono a⟩
 | dfr=>show w'.heap[L.blk]? = _;rw [f rfl];exact h
section
variable {Pg:Prg} {W:Nat->Prop} {lim:Nat} {σ:PO} {H:NA} {w:World}
variable {dest:Option Nat} {el:TypeId} {b:Blk} {cs:Array Value} {L:Loc} {c:List Value} {H':NA} {v:Value}
theorem RB {i:Nat} (h:NE H i=b) (a:alive b=true):H[i]? = some b:=by
 unfold NE at h;rw [Nb] at h;cases hi:H[i]? with
 | none=>rw [hi] at h;simp at h;subst h;simp [alive] at a
 | some x=>rw [hi] at h;simp at h;rw [h]
theorem Inv.lt (h:Inv Pg W lim σ H w) {i:Nat} (hi:σ i=some L):i<H.length:=by
 rcases Od i H.length with h1 | h1
 ·exact h1
 ·rw [h.dom i h1] at hi;cases hi
theorem Inv.cells (h:Inv Pg W lim σ H w) {i:Nat} {ro:Bool} (a:NE H i=.cells ro c) (hL:σ i=some L) :
  ∃cs el fz,w.heap[L.blk]? = some (.cells cs el fz)/\(∀(j:Nat) v,c[j]? = some v->∃v',cs[L.base+j]? = some v'/\VRel σ v v'/\v'.oneCell'=true)/\
   (ro=false->L.base+L.room<=cs.size/\c.length<=L.room/\N7o fz cs.size):=by
 obtain ⟨b,h1,h2⟩:=h.blk i _ (RB a rfl) rfl;rw [hL] at h1;cases h1;exact h2
theorem cell_of_heap {b o:Nat} {fz:Nat×Nat} (h:w.heap[b]? = some (.cells cs el fz)) (a:cs[o]? = some v):w.cell? ⟨b,o,none⟩=some v:=by
 simp [World.cell?,h,a]
theorem Inv.loadCell (h:Inv Pg W lim σ H w) {p:Addr} (hL:σ p.block=some L) (a:loadCell H p=some v) :
  ∃v',w.cell? ⟨L.blk,L.base+p.off,none⟩=some v'/\VRel σ v v'/\v'.oneCell'=true:=by
 unfold AM.loadCell at a;split at a
 ·rename_i ro c b;obtain ⟨cs,el,fz,d,hc,_⟩:=h.cells b hL;obtain ⟨v',h1,h2⟩:=hc _ _ a;exact ⟨v',cell_of_heap d h1,h2⟩
 ·cases a
theorem Inv.loadCells (h:Inv Pg W lim σ H w) {p:Addr} {n:Nat} {l:List Value} (hL:σ p.block=some L) (a:loadCells H p n=some l) :
  ∃f,OV σ l f/\f.length=n/\(∀y∈f,y.oneCell'=true)/\∀(j:Nat) v,f[j]? = some v->w.cell? ⟨L.blk,L.base+p.off+j,none⟩=some v:=by
 unfold AM.loadCells at a;split at a
 case h_2=>cases a
 rename_i ro c q;split at a
 case isFalse=>cases a
 rename_i m;cases a;obtain ⟨cs,el,fz,r,hc,_⟩:=h.cells q hL;refine ⟨(List.range n).map fun j=>cs.getD (L.base+p.off+j) undef, ?_,by simp, ?_, ?_⟩
 ·refine ⟨by simp;omega,fun i x y e d=>?_⟩;simp only [Qc,Q0] at e;split at e
  case isFalse=>cases e
  rename_i hi;obtain ⟨v',h1,h2,_⟩:=hc _ _ e;rw [Pk,List.getElem?_range hi] at d;simp only [Ny,Option.some.injEq] at d;subst d;rw [show L.base+p.off+i=L.base+(p.off+i) by omega,N8,h1];exact h2
 ·intro y d;obtain ⟨j,k,rfl⟩:=List.mem_map.1 d;have k:=List.mem_range.1 k;obtain ⟨v',h1,_,o⟩:=hc (p.off+j) _ (Ni (by omega));rw [show L.base+p.off+j=L.base+(p.off+j) by omega,N8,h1];exact o
 ·intro j v a;rw [Pk] at a;simp only [Nd] at a;obtain ⟨s,b,rfl⟩:=a;have g:j<n:=by
   have:=(List.getElem?_eq_some_iff.1 b).1;simpa using this
  rw [List.getElem?_range g] at b;cases b;obtain ⟨v',h1,_⟩:=hc (p.off+j) _ (Ni (by omega));refine cell_of_heap r ?_;rw [show L.base+p.off+j=L.base+(p.off+j) by omega,N8,h1];rfl
def PO.put (σ:PO) (i:Nat) (L:Loc):PO:=fun j=>if j=i then some L else σ j
theorem PO.le_put {σ:PO} {i:Nat} (h:σ i=none):PO.le σ (σ.put i L):=fun j M a=>by
 unfold PO.put;split
 ·rename_i e;subst e;rw [h] at a;cases a
 ·exact a
theorem PO.put_same {σ:PO} {i:Nat}:σ.put i L i=some L:=by simp [PO.put]
theorem Ud {H:NA} {i:Nat} (h:place dest b H=(i,H')) (hd:∀d,dest=some d->d<H.length) :
  H'[i]? = some b/\(∀j,j≠i->H'[j]? = H[j]?)/\H.length<=H'.length/\(∀j,H'.length<=j->H.length<=j/\j≠i)/\(dest=none->i=H.length)/\(∀d,dest=some d->i=d/\H'.length=H.length)/\i<H'.length:=by
 unfold place at h;cases dest with
 | none=>
   simp only [Prod.mk.injEq] at h;obtain ⟨rfl,rfl⟩:=h;refine ⟨by simp,fun j a=>?_,by simp,fun j a=>?_,fun _=>rfl,fun d hd=>absurd hd (by simp),by simp⟩
   ·rcases Od j H.length with h1 | h1
    ·rw [Oa h1]
    ·rw [Oi h1,N0 h1,N0];simp;omega
   ·simp at a;omega
 | some d=>
   simp only [Prod.mk.injEq] at h;obtain ⟨rfl,rfl⟩:=h;have c:=hd d rfl;refine ⟨by simp [c],fun j a=>by rw [Ob,Ng (fun e=>a e.symm)],by simp,fun j a=>?_,fun h=>absurd h (by simp),(fun x f=>by cases f;exact ⟨rfl,by simp⟩),by simpa using c⟩;simp at a;omega
theorem Inv.adopt (h:Inv Pg W lim σ H w) {i:Nat} (hi:H'[i]? = some b) (q:∀j,j≠i->H'[j]? = H[j]?) (r:∀j,H'.length<=j->H.length<=j/\j≠i)
  (z:σ i=none) (B:UV Pg (σ.put i L) w L b) (ho:owned b=true) (A:W L.blk)
  (n:∀(j:Nat) bj Lj,j≠i->H[j]? = some bj->alive bj=true->σ j=some Lj->Lj.blk≠L.blk):Inv Pg W lim (σ.put i L) H' w:=by
 refine ⟨fun j bj a u=>?_,fun j k bj y Lj s a d l m p c g=>?_,fun j bj Lj a m x c=>?_,h.fresh,fun j v=>?_⟩
 ·by_cases e:j=i
  ·subst e;rw [hi] at a;cases a;exact ⟨L,PO.put_same,B⟩
  ·rw [q j e] at a;obtain ⟨Lj,h1,h2⟩:=h.blk j bj a u;exact ⟨Lj,PO.le_put z _ _ h1,h2.mono (PO.le_put z) fun _=>rfl⟩
 ·by_cases e:j=i
  ·subst e;rw [hi] at a;cases a;rw [PO.put_same] at c;cases c;rw [q k (Ne.symm l)] at d;have o:σ k=some s:=by simpa [PO.put,Ne.symm l] using g
   exact fun e=>n k y s (Ne.symm l) d p o e.symm
  ·have f:σ j=some Lj:=by simpa [PO.put,e] using c
   rw [q j e] at a;by_cases t:k=i
   ·subst t;rw [PO.put_same] at g;cases g;exact n j bj Lj e a (PS m) f
   ·have o:σ k=some s:=by simpa [PO.put,t] using g
    rw [q k t] at d;exact h.inj j k bj y Lj s a d l m p f o
 ·by_cases e:j=i
  ·subst e;rw [PO.put_same] at c;cases c;exact A
  ·have f:σ j=some Lj:=by simpa [PO.put,e] using c
   rw [q j e] at a;exact h.wr j bj Lj a m x f
 ·obtain ⟨h1,h2⟩:=r j v;simp [PO.put,h2,h.dom j h1]
theorem Inv.world (h:Inv Pg W lim σ H w) {w':World} (hs:w.heap.size<=w'.heap.size) (d:∀b,b<w.heap.size->w'.heap[b]? = w.heap[b]?):Inv Pg W lim σ H w':=by
 refine ⟨fun i b c a=>?_,h.inj,h.wr,fun b c=>h.fresh b (by omega),h.dom⟩;obtain ⟨L,h1,h2⟩:=h.blk i b c a;exact ⟨L,h1,h2.mono (PO.le_refl σ) fun _=>d _ (h2.lt a)⟩
theorem U7 (w:World) (o:Obj):(w.alloc o).heap=w.heap.push o:=rfl
theorem Stp.alloc (c:∀b,w.heap.size<=b->W b) (o:Obj):Stp W w (w.alloc o):=by
 refine ⟨rfl,rfl,⟨rfl,Nf _⟩,by simp,fun b a=>?_⟩;rw [U7,P5];split
 ·rename_i e;exact absurd (c b (by omega)) a
 ·rfl
theorem Stp.drew:Stp W w w.drew:=⟨rfl,rfl,⟨rfl,Nat.le_succ _⟩,Nf _,fun _ _=>rfl⟩
theorem Inv.drew (h:Inv Pg W lim σ H w):Inv Pg W lim σ H w.drew:=h.world (Nf _) fun _ _=>rfl
theorem Inv.alloc (h:Inv Pg W lim σ H w) {i:Nat} (hp:place dest (.cells false c) H=(i,H')) (hd:∀d,dest=some d->d<H.length/\σ d=none) (hc:∀(j:Nat) v,c[j]? = some v->∃v',cs[j]? = some v'/\VRel σ v v'/\v'.oneCell'=true) (hn:c.length<=cs.size) :
  Inv Pg W lim (σ.put i ⟨w.heap.size,0,cs.size⟩) H' (w.alloc (.cells cs el))/\σ i=none:=by
 obtain ⟨l,m,x,n,o,p,y⟩:=Ud hp fun d e=>(hd d e).1
 have g:σ i=none:=by
  cases dest with
  | none=>rw [o rfl];exact h.dom _ (Nf _)
  | some d=>rw [(p d rfl).1];exact (hd d rfl).2
 refine ⟨?_,g⟩;have t:Inv Pg W lim σ H (w.alloc (.cells cs el)):=h.world (by simp) fun b z=>by rw [U7,P5];rw [Ng (by omega)]
 refine t.adopt l m n g ?_ rfl (h.fresh _ (Nf _)) fun j bj Lj r f k a e=>?_
 ·refine ⟨cs,el,(0,0),by simp [U7],fun j v s=>?_,fun _=>⟨by simp,by simpa using hn,.inl rfl⟩⟩;obtain ⟨v',h1,h2,q⟩:=hc j v s;exact ⟨v',by simpa using h1,h2.mono (PO.le_put g),q⟩
 ·obtain ⟨u,h1,h2⟩:=h.blk j bj f k;rw [a] at h1;cases h1;have:=h2.lt k;simp at e;omega
theorem Inv.allocMap (h:Inv Pg W lim σ H w) {i:Nat} (hp:place dest (.map []) H=(i,H')) (hd:∀d,dest=some d->d<H.length/\σ d=none) :
  Inv Pg W lim (σ.put i ⟨w.heap.size,0,0⟩) H' (w.alloc (.map #[] 0))/\σ i=none:=by
 obtain ⟨k,l,t,m,n,o,u⟩:=Ud hp fun d e=>(hd d e).1
 have g:σ i=none:=by
  cases dest with
  | none=>rw [n rfl];exact h.dom _ (Nf _)
  | some d=>rw [(o d rfl).1];exact (hd d rfl).2
 refine ⟨?_,g⟩;have q:Inv Pg W lim σ H (w.alloc (.map #[] 0)):=h.world (by simp) fun b v=>by rw [U7,P5];rw [Ng (by omega)]
 refine q.adopt k l m g ?_ rfl (h.fresh _ (Nf _)) fun j bj Lj p c f a e=>?_
 ·exact ⟨#[],0,by simp [U7],by simp,(fun j e s h1 h2=>by simp at h1),rfl,fun j e h1=>by simp at h1⟩
 ·obtain ⟨r,h1,h2⟩:=h.blk j bj c f;rw [a] at h1;cases h1;have:=h2.lt f;simp at e;omega
end
theorem ZT:∀(vs c:List Value) (o:Nat),(QI c o vs).length=c.length
 | [],_,_=>rfl
 | v::vs,c,o=>by simp [QI,ZT vs]
theorem Mr:∀(vs c:List Value) (o j:Nat),j<o\/o+vs.length<=j->(QI c o vs)[j]? = c[j]?
 | [],_,_,_,_=>rfl
 | v::vs,c,o,j,h=>by
   simp only [Nm] at h;rw [QI,Mr vs _ _ _ (by omega),Ob,Ng (by omega)]
theorem Nhk:∀(vs c:List Value) (o j:Nat) v,vs[j]? = some v->o+vs.length<=c.length->(QI c o vs)[o+j]? = some v
 | [],_,_,_,_,h,_=>by simp at h
 | u::vs,c,o,j,v,h,hl=>by
   simp only [Nm] at hl;cases j with
   | zero=>
     simp at h;subst h;have:o<c.length:=by omega
     rw [QI,Mr vs _ _ _ (by omega)];simp [this]
   | succ j=>
     rw [QI,show o+(j+1)=o+1+j by omega];exact Nhk vs _ (o+1) j v (by simpa using h) (by simp;omega)
theorem heap_setCell {b:Nat} {cs:Array Value} {el:TypeId} (h:w.heap[b]? = some (.cells cs el fz)) :
  (w.setCell ⟨b,o,none⟩ v).heap[b]? = some (.cells (cs.setIfInBounds o v) el fz):=by
 obtain ⟨f1,f2⟩:=fz;simp [World.setCell,Array.getElem?_modify,h]
theorem Ndg {b k:Nat} (h:k≠b):(w.setCell ⟨b,o,none⟩ v).heap[k]? = w.heap[k]?:=by
 simp [World.setCell,Array.getElem?_modify,Ne.symm h]
structure Wrote (w w':World) (b o:Nat) (vs:List Value) (cs:Array Value) (el:TypeId) (fz:Nat×Nat) (cs':Array Value):Prop where
 heap:w'.heap[b]? = some (.cells cs' el fz)
 size:cs'.size=cs.size
 out:∀j,j<o\/o+vs.length<=j->cs'[j]? = cs[j]?
 inn:∀(j:Nat) v,vs[j]? = some v->cs'[o+j]? = some v
 other:∀k,k≠b->w'.heap[k]? = w.heap[k]?
 len:w'.heap.size=w.heap.size
 os:w'.os=w.os
 tape:w'.tape=w.tape
 output:w'.output=w.output/\w.drawn<=w'.drawn
theorem Wq (b:Nat) (el:TypeId) (fz:Nat×Nat):∀(vs:List Value) (o:Nat) (w:World) (cs:Array Value),w.heap[b]? = some (.cells cs el fz)->o+vs.length<=cs.size->
  ∃cs',Wrote w (w.setCells b o vs) b o vs cs el fz cs'
 | [],o,w,cs,h,_=>⟨cs,h,rfl,fun _ _=>rfl,fun j v d=>by simp at d,fun _ _=>rfl,rfl,rfl,rfl,⟨rfl,Nf _⟩⟩
 | v::vs,o,w,cs,h,hl=>by
   simp only [Nm] at hl;obtain ⟨cs',k⟩:=Wq b el fz vs (o+1) (w.setCell ⟨b,o,none⟩ v) _ (heap_setCell h) (by simp;omega);refine ⟨cs',k.heap,by rw [k.size];simp,fun j c=>?_,fun j u a=>?_,fun m hm=>by rw [World.setCells,k.other m hm,Ndg hm], ?_, ?_, ?_, ?_⟩
   ·simp only [Nm] at c;rw [k.out j (by omega),Pz (by omega)]
   ·cases j with
    | zero=>
      simp at a;subst a;rw [Pd,k.out o (by omega),Array.getElem?_setIfInBounds_self];simp;omega
    | succ j=>
      rw [show o+(j+1)=o+1+j by omega];exact k.inn j u (by simpa using a)
   ·rw [World.setCells,k.len];simp
   ·rw [World.setCells,k.os];rfl
   ·rw [World.setCells,k.tape];rfl
   ·rw [World.setCells];exact ⟨k.output.1.trans rfl,k.output.2⟩
section
variable {Pg:Prg} {W:Nat->Prop} {lim:Nat} {σ:PO} {H:NA} {w:World}
variable {L:Loc} {w':World} {H':NA}
theorem Inv.rewrite (h:Inv Pg W lim σ H w) {i:Nat} {b b':Blk} (hi:H[i]? = some b) (ho:owned b=true) (hL:σ i=some L) (hs:w'.heap.size=w.heap.size)
  (x:∀k,k≠L.blk->w'.heap[k]? = w.heap[k]?) (r:UV Pg σ w' L b') (y:alive b'=true->owned b'=true):Inv Pg W lim σ (H.set i b') w':=by
 have s:i<H.length:=(List.getElem?_eq_some_iff.1 hi).1;have gs:(H.set i b')[i]? = some b':=by rw [Ob,Nl rfl,Nl s]
 have m:∀j,j≠i->(H.set i b')[j]? = H[j]?:=fun j t=>by rw [Ob,Ng (Ne.symm t)]
 refine ⟨fun j bj a q=>?_,fun j k bj u Lj p a d f g n c l=>?_,fun j bj Lj a g o c=>?_,fun b z=>h.fresh b (by omega),fun j t=>h.dom j (by simpa using t)⟩
 ·by_cases e:j=i
  ·subst e;rw [gs] at a;cases a;exact ⟨L,hL,r⟩
  ·rw [m j e] at a;obtain ⟨Lj,h1,h2⟩:=h.blk j bj a q;exact ⟨Lj,h1,h2.mono (PO.le_refl σ) fun q=>x _ (Ne.symm (h.inj i j b bj L Lj hi a (Ne.symm e) ho q hL h1))⟩
 ·by_cases e:j=i
  ·subst e;rw [m k (Ne.symm f)] at d;exact h.inj j k b u Lj p hi d f ho n c l
  ·rw [m j e] at a;by_cases v:k=i
   ·subst v;exact h.inj j k bj b Lj p a hi f g (PS ho) c l
   ·rw [m k v] at d;exact h.inj j k bj u Lj p a d f g n c l
 ·by_cases e:j=i
  ·subst e;exact h.wr j b Lj hi ho o c
  ·rw [m j e] at a;exact h.wr j bj Lj a g o c
theorem Stp.one {blk:Nat} (c:W blk) (f:∀k,k≠blk->w'.heap[k]? = w.heap[k]?) (hs:w'.heap.size=w.heap.size) (h1:w'.os=w.os) (h2:w'.tape=w.tape) (a:w'.output=w.output/\w.drawn<=w'.drawn):Stp W w w':=
 ⟨h1,h2,a,Nat.le_of_eq hs.symm,fun b d=>f b fun e=>d (e▸c)⟩
theorem Inv.store {P:Program} (h:Inv Pg W lim σ H w) {p:Addr} {vs a:List Value} (hL:σ p.block=some L) (e:storeAt lim H p vs=some H') (hr:OV σ vs a) (h1:∀v∈a,v.oneCell'=true) :
  ∃w',(storeCells ⟨L.blk,L.base+p.off,none⟩ a).run P w=.ok () w'/\Inv Pg W lim σ H' w'/\Stp W w w'/\H'.length=H.length:=by
 unfold storeAt at e;split at e
 case h_2=>cases e
 rename_i c t;split at e
 case isFalse=>cases e
 rename_i d;obtain ⟨g,u⟩:=d;cases e;have f:=RB t rfl;obtain ⟨cs,el,fz,m,hc,ho⟩:=h.cells t hL;obtain ⟨q,r,i⟩:=ho rfl;have C:=hr.1;obtain ⟨cs',k⟩:=Wq L.blk el fz a (L.base+p.off) w cs m (by omega);refine ⟨_,run_storeCells_cells (P:=P) L.blk (L.base+p.off) a 0 w (fun j n=>?_) (fun j n=>?_) h1, ?_, ?_,by simp⟩
 ·rw [cell_of_heap m (Of (by omega))];rfl
 ·simp only [World.frozen?,m];have:=i.ok (L.base+p.off+0+j) (by omega);obtain ⟨f1,f2⟩:=fz;simp at this⊢;exact this
 ·refine h.rewrite f rfl hL k.len k.other ⟨cs',el,fz,k.heap,fun j v b=>?_,fun _=>⟨by rw [k.size];exact q,by rw [ZT];exact r,by rw [k.size];exact i⟩⟩ (fun _=>rfl);by_cases n:j<p.off\/p.off+vs.length<=j
  ·rw [Mr vs c p.off j n] at b;obtain ⟨v',z,A,B⟩:=hc j v b;exact ⟨v',by rw [k.out _ (by omega)];exact z,A,B⟩
  ·have o:j=p.off+(j-p.off):=by omega
   have l:vs[j-p.off]? = some (vs[j-p.off]'(by omega)):=Ni _;rw [o,Nhk vs c p.off (j-p.off) _ l (by omega)] at b;cases b;obtain ⟨y,x,s⟩:=hr.get l;exact ⟨y,by rw [show L.base+j=L.base+p.off+(j-p.off) by omega];exact k.inn _ _ x,s,h1 y (Oh x)⟩
 ·exact Stp.one (h.wr _ _ _ f rfl g hL) k.other k.len k.os k.tape k.output
theorem Inv.killAny (h:Inv Pg W lim σ H w) (i:Nat):Inv Pg W lim σ (H.set i .dead) w:=by
 have f:∀(j:Nat) b,(H.set i .dead)[j]? = some b->alive b=true->H[j]? = some b/\j≠i:=fun j b a g=>by
  rw [Ob] at a;split at a
  ·split at a
   ·cases a;simp [alive] at g
   ·cases a
  ·rename_i e;exact ⟨a,fun s=>e s.symm⟩
 refine ⟨fun j b a g=>h.blk j b (f j b a g).1 g,fun j k bj q Lj r l m p d c n o=>?_,fun j b L a ho hl hL=>h.wr j b L (f j b a (PS ho)).1 ho hl hL,h.fresh,fun j t=>h.dom j (by simpa using t)⟩;exact h.inj j k bj q Lj r (f j bj l (PS d)).1 (f k q m c).1 p d c n o
theorem Inv.appendRoom {P:Program} (h:Inv Pg W lim σ H w) {p:Addr} {old new b:List Value} {c:List Value} (t:NE H p.block=.cells false c) (hL:σ p.block=some L) (l:lim<=p.block)
  (a:AM.loadCells H p old.length=some old) (hr:OV σ new b) (h1:∀v∈b,v.oneCell'=true) (x:p.off+old.length+new.length<=L.room)
  {dest:Option Nat} {i:Nat} (hp:place dest (.cells false (old++new)) (H.set p.block .dead)=(i,H')) (hd:∀d,dest=some d->d<H.length/\σ d=none) :
  ∃w',(storeCells ⟨L.blk,L.base+p.off+old.length,none⟩ b).run P w=.ok () w'/\Inv Pg W lim (σ.put i ⟨L.blk,L.base+p.off,L.room-p.off⟩) H' w'/\Stp W w w'/\σ i=none:=by
 have g:=RB t rfl;obtain ⟨cs,el,fz,u,hc,ho⟩:=h.cells t hL;obtain ⟨K,M,q⟩:=ho rfl;have J:=hr.1;obtain ⟨cs',k⟩:=Wq L.blk el fz b (L.base+p.off+old.length) w cs u (by omega);have hk:Inv Pg W lim σ (H.set p.block .dead) (w.setCells L.blk (L.base+p.off+old.length) b):=h.rewrite g rfl hL k.len k.other trivial (fun h=>by simp [alive] at h);obtain ⟨C,D,N,E,F,G,O⟩:=Ud hp fun d e=>by simpa using (hd d e).1
 have r:σ i=none:=by
  cases dest with
  | none=>rw [F rfl];exact hk.dom _ (Nf _)
  | some d=>rw [(G d rfl).1];exact (hd d rfl).2
 have n:∀(j:Nat) v,old[j]? = some v->c[p.off+j]? = some v:=fun j v m=>by
  unfold AM.loadCells at a;rw [t] at a;simp only at a;split at a
  ·have o:=(List.getElem?_eq_some_iff.1 m).1;have e:(c.drop p.off).take old.length=old:=by simpa using a
   rw [<-e,Qc,Nl o,Q0] at m;exact m
  ·cases a
 refine ⟨_,run_storeCells_cells (P:=P) L.blk (L.base+p.off+old.length) b 0 w (fun j o=>?_) (fun j o=>?_) h1, ?_, ?_,r⟩
 ·rw [cell_of_heap u (Of (by omega))];rfl
 ·simp only [World.frozen?,u];have:=q.ok (L.base+p.off+old.length+0+j) (by omega);obtain ⟨f1,f2⟩:=fz;simp at this⊢;exact this
 ·refine hk.adopt C D E r ⟨cs',el,fz,k.heap,fun j v m=>?_,fun _=>⟨by rw [k.size];simp;omega,by simp;omega,by rw [k.size];exact q⟩⟩ rfl (show W L.blk from h.wr _ _ _ g rfl l hL) fun j bj Lj I f A s=>?_
  ·show ∃v',cs'[L.base+p.off+j]? = some v'/\_;by_cases o:j<old.length
   ·rw [Oa o] at m;obtain ⟨v',e1,e2,e3⟩:=hc _ _ (n j v m);exact ⟨v',by rw [k.out _ (by omega),show L.base+p.off+j=L.base+(p.off+j) by omega];exact e1,e2.mono (PO.le_put r),e3⟩
   ·rw [Oi (by omega)] at m;obtain ⟨y,B,z⟩:=hr.get m;exact ⟨y,by rw [show L.base+p.off+j=L.base+p.off+old.length+(j-old.length) by omega];exact k.inn _ _ B,z.mono (PO.le_put r),h1 y (Oh B)⟩
  ·by_cases e:j=p.block
   ·subst e;rw [Ob,Nl rfl] at f;split at f
    ·cases f;simp [alive] at A
    ·cases f
   ·rw [Ob,Ng (Ne.symm e)] at f;exact Ne.symm (h.inj p.block j _ bj L Lj g f (Ne.symm e) rfl A hL s)
 ·exact Stp.one (h.wr _ _ _ g rfl l hL) k.other k.len k.os k.tape k.output
end
end Go.AM



namespace Go.AM
open Go.MapKept
def Nj1:Next->Option Value
 | .value v=>some v
 | .skip=>some undef
 | _=>none
def OZ (Pg:Prg) (W:Nat->Prop) (lim:Nat) (σ:PO) (dest:Option Nat) (H:NA) (w:World) (run:Result Next) (v:Value) (H':NA):Prop:=
 ∃nx w' a v',run=.ok nx w'/\Nj1 nx=some v'/\VRel a v v'/\Inv Pg W lim a H' w'/\Stp W w w'/\PO.le σ a/\
  (∀j,a j≠σ j->dest=some j\/(dest=none/\H.length<=j))/\H.length<=H'.length/\(dest≠none->H'.length=H.length)
section
variable {P:Program} {Pg:Prg} {W:Nat->Prop} {lim:Nat} {σ:PO} {H:NA} {w:World} {dest:Option Nat}
variable {v v':Value} {run:Result Next}
theorem OZ.plain (h:Inv Pg W lim σ H w) (hr:run=.ok (.value v') w) (b:VRel σ v v'):OZ Pg W lim σ dest H w run v H:=
 ⟨.value v',w,σ,v',hr,rfl,b,h,Stp.refl W w,PO.le_refl σ,fun j a=>absurd rfl a,Nf _,fun _=>rfl⟩
theorem OZ.made (h:Inv Pg W lim σ H w) (hd:∀d,dest=some d->d<H.length/\σ d=none) {c:List Value} {H':NA} {i:Nat} (hp:place dest (.cells false c) H=(i,H'))
  {cs:Array Value} {el:TypeId} (hc:∀(j:Nat) v,c[j]? = some v->∃v',cs[j]? = some v'/\VRel σ v v'/\v'.oneCell'=true) (hn:c.length<=cs.size)
  {b:World} (a:Inv Pg W lim σ H b) (g:Stp W w b) (hr:run=.ok (.value v') (b.alloc (.cells cs el)))
  (o:VRel (σ.put i ⟨b.heap.size,0,cs.size⟩) v v'):OZ Pg W lim σ dest H w run v H':=by
 obtain ⟨hi,p⟩:=a.alloc (el:=el) hp hd hc hn;obtain ⟨q,r,l,s,m,k,t⟩:=Ud hp fun d e=>(hd d e).1
 refine ⟨_,_,_,v',hr,rfl,o,hi,g.trans (Stp.alloc a.fresh _),PO.le_put p,fun j n=>?_,l,fun f=>?_⟩
 ·by_cases e:j=i
  ·subst e;cases dest with
   | none=>exact .inr ⟨rfl,by rw [m rfl];exact Nf _⟩
   | some d=>exact .inl (by rw [(k d rfl).1])
  ·simp [PO.put,e] at n
 ·cases dest with
  | none=>exact absurd rfl f
  | some d=>exact (k d rfl).2
theorem Nmg {o:Oper} (h:o.op.operands.toList.all QB=true) {x:Operand} (a:x∈o.op.operands):QB x=true:=
 N7.1 h x (Array.mem_toList_iff.2 a)
theorem Ntj (place:Nat->Option (Nat×Nat)) (off:Nat):∀(vs:List Value) (k:Nat) (cs:Array Value),(vs.zipIdx k).foldl (fun cs (x:Value×Nat)=>cs.setIfInBounds (off+x.2) x.1) cs=(QI cs.toList (off+k) vs).toArray
 | [],k,cs=>by simp [QI]
 | v::vs,k,cs=>by
   rw [List.zipIdx_cons,O1,Ntj place off vs (k+1),QI];simp [Pq]
theorem Uy (ρ ρ':Operand->Value) (place:Nat->Option (Nat×Nat)) :
  ∀(src:List (Nat×Operand)) (ps:List (Nat×Nat×Operand)) (z c e:List Value),(src.length=ps.length)->
   (∀(j:Nat) s p,src[j]? = some s->ps[j]? = some p->place s.1=some (p.1,p.2.1)/\p.2.2=s.2/\VRel σ (ρ s.2) (ρ' s.2))->
   RU ρ ps z=some c->OV σ z e->(∀y∈e,y.oneCell'=true)->
   ∃c',Instr.fill place e.toArray (src.map fun x=>(x.1,ρ' x.2))=some c'.toArray/\OV σ c c'/\(∀y∈c',y.oneCell'=true)
 | [],[],z,c,e,_,_,hf,hz,h1=>by
   simp [RU] at hf;subst hf;exact ⟨e,by simp [Instr.fill],hz,h1⟩
 | s::src,p::ps,z,c,e,hl,hp,hf,hz,h1=>by
   obtain ⟨off,size,x⟩:=p;obtain ⟨i,H⟩:=s;obtain ⟨e1,e2,e3⟩:=hp 0 _ _ rfl rfl;simp only at e1 e2 e3;subst e2;simp only [RU] at hf;split at hf
   case isFalse=>cases hf
   rename_i hc;obtain ⟨D,G,F⟩:=hc;have g:=e3.cells;have m:=e3.cells_one F;have E:(ρ x).cells.size=size:=by simpa using D
   have l:(ρ' x).cells.size=size:=by have:=g.1;simp at this;omega
   have C:=hz.1;have n:∀(vs d:List Value) (o:Nat) (a b:List Value),OV σ vs d->OV σ a b->OV σ (QI a o vs) (QI b o d):=by
    intro vs
    induction vs with
    | nil=>intro d o a b h k;have:d=[]:=by have:=h.1;simpa using this.symm
           subst this;exact k
    | cons v vs ih=>intro d o a b h k
                    cases d with
                    | nil=>have:=h.1;simp at this
                    | cons v' d=>exact ih d _ _ _ h.tail (k.set h.head o)
   have f:∀(vs:List Value) (o:Nat) (b:List Value),(∀y∈vs,y.oneCell'=true)->(∀y∈b,y.oneCell'=true)->∀y∈QI b o vs,y.oneCell'=true:=by
    intro vs
    induction vs with
    | nil=>intro o b _ q;exact q
    | cons v vs ih=>intro o b u q
                    refine ih _ _ (fun y t=>u y (Nr _ t)) fun y t=>?_
                    rcases Qs t with h | h
                    ·exact q y h
                    ·subst h;exact u _ (Nu)
   obtain ⟨c',w,A,B⟩:=Uy ρ ρ' place src ps _ c (QI e off (ρ' x).cells.toList) (by simpa using hl) (fun j s p hs r=>hp (j+1) s p (by simpa using hs) (by simpa using r)) hf (n _ _ off _ _ g hz) (f _ off _ m h1);refine ⟨c', ?_,A,B⟩;simp only [Oj,Instr.fill,e1];have:¬((ρ' x).cells.size≠size||off+(ρ' x).cells.size > e.toArray.size)=true:=by simp [l];omega
   rw [Ng this];rw [<-w];congr 1;rw [<-Array.foldl_toList];simp only [Array.toList_zipIdx];rw [Ntj (fun _=>none) off (ρ' x).cells.toList 0 e.toArray];simp
end
section
variable {P:Program} {Pg:Prg} {W:Nat->Prop} {lim:Nat} {σ:PO} {H H':NA} {w:World} {dest:Option Nat} {ρ ρ':Operand->Value} {v:Value}
variable {x a b r:Value} {n m:Nat} {w':World} {cs:Array Value} {L:Loc} {l:List Value}
theorem QA (P:Program) (w:World) (s:Sem Value) (h:s.run P w=.ok x w'):(do pure (Next.value (<-s)):Sem Next).run P w=.ok (.value x) w':=by
 simp [h]
theorem Nef (P:Program) (w:World) (s:Sem Unit) (h:s.run P w=.ok () w'):(do s;pure Next.skip:Sem Next).run P w=.ok .skip w':=by
 simp [h]
theorem Nde (op:BinOp) (t:TypeId) (x y:Operand) (k k':IntKind) (a b:Int):(eqGuard op t x y (.int k a) (.int k' b)).run P w=.ok () w:=by
 cases op<;>simp [eqGuard]
theorem Mx (op:BinOp) (t:TypeId) (x y:Operand) (a b:ByteArray):(eqGuard op t x y (.string a) (.string b)).run P w=.ok () w:=by
 cases op<;>simp [eqGuard]
theorem Nsd (op:BinOp) (t:TypeId) (x y:Operand) (h:NH op a b=some r):(do eqGuard op t x y a b;binOp op t a b:Sem Value).run P w=.ok r w:=by
 unfold NH at h;split at h
 ·rename_i k a k' b;simp only [Sem.run_bind,Nde,Result.andThen_ok];split at h
  ·split at h
   ·cases h
   ·rename_i c;cases h;simp [binOp,Op.shift,c]
  ·split at h
   ·cases h
   ·rename_i c;cases h;simp [binOp,Op.shift,c]
  ·rename_i d e;split at h
   case isFalse=>cases h
   rename_i hk;subst hk;cases op<;>simp at h<;>first
    | (exact absurd rfl d) | (exact absurd rfl e)
    | (subst h;simp [binOp,Op.intArith,Op.intBits,Op.intCmp];done)
    | (obtain ⟨c,rfl⟩:=h;simp [binOp,Op.intDiv,c];done)
 ·rename_i a b;simp only [Sem.run_bind,Mx,Result.andThen_ok];cases op<;>simp at h<;>first
   | (subst h;simp [binOp,Op.stringOp];done)
   | (obtain ⟨c,rfl⟩:=h
      simp [binOp,Op.stringOp];exact c)
 ·cases h
theorem Nxb (op:UnOp) (h:RN op a=some r):(Op.unary op a).run P w=.ok r w:=by
 unfold RN at h;split at h
 ·cases h;simp [Op.unary]
 ·cases h;simp [Op.unary,Op.intArith]
 ·cases h;simp [Op.unary,Op.intBits]
 ·cases h
theorem QO (op:BinOp) (t:TypeId) (x y:Operand) (h1:a≠.nilIface) (h2:∀xs,a≠.agg xs) :
  (eqGuard op t x y a b).run P w=.ok () w:=by
 unfold eqGuard;cases a<;>first | (exact absurd rfl h1) | (exact absurd rfl (h2 _)) | (cases op<;>simp)
theorem Z6 {t:TypeId} {b:Bool} (h:Rx P t=some b):(isAgg t).run P w=.ok b w:=by
 unfold Rx at h;cases hd:P.underlying t with
 | none=>simp [hd] at h
 | some d=>
   rw [hd] at h;cases d<;>simp at h<;>subst h<;>simp [isAgg,run_underlying hd]
theorem Tt {t:TypeId} (h:PZ P t=some n):(sizeOf t).run P w=.ok n w:=by
 unfold PZ at h;cases hi:P.info? t with
 | none=>simp [hi] at h
 | some i=>rw [hi] at h;simp at h;subst h;simp [sizeOf,typeInfo,hi]
theorem Nhq {t:TypeId} {off:Nat} (h:Rx P t=some false) (a:cs[off]? = some x):(part t cs off).run P w=.ok x w:=by
 simp [part,Z6 h,a]
theorem Nhp {t:TypeId} {off:Nat} (h:Rx P t=some true) (hn:PZ P t=some n):(part t cs off).run P w=.ok (.agg (cs.extract off (off+n))) w:=by
 simp [part,Z6 h,Tt hn]
theorem extract_toList (cs:Array Value) (off n:Nat):(cs.extract off (off+n)).toList=(cs.toList.drop off).take n:=by
 rw [Array.toList_extract];simp [List.extract]
theorem Ncp (h:Inv Pg W lim σ H w) {t:TypeId} (a:Rx P t=some false) {p:Addr} (hL:σ p.block=some L) {v:Value} (b:loadCell H p=some v) :
  ∃v',(loadVar t ⟨L.blk,L.base+p.off,none⟩).run P w=.ok v' w/\VRel σ v v':=by
 obtain ⟨v',h1,h2,c⟩:=h.loadCell hL b;exact ⟨v',by simp [loadVar,Z6 a,h1],h2⟩
theorem Nvu (h:Inv Pg W lim σ H w) {p:Addr} (hL:σ p.block=some L) (e:AM.loadCells H p n=some l) :
  ∃a,(Go.loadCells ⟨L.blk,L.base+p.off,none⟩ n).run P w=.ok a.toArray w/\OV σ l a/\a.length=n/\∀y∈a,y.oneCell'=true:=by
 obtain ⟨a,h1,h2,b,c⟩:=h.loadCells hL e;have:=run_loadCells_list (P:=P) w ⟨L.blk,L.base+p.off,none⟩ a fun j v d=>by rw [Addr.add_mid];exact c j v d
 rw [h2] at this;exact ⟨a,this,h1,h2,b⟩
theorem Nco (h:Inv Pg W lim σ H w) {t:TypeId} (b:Rx P t=some true) (hn:PZ P t=some n) {p:Addr} (hL:σ p.block=some L) (c:AM.loadCells H p n=some l) :
  ∃v',(loadVar t ⟨L.blk,L.base+p.off,none⟩).run P w=.ok v' w/\VRel σ (.agg l.toArray) v':=by
 obtain ⟨d,h1,h2,e,a⟩:=Nvu (P:=P) h hL c;exact ⟨.agg d.toArray,by simp [loadVar,Z6 b,Tt hn,h1],VRel.agg_iff.2 ⟨by simpa using h2,by simpa using a⟩⟩
theorem SK (h:bound x m=some n) (hr:VRel σ x a) (code:BoundsCode):(Instr.sliceBound a m code).run P w=.ok n w:=by
 unfold bound at h;split at h
 ·rename_i k i;split at h
  ·rename_i hi;cases h;rw [hr.int_left];simp [Instr.sliceBound,asIntOf,hi]
  ·cases h
 ·cases h
theorem UT {v:Value} {a:Nat} (b:bound v a=some n):n<=a:=by
 unfold bound at b;split at b
 ·split at b
  ·cases b;omega
  ·cases b
 ·cases b
theorem Yr {v:Value} {a b:Nat} (d:a<=b) (c:bound v a=some n):bound v b=some n:=by
 unfold bound at c⊢;split at c
 ·split at c
  ·rename_i hi;cases c;exact Nl (by omega)
  ·cases c
 ·cases c
theorem Ug {len cap e:Nat} {lo hi mx:Option Operand} {l h:Nat} (d:bounds ρ len cap lo hi mx=some (l,h,m)) (f:∀x∈lo.toList++hi.toList++mx.toList,VRel σ (ρ x) (ρ' x))
  (hc:cap<=e) (isSlice:Bool):∃g,(Instr.sliceBounds isSlice len e (lo.map ρ') (hi.map ρ') (mx.map ρ')).run P w=.ok (l,h,g) w/\(mx=none->g=e/\m=cap)/\(mx≠none->g=m)/\
   l<=h/\m<=cap/\(hi=none->mx=none/\h=len)/\(hi≠none->h<=m):=by
 unfold bounds at d;cases mx with
 | none=>
   simp only at d;cases hi with
   | none=>
     simp only at d;cases lo with
     | none=>simp at d;obtain ⟨rfl,rfl,rfl⟩:=d;exact ⟨e,by simp [Instr.sliceBounds],fun _=>⟨rfl,rfl⟩,fun h=>absurd rfl h,Np _,Nf _,fun _=>⟨rfl,rfl⟩,fun h=>absurd rfl h⟩
     | some x=>
       simp only at d;cases h1:bound (ρ x) len with
       | none=>simp [h1] at d
       | some a=>
         simp [h1] at d;obtain ⟨rfl,rfl,rfl⟩:=d;exact ⟨e,by simp [Instr.sliceBounds,SK h1 (f x (by simp))],fun _=>⟨rfl,rfl⟩,fun h=>absurd rfl h,UT h1,Nf _,fun _=>⟨rfl,rfl⟩,fun h=>absurd rfl h⟩
   | some y=>
     simp only at d;cases h2:bound (ρ y) cap with
     | none=>simp [h2] at d
     | some b=>
       simp only [h2] at d;cases lo with
       | none=>
         simp at d;obtain ⟨rfl,rfl,rfl⟩:=d;exact ⟨e,by simp [Instr.sliceBounds,SK (Yr hc h2) (f y (by simp))],fun _=>⟨rfl,rfl⟩,fun h=>absurd rfl h,Np _,Nf _,fun h=>by simp at h,fun _=>UT h2⟩
       | some x=>
         simp only at d;cases h1:bound (ρ x) b with
         | none=>simp [h1] at d
         | some a=>
           simp [h1] at d;obtain ⟨rfl,rfl,rfl⟩:=d;exact ⟨e,by simp [Instr.sliceBounds,SK (Yr hc h2) (f y (by simp)),SK h1 (f x (by simp))],fun _=>⟨rfl,rfl⟩,fun h=>absurd rfl h,UT h1,Nf _,fun h=>by simp at h,fun _=>UT h2⟩
 | some z=>
   simp only at d;cases h3:bound (ρ z) cap with
   | none=>simp [h3] at d
   | some c=>
     simp only [h3] at d;cases hi with
     | none=>simp at d
     | some y=>
       simp only at d;cases h2:bound (ρ y) c with
       | none=>simp [h2] at d
       | some b=>
         simp only [h2] at d;cases lo with
         | none=>
           simp at d;obtain ⟨rfl,rfl,rfl⟩:=d;exact ⟨c,by simp [Instr.sliceBounds,SK (Yr hc h3) (f z (by simp)),SK h2 (f y (by simp))],fun h=>by simp at h,fun _=>rfl,Np _,UT h3,fun h=>by simp at h,fun _=>UT h2⟩
         | some x=>
           simp only at d;cases h1:bound (ρ x) b with
           | none=>simp [h1] at d
           | some a=>
             simp [h1] at d;obtain ⟨rfl,rfl,rfl⟩:=d;exact ⟨c,by simp [Instr.sliceBounds,SK (Yr hc h3) (f z (by simp)),SK h2 (f y (by simp)),SK h1 (f x (by simp))],fun h=>by simp at h,fun _=>rfl,UT h1,UT h3,fun h=>by simp at h,fun _=>UT h2⟩
end
end Go.AM



namespace Go.AM
theorem WC:∀{l:List KK} {a c:List Value} {r:Bool},PH l a c=some r->a.length=l.length/\c.length=l.length
 | [],[],[],_,_=>⟨rfl,rfl⟩
 | _::l,_::a,_::c,r,h=>by
   simp only [PH] at h;split at h
   ·rename_i h2;have:=WC h2;simp [this.1,this.2]
   ·cases h
 | [],_::_,_,_,h=>by simp [PH] at h
 | [],[],_::_,_,h=>by simp [PH] at h
 | _::_,[],_,_,h=>by simp [PH] at h
 | _::_,_::_,[],_,h=>by simp [PH] at h
theorem WE:∀{l m:List KK} {a c:List Value} {r:Bool},PH (l++m) a c=some r->
  ∃b r2,PH l (a.take l.length) (c.take l.length)=some b/\PH m (a.drop l.length) (c.drop l.length)=some r2/\r=(b&&r2)
 | [],m,a,c,r,h=>⟨true,r,by simp [PH],by simpa using h,by simp⟩
 | k::l,m,x::a,y::c,r,h=>by
   simp only [Ox,PH] at h;split at h
   ·rename_i p q h1 h2;cases h;obtain ⟨b,r2,d,e,rfl⟩:=WE h2;exact ⟨p&&b,r2,by simp [PH,h1,d],by simpa using e,by rw [Bool.and_assoc]⟩
   ·cases h
 | k::l,m,[],c,r,h=>by simp [PH] at h
 | k::l,m,_::_,[],r,h=>by simp [PH] at h
theorem Zl {k:KK} {a c:List Value} {r:Bool} (h:PH [k] a c=some r):∃x y,a=[x]/\c=[y]/\SQ k x y=some r:=by
 match a,c,h with
 | [x],[y],h=>
   refine ⟨x,y,rfl,rfl, ?_⟩;simp only [PH] at h;split at h
   ·rename_i h1 h2;cases h2;cases h;simpa using h1
   ·cases h
 | [],_,h=>simp [PH] at h
 | [_],[],h=>simp [PH] at h
 | [_],_::_::_,h=>simp [PH] at h
 | _::_::_,[],h=>simp [PH] at h
 | _::_::_,[_],h=>simp [PH] at h
 | _::_::_,_::_::_,h=>simp [PH] at h
section
variable {P:Program} (w:World)
variable {e f:Array TypeId} {b g r:Bool}
theorem Nnc {t:TypeId} {k:KK} (h:TG P t=some k):(∃l,k=.ints l)\/(P.underlying t=some .bool/\k=.bool)\/(P.underlying t=some .string/\k=.str)\/∃q,P.underlying t=some (.int q)/\k=.int q:=by
 unfold TG at h;cases hu:P.underlying t with
 | none=>simp [hu] at h
 | some d=>
   rw [hu] at h;have wide:(match PL P 20 t with | some l=>(TV l).map KK.ints | none=>none)=some k->∃l,k=.ints l:=fun h=>by
    split at h
    ·simp only [Nd] at h;obtain ⟨a,_,rfl⟩:=h;exact ⟨a,rfl⟩
    ·cases h
   cases d
   case bool=>simp at h;exact .inr (.inl ⟨rfl,h.symm⟩)
   case string=>simp at h;exact .inr (.inr (.inl ⟨rfl,h.symm⟩))
   case int q=>simp at h;exact .inr (.inr (.inr ⟨q,rfl,h.symm⟩))
   case struct b=>exact .inl (wide h)
   case array n e=>exact .inl (wide h)
   all_goals (simp at h;done)
theorem Npn (d:Nat) (t:TypeId) {k:KK} {x y:Value} (h:SQ k x y=some r) (b:TG P t=some k):(Op.equalIn (d+1) t x y).run P w=.ok r w:=by
 rcases Nnc b with ⟨l,rfl⟩ | ⟨a,rfl⟩ | ⟨a,rfl⟩ | ⟨q,a,rfl⟩
 ·cases x<;>cases y<;>simp [SQ] at h
 ·cases x<;>cases y<;>simp [SQ] at h;subst h;exact run_equalIn_bool w d t _ _ a
 ·cases x<;>cases y<;>simp [SQ] at h;subst h;exact run_equalIn_string w d t _ _ a
 ·cases x<;>cases y<;>simp only [SQ] at h<;>try (cases h;done)
  split at h
  ·rename_i hk;cases h;obtain ⟨rfl,rfl⟩:=hk;exact run_equalIn_int w d t _ _ _ _ a
  ·cases h
def N7p (P:Program) (w:World) (d:Nat) (t:TypeId) (l:List KK):Prop:=
 ∀(x y:Value) (r:Bool),(Rx P t=some true->(∃xs,x=.agg xs)/\∃ys,y=.agg ys)->(Rx P t=some false->x.cells=#[x]/\y.cells=#[y])->
  PH l x.cells.toList y.cells.toList=some r->(Op.equalIn d t x y).run P w=.ok r w
theorem VU (t:TypeId) (a:Rx P t=some b) {n:Nat} (hn:PZ P t=some n) (cs:Array Value) (off:Nat) (c:off+n<=cs.size) (h1:b=false->n=1) :
  ∃v,(part t cs off).run P w=.ok v w/\(Rx P t=some true->∃xs,v=.agg xs)/\(b=false->cs[off]? = some v)/\(b=true->v.cells.toList=(cs.toList.drop off).take n):=by
 cases b with
 | true=>exact ⟨_,Nhp a hn,fun _=>⟨_,rfl⟩,(fun h=>by cases h),fun _=>extract_toList cs off n⟩
 | false=>
   have:=h1 rfl;subst this;exact ⟨cs[off]'(by omega),Nhq a (Of (by omega)),(fun h=>by rw [a] at h;cases h),fun _=>Of (by omega),(fun h=>by cases h)⟩
theorem Nlk {d:Nat} {t:TypeId} {l:List KK} (o:N7p P w d t l) (g:Rx P t=some b) (hn:PZ P t=some l.length) (h1:b=false->l.length=1) (xs ys:Array Value) (off:Nat) (h:PH l ((xs.toList.drop off).take l.length) ((ys.toList.drop off).take l.length)=some r) (p:off+l.length<=xs.size) (q:off+l.length<=ys.size) :
  ∃a c,(part t xs off).run P w=.ok a w/\(part t ys off).run P w=.ok c w/\(Op.equalIn d t a c).run P w=.ok r w:=by
 obtain ⟨a,a1,a2,j,a4⟩:=VU w t g hn xs off p h1;obtain ⟨c,c1,c2,m,c4⟩:=VU w t g hn ys off q h1;refine ⟨a,c,a1,c1,o a c r (fun h=>⟨a2 h,c2 h⟩) (fun n=>?_) ?_⟩
 ·rw [g] at n;cases n;have hl:=h1 rfl;rw [hl] at h;have one:∀{f:Array Value} {z:Value},f[off]? = some z->(f.toList.drop off).take 1=[z]:=fun {f z} i=>by
   have:=(Array.getElem?_eq_some_iff.1 i)
   obtain ⟨h1,h2⟩:=this;rw [Oy (by simpa using h1)];simp [h2]
  rw [one (j rfl),one (m rfl)] at h;have hk:∃k,l=[k]:=by
   match l,hl with
   | [k],_=>exact ⟨k,rfl⟩
  obtain ⟨k,rfl⟩:=hk;obtain ⟨x,y,e1,e2,e3⟩:=Zl h;simp only [List.cons.injEq,and_true] at e1 e2;subst e1 e2;unfold SQ at e3;split at e3<;>first | exact ⟨rfl,rfl⟩ | (cases e3;done)
 ·cases b with
  | true=>rw [a4 rfl,c4 rfl];exact h
  | false=>
    have hl:=h1 rfl;rw [hl] at h;have one:∀{f:Array Value} {z:Value},f[off]? = some z->(f.toList.drop off).take 1=[z]:=fun {f z} i=>by
     obtain ⟨h1,h2⟩:=(Array.getElem?_eq_some_iff.1 i)
     rw [Oy (by simpa using h1)];simp [h2]
    rw [one (j rfl),one (m rfl)] at h;have hk:∃k,l=[k]:=by
     match l,hl with
     | [k],_=>exact ⟨k,rfl⟩
    obtain ⟨k,rfl⟩:=hk;obtain ⟨x,y,e1,e2,e3⟩:=Zl h;simp only [List.cons.injEq,and_true] at e1 e2;subst e1 e2;have e:a.cells=#[a]/\c.cells=#[c]:=by
     unfold SQ at e3;split at e3<;>first | exact ⟨rfl,rfl⟩ | (cases e3;done)
    rw [e.1,e.2];exact h
theorem Ncs {d:Nat} {e:TypeId} {l:List KK} (j:N7p P w d e l) {b:Bool} (k:Rx P e=some b) (hn:PZ P e=some l.length) (h1:b=false->l.length=1) (xs ys:Array Value) :
  ∀(m s:Nat) (r:Bool),PH (List.replicate m l).flatten (xs.toList.drop (s*l.length)) (ys.toList.drop (s*l.length))=some r->
   (Op.eqItems d e l.length xs ys (List.range' s m)).run P w=.ok r w
 | 0,s,r,h=>by
   simp only [List.replicate_zero,List.flatten_nil] at h;have:r=true:=by
    generalize xs.toList.drop (s*l.length)=u at h;generalize ys.toList.drop (s*l.length)=v at h;cases u<;>cases v<;>simp [PH] at h;exact h
   subst this;simp [Op.eqItems]
 | m+1,s,r,h=>by
   simp only [Po,List.flatten_cons] at h;have f:=WC h;simp only [Nk,O2,Array.length_toList] at f;obtain ⟨z,r2,n,o,rfl⟩:=WE h;have hs:xs.size>=s*l.length\/l.length=0:=by
    by_cases g:l.length=0
    ·exact .inr g
    ·left;omega
   have i:ys.size>=s*l.length\/l.length=0:=by
    by_cases g:l.length=0
    ·exact .inr g
    ·left;omega
   have p:s*l.length+l.length<=xs.size:=by
    rcases hs with h | h
    ·omega
    ·rw [h];omega
   have q:s*l.length+l.length<=ys.size:=by
    rcases i with h | h
    ·omega
    ·rw [h];omega
   obtain ⟨a,c,t,x,y⟩:=Nlk w j k hn h1 xs ys (s*l.length) n p q;have ih:=Ncs j k hn h1 xs ys m (s+1) r2 (by
    rw [show (s+1)*l.length=s*l.length+l.length by rw [P4];omega,<-List.drop_drop,<-List.drop_drop];exact o)
   rw [List.range'_succ];simp only [Op.eqItems,Sem.run_bind,t,x,y,Result.andThen_ok];cases z
   ·simp
   ·simpa using ih
theorem Nap (n d:Nat) (IH:∀t l,PL P n t=some l->N7p P w d t l) (xs ys:Array Value) :
  ∀(fs:List Field) (off:Nat) (l:List KK) (r:Bool),ZB P (PL P n) fs off=some l->PH l (xs.toList.drop off) (ys.toList.drop off)=some r->(l≠[]->off<=xs.size/\off<=ys.size)->
   (Op.eqFields d xs ys fs).run P w=.ok r w
 | [],off,l,r,hl,h,_=>by
   simp [ZB] at hl;subst hl;have:r=true:=by
    generalize xs.toList.drop off=u at h;generalize ys.toList.drop off=v at h;cases u<;>cases v<;>simp [PH] at h;exact h
   subst this;simp [Op.eqFields]
 | f::fs,off,l,r,hl,h,ho=>by
   simp only [ZB] at hl;split at hl
   ·cases hl
   rename_i hf;split at hl
   case h_2=>cases hl
   rename_i l1 hl1;split at hl
   case isFalse=>cases hl
   rename_i hc;simp only [Nd] at hl;obtain ⟨l2,hl2,rfl⟩:=hl;obtain ⟨hc,hne⟩:=hc;have hname:f.name≠ "_":=fun e=>hf (.inl e)
   have hoff:f.offset=off:=Oe fun e=>hf (.inr e)
   have hlen:=WC h;simp only [Nk,O2,Array.length_toList] at hlen;obtain ⟨r1,r2,g1,g2,rfl⟩:=WE h;have hu:∃dsc,P.underlying f.type=some dsc:=by
    cases hd:P.underlying f.type with
    | some x=>exact ⟨x,rfl⟩
    | none=>cases n<;>simp [PL,hd] at hl1
   obtain ⟨dsc,hu⟩:=hu;obtain ⟨i,hi⟩:=info_of_underlying hu;have hsz:PZ P f.type=some l1.length:=by
    rw [hc];simp [PZ,Program.cellsOf,hi]
   have hagg:∃b,Rx P f.type=some b/\(b=false->l1.length=1):=by
    cases n with
    | zero=>simp [PL] at hl1
    | succ n=>
      unfold PL at hl1;unfold Rx;rw [hu] at hl1⊢;cases dsc<;>simp at hl1<;>first
       | (subst hl1;exact ⟨false,rfl,fun _=>rfl⟩)
       | exact ⟨true,rfl,fun h=>by cases h⟩
   obtain ⟨b,hb,hb1⟩:=hagg;have hx:off+l1.length<=xs.size/\off+l1.length<=ys.size:=by
    have:=ho (fun e=>hne (by rw [(List.append_eq_nil_iff.1 e).1];rfl));omega
   obtain ⟨a,c,p1,p2,p3⟩:=Nlk w (IH _ _ hl1) hb hsz hb1 xs ys off g1 hx.1 hx.2;have ih:=Nap n d IH xs ys fs (off+l1.length) l2 r2 hl2 (by rw [<-List.drop_drop,<-List.drop_drop];exact g2) (fun _=>hx);simp only [Op.eqFields,hname,ne_eq,not_false_eq_true,if_true,Sem.run_bind,hoff,p1,p2,p3,Result.andThen_ok];cases r1
   ·simp
   ·simpa using ih
theorem VT:∀(n:Nat) (t:TypeId) (l:List KK),PL P n t=some l->∀d,N7p P w (d+n) t l
 | 0,t,l,h,_=>by simp [PL] at h
 | n+1,t,l,h,d=>by
   intro x y r m p hr;unfold PL at h;have cell:∀k,TG P t=some k->l=[k]->Rx P t=some false->(Op.equalIn (d+(n+1)) t x y).run P w=.ok r w:=by
    intro k hk hl C;subst hl;obtain ⟨h1,h2⟩:=p C;rw [h1,h2] at hr;obtain ⟨a,c,e1,e2,e3⟩:=Zl hr;simp at e1 e2;subst e1 e2;exact Npn w (d+n) t e3 hk
   split at h
   ·rename_i g;cases h;exact cell .bool (by simp [TG,g]) rfl (by simp [Rx,g])
   ·rename_i k g;cases h;exact cell (.int k) (by simp [TG,g]) rfl (by simp [Rx,g])
   ·rename_i g;cases h;exact cell .str (by simp [TG,g]) rfl (by simp [Rx,g])
   ·rename_i len e g;split at h
    case h_2=>cases h
    rename_i A f;split at h
    case isFalse=>cases h
    rename_i hc;cases h;obtain ⟨⟨xs,rfl⟩,⟨ys,rfl⟩⟩:=m (by simp [Rx,g]);have j:∃o,P.underlying e=some o:=by
     cases hd:P.underlying e with
     | some x=>exact ⟨x,rfl⟩
     | none=>cases n<;>simp [PL,hd] at f
    obtain ⟨o,j⟩:=j;obtain ⟨i,hi⟩:=info_of_underlying j;have z:PZ P e=some A.length:=by
     rw [hc];simp [PZ,Program.cellsOf,hi]
    have s:∃b,Rx P e=some b/\(b=false->A.length=1):=by
     cases n with
     | zero=>simp [PL] at f
     | succ n=>
       unfold PL at f;unfold Rx;rw [j] at f⊢;cases o<;>simp at f<;>first
        | (subst f;exact ⟨false,rfl,fun _=>rfl⟩)
        | exact ⟨true,rfl,fun h=>by cases h⟩
    obtain ⟨b,s,u⟩:=s;rw [show d+(n+1)=(d+n)+1 from rfl,run_equalIn_array w (d+n) xs ys g hi,<-hc,List.range_eq_range'];exact Ncs w (VT n e A f d) s z u xs ys len 0 r (by simpa [Value.cells] using hr)
   ·rename_i B g;split at h
    ·cases h
    rename_i v;obtain ⟨⟨xs,rfl⟩,⟨ys,rfl⟩⟩:=m (by simp [Rx,g]);have q:P.fieldsOf t=B:=by simp [Program.fieldsOf,g]
    rw [show d+(n+1)=(d+n)+1 from rfl,run_equalIn_struct w (d+n) t xs ys (by rw [q];exact g) (by simpa using v),q];exact Nap w n (d+n) (fun t l hl=>VT n t l hl d) xs ys B.toList 0 l r h (by simpa [Value.cells] using hr) (fun _=>⟨Np _,Np _⟩)
   ·cases h
theorem run_eqGuard_agg (op:BinOp) (t:TypeId) (x y:Operand) (xs ys:Array Value) (h:P.eqGuardType P.depth t=false):(eqGuard op t x y (.agg xs) (.agg ys)).run P w=.ok () w:=by
 cases op<;>simp [eqGuard,h]
theorem N2i (d:Nat) (t e:TypeId) (q:Option Addr) (h:P.underlying t=some (.pointer e)):(Op.equalIn (d+1) t (.pointer none) (.pointer q)).run P w=.ok q.isNone w:=by simp [Op.equalIn,run_underlying h]
theorem N2h (d:Nat) (t e:TypeId) (q:Addr) (h:P.underlying t=some (.pointer e)):(Op.equalIn (d+1) t (.pointer (some q)) (.pointer none)).run P w=.ok false w:=by simp [Op.equalIn,run_underlying h]
theorem N6r (d:Nat) (t e:TypeId) (q:Option Addr) (a b c f:Nat) (h:P.underlying t=some (.slice e)):(Op.equalIn (d+1) t (.slice none a b) (.slice q c f)).run P w=.ok q.isNone w:=by simp [Op.equalIn,run_underlying h]
theorem N6q (d:Nat) (t e:TypeId) (q:Addr) (a b c f:Nat) (h:P.underlying t=some (.slice e)):(Op.equalIn (d+1) t (.slice (some q) a b) (.slice none c f)).run P w=.ok false w:=by simp [Op.equalIn,run_underlying h]
theorem N2k (d:Nat) (t e f:TypeId) (q:Option Nat) (h:P.underlying t=some (.map e f)):(Op.equalIn (d+1) t (.map none) (.map q)).run P w=.ok q.isNone w:=by simp [Op.equalIn,run_underlying h]
theorem N2j (d:Nat) (t e f:TypeId) (q:Nat) (h:P.underlying t=some (.map e f)):(Op.equalIn (d+1) t (.map (some q)) (.map none)).run P w=.ok false w:=by simp [Op.equalIn,run_underlying h]
theorem N6u (d:Nat) (t:TypeId) (h:P.underlying t=some (.func e f g)):(Op.equalIn (d+1) t .nilFunc .nilFunc).run P w=.ok true w:=by simp [Op.equalIn,run_underlying h]
theorem N6t (d:Nat) (t:TypeId) (q:Fn) (i j:Array Value) (h:P.underlying t=some (.func e f g)):(Op.equalIn (d+1) t .nilFunc (.func q i j)).run P w=.ok false w:=by simp [Op.equalIn,run_underlying h]
theorem N6s (d:Nat) (t:TypeId) (q:Fn) (i j:Array Value) (h:P.underlying t=some (.func e f g)):(Op.equalIn (d+1) t (.func q i j) .nilFunc).run P w=.ok false w:=by simp [Op.equalIn,run_underlying h]
theorem Nxf {σ:PO} (neg:Bool) {k:EqKind} {t:TypeId} (hk:U1 P t=some k) (x y:Operand) {a b a' b':Value} (v:VRel σ a a') (s:VRel σ b b') (h:aEq k a b=some r) :
  (do eqGuard (if neg then .neq else .eql) t x y a' b';binOp (if neg then .neq else .eql) t a' b':Sem Value).run P w=.ok (.bool (if neg then !r else r)) w:=by
 have fin:(eqGuard (if neg then .neq else .eql) t x y a' b').run P w=.ok () w->(Op.equal t a' b').run P w=.ok r w->
   (∀(op:BinOp),op=.eql\/op=.neq->binOp op t a' b'=(if op=.eql then (do pure (.bool (<-Op.equal t a' b'))) else (do pure (.bool (!(<-Op.equal t a' b'))))))->
   (do eqGuard (if neg then .neq else .eql) t x y a' b';binOp (if neg then .neq else .eql) t a' b':Sem Value).run P w=.ok (.bool (if neg then !r else r)) w:=by
  intro h1 h2 H;cases neg
  ·simp only [N3,if_false] at h1⊢;rw [Sem.run_bind,h1,H .eql (.inl rfl)];simp [h2]
  ·simp only [if_true] at h1⊢;rw [Sem.run_bind,h1,H .neq (.inr rfl)];simp [h2]
 unfold aEq at h;split at h
 ·
  cases h;rw [v.bool_left,s.bool_left] at *;have o:P.underlying t=some .bool:=by unfold U1 at hk;split at hk<;>simp_all
  exact fin (QO _ _ _ _ (by simp) (by simp)) (run_equalIn_bool w 9999 t _ _ o) (by rintro op (rfl | rfl)<;>simp [binOp])
 ·cases h;rename_i q;rw [v.nilptr_left] at *;have o:∃e,P.underlying t=some (.pointer e):=by unfold U1 at hk;split at hk<;>simp_all
  obtain ⟨e,o⟩:=o;have u:∃q',b'=.pointer q'/\q'.isNone=q.isNone:=by
   cases s with
   | atom s=>exact ⟨_,rfl,rfl⟩
   | ptr s=>exact ⟨_,rfl,rfl⟩
  obtain ⟨q',rfl,A⟩:=u;refine fin (QO _ _ _ _ (by simp) (by simp)) ?_ (by rintro op (rfl | rfl)<;>cases q'<;>simp [binOp]);rw [<-A];exact N2i w 9999 t _ _ o
 ·cases h;obtain ⟨L,h1,h2,rfl⟩:=v.ptr_left;rw [s.nilptr_left] at *;have o:∃e,P.underlying t=some (.pointer e):=by unfold U1 at hk;split at hk<;>simp_all
  obtain ⟨e,o⟩:=o;refine fin (QO _ _ _ _ (by simp) (by simp)) ?_ (by rintro op (rfl | rfl)<;>simp [binOp]);exact N2h w 9999 t _ _ o
 ·cases h;rename_i n c q m cc;obtain ⟨rfl,rfl,rfl⟩:=v.nilslice_left;have o:∃e,P.underlying t=some (.slice e):=by unfold U1 at hk;split at hk<;>simp_all
  obtain ⟨e,o⟩:=o;have u:∃q' B c',b'=.slice q' B c'/\q'.isNone=q.isNone:=by
   cases s<;>exact ⟨_,_,_,rfl,rfl⟩
  obtain ⟨q',B,c',rfl,A⟩:=u;refine fin (QO _ _ _ _ (by simp) (by simp)) ?_ (by rintro op (rfl | rfl)<;>simp [binOp]);rw [<-A];exact N6r w 9999 t _ _ _ _ _ _ o
 ·cases h;rename_i q n c m cc;obtain ⟨rfl,rfl,rfl⟩:=s.nilslice_left;have o:∃e,P.underlying t=some (.slice e):=by unfold U1 at hk;split at hk<;>simp_all
  obtain ⟨e,o⟩:=o;have z:∃q' B c',a'=.slice (some q') B c':=by
   obtain ⟨_,L,_,h | ⟨_,_,_,_,_,h⟩ | ⟨_,_,_,h⟩⟩:=v.slice_left
   ·exact ⟨_,_,_,h.2⟩
   ·exact ⟨_,_,_,h⟩
   ·exact ⟨_,_,_,h⟩
  obtain ⟨q',B,c',rfl⟩:=z;refine fin (QO _ _ _ _ (by simp) (by simp)) ?_ (by rintro op (rfl | rfl)<;>simp [binOp]);exact N6q w 9999 t _ _ _ _ _ _ o
 ·cases h;rename_i q;rw [v.nilmap_left] at *;have o:∃e f,P.underlying t=some (.map e f):=by unfold U1 at hk;split at hk<;>simp_all
  obtain ⟨e,f,o⟩:=o;have u:∃q',b'=.map q'/\q'.isNone=q.isNone:=by
   cases s with
   | atom s=>exact ⟨_,rfl,rfl⟩
   | map s=>exact ⟨_,rfl,rfl⟩
  obtain ⟨q',rfl,A⟩:=u;refine fin (QO _ _ _ _ (by simp) (by simp)) ?_ (by rintro op (rfl | rfl)<;>simp [binOp]);rw [<-A];exact N2k w 9999 t _ _ _ o
 ·cases h;obtain ⟨L,h1,rfl⟩:=v.map_left;rw [s.nilmap_left] at *;have o:∃e f,P.underlying t=some (.map e f):=by unfold U1 at hk;split at hk<;>simp_all
  obtain ⟨e,f,o⟩:=o;refine fin (QO _ _ _ _ (by simp) (by simp)) ?_ (by rintro op (rfl | rfl)<;>simp [binOp]);exact N2j w 9999 t _ _ _ o
 ·cases h;rw [v.nilfunc_left,s.nilfunc_left] at *;have o:∃e f g,P.underlying t=some (.func e f g):=by unfold U1 at hk;split at hk<;>simp_all
  obtain ⟨e,f,g,o⟩:=o;refine fin (QO _ _ _ _ (by simp) (by simp)) ?_ (by rintro op (rfl | rfl)<;>simp [binOp]);exact N6u w 9999 t o
 ·cases h;rw [v.nilfunc_left] at *;have o:∃e f g,P.underlying t=some (.func e f g):=by unfold U1 at hk;split at hk<;>simp_all
  obtain ⟨e,f,g,o⟩:=o;have u:∃q i j,b'=.func q i j:=by cases s<;>exact ⟨_,_,_,rfl⟩
  obtain ⟨q,i,j,rfl⟩:=u;refine fin (QO _ _ _ _ (by simp) (by simp)) ?_ (by rintro op (rfl | rfl)<;>simp [binOp]);exact N6t w 9999 t _ _ _ o
 ·cases h;rw [s.nilfunc_left] at *;have o:∃e f g,P.underlying t=some (.func e f g):=by unfold U1 at hk;split at hk<;>simp_all
  obtain ⟨e,f,g,o⟩:=o;have z:∃q i j,a'=.func q i j:=by cases v<;>exact ⟨_,_,_,rfl⟩
  obtain ⟨q,i,j,rfl⟩:=z;refine fin (QO _ _ _ _ (by simp) (by simp)) ?_ (by rintro op (rfl | rfl)<;>simp [binOp]);exact N6s w 9999 t _ _ _ o
 ·rename_i l xs ys;obtain ⟨C,rfl,F,_⟩:=v.agg_left;obtain ⟨D,rfl,G,_⟩:=s.agg_left;have E:P.eqGuardType P.depth t=false/\PL P 20 t=some l/\Rx P t=some true:=by
   unfold U1 at hk;split at hk<;>simp_all [Rx]
  have same:∀{l:List KK} {a b c d:List Value} {r:Bool},OV σ a c->OV σ b d->PH l a b=some r->PH l c d=some r:=by
   intro l
   induction l with
   | nil=>
     intro a b c d r h1 h2 h;cases a<;>cases b<;>simp [PH] at h;have:=h1.1;have:=h2.1;cases c<;>cases d<;>simp_all [PH]
   | cons k l ih=>
     intro a b c d r h1 h2 h;cases a with
     | nil=>simp [PH] at h
     | cons x a=>
       cases b with
       | nil=>simp [PH] at h
       | cons y b=>
         cases c with
         | nil=>have:=h1.1;simp at this
         | cons I c=>
           cases d with
           | nil=>have:=h2.1;simp at this
           | cons J d=>
             simp only [PH] at h⊢;have hx:SQ k x y=SQ k I J\/SQ k x y=none:=by
              cases k<;>cases hxx:x<;>cases hyy:y<;>first
               | (right;rfl)
               | (left;subst hxx hyy;first | rw [h1.head.int_left,h2.head.int_left] | rw [h1.head.bool_left,h2.head.bool_left] | rw [h1.head.string_left,h2.head.string_left])
             split at h
             ·rename_i p q e1 e2;cases h;rcases hx with hx | hx
              ·rw [<-hx,e1,ih h1.tail h2.tail e2]
              ·rw [hx] at e1;cases e1
             ·cases h
  refine fin (run_eqGuard_agg w _ t x y C D E.1) ?_ (by rintro op (rfl | rfl)<;>simp [binOp]);exact VT w 20 t l E.2.1 9980 (.agg C) (.agg D) r (fun _=>⟨⟨_,rfl⟩,⟨_,rfl⟩⟩) (fun h=>by rw [E.2.2] at h;cases h) (same F G h)
 ·cases h
end
end Go.AM



namespace Go.AM
open Go.MapKept
section
variable {P:Program} {pureF:FuncId->Bool} {Pg:Prg} {W:Nat->Prop} {lim:Nat} {σ:PO} {H H':NA} {w:World} {dest:Option Nat} {ρ ρ':Operand->Value} {v:Value}
variable {ps:List (Nat×Nat×Operand)} {n:Nat} {z:List Value} {parts:Array (Nat×Operand)} {e:TypeId}
theorem Ve {t:TypeId} (h:zeroOf P t=some z):∃i a,P.info? t=some i/\i.zero=some a/\z=a.cells.toList/\(∀x∈z,atom x=true/\x.oneCell'=true):=by
 unfold zeroOf at h;split at h
 ·rename_i i hi;split at h
  ·rename_i a d;split at h
   ·rename_i b;cases h;refine ⟨i,a,hi,d,rfl,fun x c=>?_⟩;have:=N7.1 b x c;simpa using this
   ·cases h
  ·cases h
 ·cases h
theorem Nbb {t:TypeId} (h:PZ P t=some n):∃i,P.info? t=some i/\i.size=n:=by
 simpa [PZ] using h
theorem Nf7 {t:TypeId} (h:Zn P t=some n):∃i,P.info? t=some i/\i.bytes=n:=by
 simpa [Zn] using h
theorem Nok (a:Inv Pg W lim σ H w) (hd:∀d,dest=some d->d<H.length/\σ d=none) (l:zeroOf P e=some z)
  (f:NL lim dest (.alloc z) ρ H=some (v,H')) (o:Oper) (ho:o.op=.alloc e):OZ Pg W lim σ dest H w ((execOp ρ' o).run P w) v H':=by
 obtain ⟨i,h,hi,g,rfl,b⟩:=Ve l;simp only [NL] at f;cases hp:place dest (.cells false h.cells.toList) H with
 | mk k K=>
 rw [hp] at f;cases f;refine OZ.made a hd hp (cs:=h.cells) (el:=e) (fun j x c=>⟨x,by simpa using c,.atom (b x (Oh c)).1,(b x (Oh c)).2⟩) (by simp) a (Stp.refl _ _)
  (v':=.pointer (some ⟨w.heap.size,0,none⟩)) ?_ (by simpa using VRel.ptr (σ:=σ.put k ⟨w.heap.size,0,h.cells.size⟩) (i:=k) (k:=0) PO.put_same)
 simp [execOp,ho,Instr.alloc,zeroValue,typeInfo,hi,g,newVar,newRow]
theorem Nwz (a:Inv Pg W lim σ H w) (hd:∀d,dest=some d->d<H.length/\σ d=none) {x:Operand} (c:VRel σ (ρ x) (ρ' x))
  (b:NL lim dest (.box x) ρ H=some (v,H')) (o:Oper) (ho:o.op=.box e x):OZ Pg W lim σ dest H w ((execOp ρ' o).run P w) v H':=by
 simp only [NL] at b;split at b
 case isFalse=>cases b
 rename_i h;cases hp:place dest (.cells false (ρ x).cells.toList) H with
 | mk k K=>
 rw [hp] at b;cases b;refine OZ.made a hd hp (cs:=(ρ' x).cells) (el:=e) (fun j y g=>?_) (by have:=c.cells.1;simp at this;simp;omega) a (Stp.refl _ _)
  (v':=.pointer (some ⟨w.heap.size,0,none⟩)) ?_ (by simpa using VRel.ptr (σ:=σ.put k ⟨w.heap.size,0,(ρ' x).cells.size⟩) (i:=k) (k:=0) PO.put_same)
 ·obtain ⟨f,h1,h2⟩:=c.cells.get g;exact ⟨f,by simpa using h1,h2,c.cells_one h f (Oh h1)⟩
 ·simp [execOp,ho,Instr.box,newVar,newRow]
theorem Ncn (P:Program) (w:World):∀(a:List Field),(a.all fun f=>(P.info? f.type).isSome)=true->
  (a.mapM fun f=>(do pure (f.offset,<-sizeOf f.type):Sem (Nat×Nat))).run P w=.ok (a.map fun f=>(f.offset,P.cellsOf f.type)) w
 | [],_=>rfl
 | f::a,h=>by
   simp only [List.all_cons,N2] at h;obtain ⟨i,hi⟩:=Option.isSome_iff_exists.1 h.1;have ih:=Ncn P w a h.2;have h1:(do pure (f.offset,<-sizeOf f.type):Sem (Nat×Nat)).run P w=.ok (f.offset,P.cellsOf f.type) w:=by simp [sizeOf,typeInfo,hi,Program.cellsOf]
   rw [List.mapM_cons,Sem.run_bind,h1];simp only [Result.andThen_ok,Sem.run_bind,ih,Sem.run_pure,Oj]
theorem Ndx (h:∀x∈z,atom x=true/\x.oneCell'=true):OV σ z z:=OV.refl_of fun x a=>.atom (h x a).1
theorem Neg (P:Program) (w:World) (a:Array Field) (h:(a.toList.all fun f=>(P.info? f.type).isSome)=true) :
  (a.mapM fun f=>(do pure (f.offset,<-sizeOf f.type):Sem (Nat×Nat))).run P w=.ok (a.map fun f=>(f.offset,P.cellsOf f.type)) w:=by
 rw [Array.mapM_eq_mapM_toList];rw [Sem.run_map,Ncn P w a.toList h];simp only [Result.andThen_ok];congr 1;apply Array.ext';simp
theorem MB (r:Inv Pg W lim σ H w) {t:TypeId} {d:Array Field} (M:P.underlying t=some (.struct d)) (G:zeroOf P t=some z)
  (b:parts.toList.mapM (No6 P d)=some ps) (k:(d.toList.all fun f=>(P.info? f.type).isSome)=true) (O:∀x,QB x=true->VRel σ (ρ x) (ρ' x))
  (F:NL lim dest (.build z ps) ρ H=some (v,H')) (o:Oper) (ho:o.op=.build t parts):OZ Pg W lim σ dest H w ((execOp ρ' o).run P w) v H':=by
 obtain ⟨i,u,hi,E,rfl,m⟩:=Ve G;simp only [NL,Nd,Prod.mk.injEq] at F;obtain ⟨c,hc,rfl,rfl⟩:=F;have key:parts.toList.length=ps.length/\∀(j:Nat) s p,parts.toList[j]? = some s->ps[j]? = some p->((d.map fun f=>(f.offset,P.cellsOf f.type))[s.1]? = some (p.1,p.2.1))/\p.2.2=s.2/\VRel σ (ρ s.2) (ρ' s.2):=by
  generalize parts.toList=l at b;clear hc ho G
  induction l generalizing ps with
  | nil=>simp at b;subst b;exact ⟨rfl,fun j s p h=>by simp at h⟩
  | cons a l ih=>
    rw [List.mapM_cons] at b;simp only [bind,Option.bind_eq_some_iff,pure,Option.some.injEq] at b;obtain ⟨q,g,R,D,rfl⟩:=b;obtain ⟨I,J⟩:=ih D;refine ⟨by simp [I],fun j s p hs hp=>?_⟩;cases j with
    | zero=>
      simp at hs hp;subst hs hp;simp only [No6,bind,Option.bind_eq_some_iff] at g;obtain ⟨f,L,n,hn,g⟩:=g;split at g
      case isFalse=>cases g
      rename_i C;cases g;obtain ⟨Q,A,B⟩:=Nbb hn;refine ⟨by simp [L,Program.cellsOf,A,B],rfl,O _ C⟩
    | succ j=>exact J j s p (by simpa using hs) (by simpa using hp)
 obtain ⟨c',h1,h2,K⟩:=Uy (σ:=σ) ρ ρ' (fun j=>(d.map fun f=>(f.offset,P.cellsOf f.type))[j]?) parts.toList ps u.cells.toList c u.cells.toList key.1 key.2 hc (Ndx m) (fun y N=>(m y N).2);refine OZ.plain r (v':=.agg c'.toArray) ?_ (VRel.agg_iff.2 ⟨by simpa using h2,by simpa using K⟩);simp only [execOp,ho];refine QA P w _ ?_;simp only [Instr.build,Sem.run_bind,zeroValue,typeInfo,run_program,Result.andThen_ok,hi,E,Sem.run_pure,run_underlying M,Neg P w d k];have e:((parts.map fun x=>(x.1,ρ' x.2)).toList)=parts.toList.map fun x=>(x.1,ρ' x.2):=by simp
 rw [e];have e2:(u.cells.toList).toArray=u.cells:=by simp
 rw [e2] at h1;rw [h1];simp
theorem Nau (d:Inv Pg W lim σ H w) {t:TypeId} (q:P.underlying t=some (.array n e)) (u:zeroOf P t=some z) {s:Nat} (hs:PZ P e=some s)
  (g:∀x∈parts.toList,VRel σ (ρ x.2) (ρ' x.2))
  (l:NL lim dest (.build z (parts.toList.map fun x=>(x.1*s,s,x.2))) ρ H=some (v,H')) (o:Oper) (ho:o.op=.build t parts):OZ Pg W lim σ dest H w ((execOp ρ' o).run P w) v H':=by
 obtain ⟨i,f,hi,h,rfl,b⟩:=Ve u;simp only [NL,Nd,Prod.mk.injEq] at l;obtain ⟨c,hc,rfl,rfl⟩:=l;obtain ⟨c',h1,h2,m⟩:=Uy (σ:=σ) ρ ρ' (fun j=>some (j*s,s)) parts.toList _ f.cells.toList c f.cells.toList (by simp) (fun j a p k hp=>by
  rw [Pk,k] at hp;simp at hp;subst hp;exact ⟨rfl,rfl,g a (Oh k)⟩) hc (Ndx b) (fun y r=>(b y r).2)
 refine OZ.plain d (v':=.agg c'.toArray) ?_ (VRel.agg_iff.2 ⟨by simpa using h2,by simpa using m⟩);simp only [execOp,ho];refine QA P w _ ?_;simp only [Instr.build,Sem.run_bind,zeroValue,typeInfo,run_program,Result.andThen_ok,hi,h,Sem.run_pure,run_underlying q,Tt hs];have e:((parts.map fun x=>(x.1,ρ' x.2)).toList)=parts.toList.map fun x=>(x.1,ρ' x.2):=by simp
 rw [e];have e2:(f.cells.toList).toArray=f.cells:=by simp
 rw [e2] at h1;rw [h1];simp
theorem Nb5 (g:Inv Pg W lim σ H w) (hd:∀d,dest=some d->d<H.length/\σ d=none) {t:TypeId} {len:Nat} (O:P.underlying t=some (.slice e)) (U:zeroOf P e=some z) {s:Nat} (hs:PZ P e=some s)
  (G:z.length=s) (F:s≠0) (N:len*s<=2 ^ 20) (E:∀x∈parts.toList,VRel σ (ρ x.2) (ρ' x.2))
  (q:NL lim dest (.buildSlice len ((List.range (len*s)).map fun j=>z.getD (j % z.length) undef) (parts.toList.map fun x=>(x.1*s,s,x.2))) ρ H=some (v,H')) (o:Oper) (ho:o.op=.buildSlice t len parts) :
  OZ Pg W lim σ dest H w ((execOp ρ' o).run P w) v H':=by
 obtain ⟨i,b,hi,I,rfl,C⟩:=Ve U;simp only [NL] at q;split at q
 case h_2=>cases q
 rename_i c hc;have r:∀j,atom (b.cells.toList.getD (j % b.cells.toList.length) undef)=true/\(b.cells.toList.getD (j % b.cells.toList.length) undef).oneCell'=true:=fun j=>by
  have l:j % b.cells.toList.length<b.cells.toList.length:=P6 _ (by omega);rw [Nb,Ni l];exact C _ (Qa l)
 have A:∀x∈((List.range (len*s)).map fun j=>b.cells.toList.getD (j % b.cells.toList.length) undef),atom x=true/\x.oneCell'=true:=fun x q=>by
  obtain ⟨j,_,rfl⟩:=List.mem_map.1 q;exact r j
 obtain ⟨c',h1,h2,S⟩:=Uy (σ:=σ) ρ ρ' (fun j=>some (j*s,s)) parts.toList _ _ c _ (by simp) (fun j a p M hp=>by
  rw [Pk,M] at hp;simp at hp;subst hp;exact ⟨rfl,rfl,E a (Oh M)⟩) hc (Ndx A) (fun y T=>(A y T).2)
 cases hp:place dest (.cells false c) H with
 | mk k K=>
 rw [hp] at q;cases q;refine OZ.made g hd hp (cs:=c'.toArray) (el:=e) (fun j y l=>?_) (by have:=h2.1;simp;omega) g (Stp.refl _ _)
  (v':=.slice (some ⟨w.heap.size,0,none⟩) len len) ?_ ?_
 ·obtain ⟨Q,J,R⟩:=h2.get l;exact ⟨Q,by simpa using J,R,S Q (Oh J)⟩
 ·simp only [execOp,ho];refine QA P w _ ?_;have u:¬(len*s > 2 ^ 24):=by omega
  have e:((parts.map fun x=>(x.1,ρ' x.2)).toList)=parts.toList.map fun x=>(x.1,ρ' x.2):=by simp
  have e3:∀m,(Array.map (fun x=>b.cells[x % b.cells.size]!) (Array.range m))=((List.range m).map fun j=>b.cells.toList.getD (j % b.cells.toList.length) undef).toArray:=fun m=>by
   apply Array.ext';simp only [Array.toList_map,Array.toList_range,Array.length_toList];refine P9 fun j _=>?_
   have l:j % b.cells.size<b.cells.size:=P6 _ (by simp at G;omega);rw [Nb,Array.getElem?_toList,Of l];simp [l]
  by_cases L:len*s=0
  ·have D:len=0:=by
    rcases Nat.mul_eq_zero.1 L with h | h
    ·exact h
    ·exact absurd h F
   subst D;simp only [Instr.buildSlice,Sem.run_bind,run_underlying O,Result.andThen_ok,Tt hs,Qi,e];simp only [Qi,List.range_zero,List.map_nil] at h1;have:¬(0 > 2 ^ 24):=by omega
   have e0:∀f:Nat->Value,Array.map f (Array.range 0)=#[]:=fun f=>by apply Array.ext';simp
   simp [e0,h1,newRow]
  ·simp only [Instr.buildSlice,Sem.run_bind,run_underlying O,Result.andThen_ok,Tt hs,Ng u,Ng L,e,zeroValue,typeInfo,run_program,hi,I,Sem.run_pure,e3,h1];simp [newRow]
 ·have B:len<2 ^ 62:=by
   have:len*1<=len*s:=Nat.mul_le_mul_left _ (by omega);omega
  simpa using VRel.slice (σ:=σ.put k ⟨w.heap.size,0,c'.toArray.size⟩) (i:=k) (k:=0) (n:=len) PO.put_same B
end
section
variable {P:Program} {Pg:Prg} {W:Nat->Prop} {lim:Nat} {σ:PO} {H H':NA} {w:World} {dest:Option Nat} {ρ ρ':Operand->Value} {v:Value}
variable {e:TypeId}
theorem Uh (a:Addr) (n:Nat) (hs:a.spot=none):a.add n=⟨a.block,a.off+n,none⟩:=by
 obtain ⟨b,o,s⟩:=a;simp only at hs;subst hs;unfold Addr.add;split
 ·rename_i h;subst h;rfl
 ·rfl
theorem VRel.ptr_add {a:Addr} {L:Loc} (hL:σ a.block=some L) (hs:a.spot=none) (n:Nat) :
  VRel σ (.pointer (some (a.add n))) (.pointer (some ((⟨L.blk,L.base+a.off,none⟩:Addr).add n))):=by
 rw [Uh a n hs,Uh _ n rfl];have:=VRel.ptr (σ:=σ) (i:=a.block) (k:=a.off+n) hL;rw [<-Pq] at this;exact this
theorem Nlt {s f:Nat} {b:Array Field} {fd:Field} {n:Nat} (e:P.underlying s=some (.struct b)) (d:b[f]? = some fd) (hn:PZ P fd.type=some n) (c:n≠0) (a:Addr) :
  (Instr.fieldAt s (.pointer (some a)) f).run P w=.ok (.pointer (some (a.add fd.offset))) w:=by
 simp [Instr.fieldAt,run_underlying e,d,Instr.sureAddr,fieldPlace,Tt hn,c]
theorem Mv {t:TypeId} {s:Nat} (b:P.underlying t=some (.slice e)) (hs:PZ P e=some s) (a:Addr) (len cap:Nat) (k:IntKind) (n:Int) (h:0<=n/\n<(len:Int)) :
  (Instr.indexAt t (.slice (some a) len cap) (.int k n)).run P w=.ok (.pointer (some (a.add (n.toNat*s)))) w:=by
 simp [Instr.indexAt,asIntOf,run_underlying b,Tt hs,h]
theorem Mw {t:TypeId} {s len:Nat} (b:P.underlying t=some (.array len e)) (hs:PZ P e=some s) (a:Addr) (k:IntKind) (n:Int) (h:0<=n/\n<(len:Int)) :
  (Instr.indexAt t (.pointer (some a)) (.int k n)).run P w=.ok (.pointer (some (a.add (n.toNat*s)))) w:=by
 simp [Instr.indexAt,asIntOf,run_underlying b,Tt hs,Instr.sureAddr,h]
theorem Xp {t:TypeId} {s len:Nat} (a:P.underlying t=some (.array len e)) (hs:PZ P e=some s) (cs:Array Value) (k:IntKind) (n:Int) (h:0<=n/\n<(len:Int)) :
  (Instr.index t (.agg cs) (.int k n)).run P w=(part e cs (n.toNat*s)).run P w:=by
 simp [Instr.index,asIntOf,run_underlying a,Tt hs,h]
theorem Njf {t:TypeId} {s:Nat} (N:P.underlying t=some (.slice e)) (hs:PZ P e=some s) {x M:Value} (K:VRel σ x M) {lo hi mx:Option Operand}
  (D:∀y∈lo.toList++hi.toList++mx.toList,VRel σ (ρ y) (ρ' y)) (h:TH s ρ x lo hi mx=some v) :
  ∃v',(Instr.sliceAt t M (lo.map ρ') (hi.map ρ') (mx.map ρ')).run P w=.ok v' w/\VRel σ v v':=by
 unfold TH at h;split at h
 case h_2=>cases h
 rename_i a len cap;have run:∀(a':Option Addr) (g f l h' b:Nat),(Instr.sliceBounds true g f (lo.map ρ') (hi.map ρ') (mx.map ρ')).run P w=.ok (l,h',b) w->
   (Instr.sliceAt t (.slice a' g f) (lo.map ρ') (hi.map ρ') (mx.map ρ')).run P w=.ok (.slice (if b=l then a' else a'.map (·.add (l*s))) (h'-l) (b-l)) w:=by
  intro a' g f l h' b j;simp [Instr.sliceAt,Instr.slice,run_underlying N,j,Tt hs]
 cases a with
 | none=>
   obtain ⟨rfl,rfl,rfl⟩:=K.nilslice_left;have F:¬(0=loose s):=by unfold loose;omega
   rw [Ng F,Nl (by omega)] at h;split at h
   ·cases h
   ·rename_i l h' m j;cases h;obtain ⟨b,o,r2,p,r4,E,r,u⟩:=Ug (P:=P) (w:=w) j D (Nf _) true;have hm:b=m:=by
     by_cases e:mx=none
     ·rw [(r2 e).1,(r2 e).2]
     ·exact p e
    subst hm;have C:l=0/\h'=0/\b=0:=by
     by_cases e:hi=none
     ·have:=r e;omega
     ·have:=u e;omega
    obtain ⟨rfl,rfl,rfl⟩:=C;exact ⟨_,run _ _ _ _ _ _ o,by simpa using VRel.atom rfl⟩
 | some a=>
   obtain ⟨d,L,hL,hc⟩:=K.slice_left;split at h
   ·
    rename_i q;split at h
    ·cases h
    rename_i l h' m j;rcases hc with ⟨A,_⟩ | ⟨e',he,c',hn,hr,rfl⟩ | ⟨a',he,hn,rfl⟩
    ·rw [q] at A;unfold loose at A;omega
    ·have H:e'=s:=by rw [q] at he;unfold loose at he;omega
     subst H;obtain ⟨b,o,r2,p,r4,E,r,u⟩:=Ug (P:=P) (w:=w) j D hn true;have O:h'<=len:=by
      by_cases e:hi=none
      ·have:=r e;omega
      ·have:=u e;omega
     refine ⟨_,run _ _ _ _ _ _ o, ?_⟩;cases mx with
     | none=>
       simp only at h;cases h;obtain ⟨e1,e2⟩:=r2 rfl;subst e1;by_cases B:b=l
       ·rw [Nl B];have:h'-l=0:=by omega
        rw [this,B,Qq];simp only [Ny];rw [Uh a _ d];exact .eslice hL (.inr ⟨_,rfl⟩)
       ·rw [Ng B];simp only [Ny];rw [Uh a _ d,Uh _ _ rfl];have key:a.off+l*e'+(b-l)*e'<=L.room:=by
         have:l*e'+(b-l)*e'=b*e':=by rw [<-P4];congr 1;omega
         omega
        have:=VRel.lslice (σ:=σ) (i:=a.block) (k:=a.off+l*e') (n:=h'-l) (e:=e') (c:=b-l) hL (by omega) key;rw [<-Pq] at this;exact this
     | some z=>
       simp only at h;split at h
       case isFalse=>cases h
       rename_i J;cases h;have I:=p (by simp);subst I;split
       ·exact VRel.slice' d hL (by omega)
       ·simp only [Ny];rw [Uh a _ d,Uh _ _ rfl];have:=VRel.slice (σ:=σ) (i:=a.block) (k:=a.off+l*e') (n:=h'-l) (c:=b-l) hL (by omega);rw [<-Pq] at this;exact this
    ·subst hn;obtain ⟨b,o,r2,p,r4,E,r,u⟩:=Ug (P:=P) (w:=w) j D (Nf _) true;have hm:b=m:=by
      by_cases e:mx=none
      ·rw [(r2 e).1,(r2 e).2]
      ·exact p e
     subst hm;have C:l=0/\h'=0/\b=0:=by
      by_cases e:hi=none
      ·have:=r e;omega
      ·have:=u e;omega
     obtain ⟨rfl,rfl,rfl⟩:=C;refine ⟨_,run _ _ _ _ _ _ o, ?_⟩;cases mx with
     | none=>
       simp only at h;cases h;simp only [Ny,if_true,Qq];rw [Uh a _ d];exact .eslice hL (.inr ⟨_,rfl⟩)
     | some z=>
       simp at h;subst h;exact VRel.eslice' d hL (.inl rfl)
   ·split at h
    case isFalse=>cases h
    rename_i A;split at h
    ·cases h
    rename_i l h' m j;cases h;rcases hc with ⟨_,rfl⟩ | ⟨e',he,_⟩ | ⟨a',he,hn,rfl⟩
    ·obtain ⟨b,o,r2,p,r4,E,r,u⟩:=Ug (P:=P) (w:=w) j D (Nf _) true;have hm:b=m:=by
      by_cases e:mx=none
      ·rw [(r2 e).1,(r2 e).2]
      ·exact p e
     subst hm;refine ⟨_,run _ _ _ _ _ _ o, ?_⟩;split
     ·exact VRel.slice' d hL (by omega)
     ·simp only [Ny];rw [Uh a _ d,Uh _ _ rfl];have:=VRel.slice (σ:=σ) (i:=a.block) (k:=a.off+l*s) (n:=h'-l) (c:=b-l) hL (by omega);rw [<-Pq] at this;exact this
    ·exact absurd he (by unfold loose at *;omega)
    ·subst hn;have G:cap=0:=by
      rcases he with h | ⟨e,h⟩
      ·exact h
      ·exact absurd h (by unfold loose at *;omega)
     subst G;obtain ⟨b,o,r2,p,r4,E,r,u⟩:=Ug (P:=P) (w:=w) j D (Nf _) true;have hm:b=m:=by
      by_cases e:mx=none
      ·rw [(r2 e).1,(r2 e).2]
      ·exact p e
     subst hm;have C:l=0/\h'=0/\b=0:=by
      by_cases e:hi=none
      ·have:=r e;omega
      ·have:=u e;omega
     obtain ⟨rfl,rfl,rfl⟩:=C;refine ⟨_,run _ _ _ _ _ _ o, ?_⟩;simp only [if_true,Qq];exact VRel.eslice' d hL (.inl rfl)
end
section
variable {P:Program} {Pg:Prg} {W:Nat->Prop} {lim:Nat} {σ:PO} {H H':NA} {w:World} {dest:Option Nat} {v:Value}
variable {esz:Nat} {x:Value}
theorem Nt8 (o:Inv Pg W lim σ H w) {q:TypeId} {m:Nat} {str:Bool} (f:if str then P.underlying q=some .string/\esz=1 else ∃r,P.underlying q=some (.slice r)) {p:Value} (t:VRel σ x p)
  {new:List Value} (hn:firstCells H esz str x=some new) (hm:lenOf x=some m) :
  ∃news,Src P esz q p m news w/\OV σ new news/\(∀y∈news,y.oneCell'=true)/\new.length=m*esz:=by
 unfold firstCells at hn;split at hn
 ·rename_i n c;obtain ⟨rfl,rfl,rfl⟩:=t.nilslice_left;simp [lenOf] at hm;subst hm;split at hn
  ·cases hn
  ·rename_i hs;cases hn;simp at hs;rw [hs] at f;obtain ⟨r,g⟩:=f;exact ⟨[],Src.ofNil w g 0,OV.nil,fun y i=>by simp at i,by simp⟩
 ·rename_i a n c;simp [lenOf] at hm;subst hm;split at hn
  ·cases hn
  ·rename_i hs;simp at hs;rw [hs] at f;obtain ⟨r,g⟩:=f;obtain ⟨C,L,hL,hc⟩:=t.slice_left;have k:∀c',p=.slice (some ⟨L.blk,L.base+a.off,none⟩) n c'->∃news,Src P esz q p n news w/\OV σ new news/\(∀y∈news,y.oneCell'=true)/\new.length=n*esz:=by
    intro c' d;by_cases l:n=0
    ·subst l;rw [Nl rfl] at hn;cases hn;subst d;exact ⟨[],Src.ofSlice w g _ 0 c' [] (by simp) (fun j u h=>by simp at h) (fun u h=>by simp at h),OV.nil,fun y i=>by simp at i,by simp⟩
    rw [Ng l] at hn;obtain ⟨z,h1,h2,v,B⟩:=o.loadCells hL hn;subst d;refine ⟨z,Src.ofSlice w g _ n c' z h2 (fun j u h=>by rw [Addr.add_mid];exact B j u h) v,h1,v,by rw [h1.1,h2]⟩
   rcases hc with ⟨_,d⟩ | ⟨e,_,c',_,_,d⟩ | ⟨a',_,A,d⟩
   ·exact k _ d
   ·exact k _ d
   ·subst A d;rw [Nl rfl] at hn;cases hn;exact ⟨[],Src.ofSlice w g _ 0 0 [] (by simp) (fun j u h=>by simp at h) (fun u h=>by simp at h),OV.nil,fun y i=>by simp at i,by simp⟩
 ·rename_i s;simp [lenOf] at hm;subst hm;split at hn
  case isFalse=>cases hn
  rename_i hs;cases hn;rw [Nl hs] at f;obtain ⟨f,rfl⟩:=f;rw [t.string_left];refine ⟨byteCells s,Src.ofString w f s,OV.refl_of fun y i=>?_,fun y i=>?_,by simp⟩
  ·obtain ⟨b,_,rfl⟩:=List.mem_map.1 i;exact .atom rfl
  ·obtain ⟨b,_,rfl⟩:=List.mem_map.1 i;rfl
 ·cases hn
theorem Nku (f:Inv Pg W lim σ H w) (hd:∀d,dest=some d->d<H.length/\σ d=none) {st xt ty e:TypeId} (S:P.underlying st=some (.slice e)) {bytes:Nat} {str:Bool}
  (bf:if str then P.underlying xt=some .string/\esz=1 else ∃e',P.underlying xt=some (.slice e')) (a3:PZ P e=some esz) (a0:Zn P e=some bytes) {z:List Value} (hz:zeroOf P e=some z) (bg:z.length=esz)
  {s s' x':Value} (hs:VRel σ s s') (hx:VRel σ x x') (h:OP lim dest esz bytes str s x H=some (v,H')) {run:Result Next}
  (E:run=((Builtin.append_ #[st,xt] ty #[s',x']).run P w).andThen fun v w'=>.ok (.value v) w'):OZ Pg W lim σ dest H w run v H':=by
 obtain ⟨i,hi,a6⟩:=Nbb a3;obtain ⟨i2,ai,a5⟩:=Nf7 a0;rw [hi] at ai;cases ai;obtain ⟨i3,zv,aj,bk,bm,bn⟩:=Ve hz;rw [hi] at aj;cases aj;have bh:zv.cells.size=esz:=by rw [<-bg,bm];simp
 subst a6 a5;unfold OP at h;split at h
 case h_2=>cases h
 rename_i base n cap new m am hm;obtain ⟨news,F,g,D,O⟩:=Nt8 f bf hx am hm;split at h
 ·cases h
 rename_i B;have bq:i.size≠0:=fun e=>B (.inl e)
 have ax:¬(n+m)*i.bytes > OX:=fun e=>B (.inr (.inl e))
 have bu:¬n+m>=2 ^ 62:=fun e=>B (.inr (.inr (.inl e)))
 have bv:¬cap<n:=fun e=>B (.inr (.inr (.inr e)))
 have T:(n+m)*i.bytes<=140737488355328:=by unfold OX at ax;omega
 split at h
 ·rename_i al;subst al;have ba:news=[]:=by have:=g.1;simp at O;subst O;simpa using this.symm
  subst ba;cases h;have fin:∀b' n' c',s'=.slice b' n' c'->n'<=c'->OZ Pg W lim σ dest H w run (.slice base n cap) H:=fun b' n' c' b a7=>by
   refine OZ.plain f (v':=s') ?_ hs;subst b;rw [E,run_append_nothing w st xt ty e i S hi b' n' c' a7 x' F];rfl
  cases base with
  | none=>obtain ⟨_,_,b⟩:=hs.nilslice_left;exact fin _ _ _ b (Nf _)
  | some a=>
    obtain ⟨_,L,hL,⟨_,b⟩ | ⟨_,_,c',hn,_,b⟩ | ⟨_,_,_,b⟩⟩:=hs.slice_left
    ·exact fin _ _ _ b (by omega)
    ·exact fin _ _ _ b hn
    ·exact fin _ _ _ b (Nf _)
 rename_i al;have a8:0<m:=by omega
 have grow:∀(H0:NA) (A:Option Addr) (n' c':Nat) (old olds:List Value) (k:Nat) (K:NA),Inv Pg W lim σ H0 w->H0.length=H.length->s'=.slice A n' c'->n'=n->OV σ old olds->(∀y∈olds,y.oneCell'=true)->old.length=n*i.size->
   (Builtin.firstCells i.size n' (.slice A n' c')).run P w.drew=.ok olds.toArray w.drew->c'<n+m->place dest (.cells false (old++new)) H0=(k,K)->
   OZ Pg W lim σ dest H w run (.slice (some ⟨k,0,none⟩) (n+m) (loose i.size)) K:=by
  intro H0 A n' c' old olds k K hI M b a9 au Q C q N hp;subst b a9;have hg:=run_append_grow_src w st xt ty e i zv S hi bk A n' c' olds q x' m news F N (by omega) (growslice_fits N T);have ah:=grownCap_ge w (n'+m) c' e;have ae:∀d,dest=some d->d<H0.length/\σ d=none:=fun d e=>by rw [M];exact hd d e
  have aa:(((olds++news).toArray++Builtin.zeroCells zv.cells (grownCap w (n'+m) c' e-(n'+m))).size)=grownCap w (n'+m) c' e*i.size:=by
   simp only [Array.size_append,size_zeroCells,bh,List.size_toArray,Nk,<-au.1,<-g.1,C,O];rw [<-P4,<-P4];congr 1;omega
  obtain ⟨q1,q2⟩:=hI.drew.alloc (lim:=lim) (el:=e) hp ae (cs:=(olds++news).toArray++Builtin.zeroCells zv.cells (grownCap w (n'+m) c' e-(n'+m))) (fun j y J=>by
   obtain ⟨y',h1,h2⟩:=(au.append g).get J;refine ⟨y', ?_,h2, ?_⟩
   ·rw [Array.getElem?_append_left (by have:=(List.getElem?_eq_some_iff.1 h1).1;simpa using this)];simpa using h1
   ·rcases Ok.1 (Oh h1) with h | h
    ·exact Q _ h
    ·exact D _ h) (by rw [aa];simp only [Nk,C,O,<-P4];exact Ph _ ah)
  obtain ⟨g1,g2,g3,g4,g5,g6,g7⟩:=Ud hp fun d e=>(ae d e).1
  refine ⟨_,_,_,_,by rw [E,hg];rfl,rfl, ?_,q1,Stp.drew.trans (Stp.alloc hI.drew.fresh _),PO.le_put q2,fun j J=>?_,by omega,fun V=>?_⟩
  ·have Y:0+grownCap w (n'+m) c' e*i.size<=((olds++news).toArray++Builtin.zeroCells zv.cells (grownCap w (n'+m) c' e-(n'+m))).size:=by omega
   have:=VRel.lslice (σ:=σ.put k ⟨w.drew.heap.size,0,_⟩) (i:=k) (k:=0) (n:=n'+m) (e:=i.size) (c:=grownCap w (n'+m) c' e) PO.put_same ah Y;simpa [Pq] using this
  ·by_cases e:j=k
   ·subst e;cases dest with
    | none=>exact .inr ⟨rfl,by rw [g5 rfl,M];exact Nf _⟩
    | some d=>exact .inl (by rw [(g6 d rfl).1])
   ·simp [PO.put,e] at J
  ·cases dest with
   | none=>exact absurd rfl V
   | some d=>rw [(g6 d rfl).2,M]
 cases base with
 | none=>
   simp only at h;split at h
   case isFalse=>cases h
   rename_i h0;obtain ⟨rfl,rfl⟩:=h0;obtain ⟨_,_,b⟩:=hs.nilslice_left;cases hp:place dest (.cells false new) H with
   | mk k K=>
   rw [hp] at h;cases h;have:=grow H none 0 0 [] [] k K f rfl b rfl OV.nil (fun y hy=>by simp at hy) (by simp) (run_firstCells_none w.drew i.size 0 0 0) (by omega) (by simpa using hp);simpa using this
 | some a=>
   simp only at h;split at h
   ·cases h
   rename_i old o;obtain ⟨aw,L,hL,hc⟩:=hs.slice_left;have C:old.length=n*i.size:=by
    unfold AM.loadCells at o;split at o
    ·split at o
     ·cases o;simp;omega
     ·cases o
    ·cases o
   obtain ⟨olds,X,bd,an,be⟩:=f.loadCells hL o;have q:∀c',(Builtin.firstCells i.size n (.slice (some ⟨L.blk,L.base+a.off,none⟩) n c')).run P w.drew=.ok olds.toArray w.drew:=fun c'=>
    run_firstCells_some w.drew i.size n _ n c' olds bd fun j u S=>by rw [Addr.add_mid];simpa using be j u S
   have empty:n=0->old=[]:=fun h0=>by subst h0;simpa using C
   split at h
   ·
    rename_i G;split at h
    case h_2=>cases h
    rename_i cb hb;split at h
    case isFalse=>cases h
    rename_i ak;cases hp:place dest (.cells false (old++new)) (H.set a.block .dead) with
    | mk k K=>
    rw [hp] at h;cases h;rcases hc with ⟨N,_⟩ | ⟨e',he,c',hn,hr,b⟩ | ⟨a',he,hn,b⟩
    ·rw [G] at N;unfold loose at N;omega
    ·have ag:e'=i.size:=by rw [G] at he;unfold loose at he;omega
     subst ag;by_cases l:n+m<=c'
     ·
      have Y:a.off+old.length+new.length<=L.room:=by
       rw [C,O,Pq,<-P4];have:(n+m)*i.size<=c'*i.size:=Ph _ l;omega
      obtain ⟨w',q1,q2,q3,q4⟩:=f.appendRoom (P:=P) hb hL ak (by rw [C];exact o) g D Y hp hd;obtain ⟨cs,el,fz,hh,ay,ho⟩:=f.cells hb hL;obtain ⟨aq,ar,R⟩:=ho rfl;have r:∀j,j<news.length->(w.cell? ⟨L.blk,L.base+a.off+n*i.size+j,none⟩).isSome=true:=fun j J=>by
       rw [cell_of_heap hh (Of (by have:=g.1;omega))];rfl
      have I:∀j,j<news.length->w.frozen? ⟨L.blk,L.base+a.off+n*i.size+j,none⟩=false:=fun j J=>by
       simp only [World.frozen?,hh];have:=R.ok (L.base+a.off+n*i.size+j) (by have:=g.1;omega);obtain ⟨f1,f2⟩:=fz;simp at this⊢;exact this
      have Z:=run_append_room_src w st xt ty e i S hi L.blk (L.base+a.off) n c' x' m news F l r I;have t:=run_storeCells_cells (P:=P) L.blk (L.base+a.off+n*i.size) news 0 w (by simpa using r) (by simpa using I) D;rw [C] at q1;rw [Pd] at t;have ab:w'=w.setCells L.blk (L.base+a.off+n*i.size) news:=by
       have:=q1.symm.trans t;simpa using this
      obtain ⟨g1,g2,g3,g4,g5,g6,g7⟩:=Ud hp fun d e=>by simpa using (hd d e).1
      subst b;refine ⟨_,w',_,_,by rw [E,Z,ab];rfl,rfl, ?_,q2,q3,PO.le_put q4,fun j J=>?_,by simpa using g3,fun V=>?_⟩
      ·have av:0+c'*i.size<=L.room-a.off:=by omega
       have:=VRel.lslice (σ:=σ.put k ⟨L.blk,L.base+a.off,L.room-a.off⟩) (i:=k) (k:=0) (n:=n+m) (e:=i.size) (c:=c') PO.put_same l av;simpa using this
      ·by_cases e:j=k
       ·subst e;cases dest with
        | none=>exact .inr ⟨rfl,by rw [g5 rfl];simp⟩
        | some d=>exact .inl (by rw [(g6 d rfl).1])
       ·simp [PO.put,e] at J
      ·cases dest with
       | none=>exact absurd rfl V
       | some d=>rw [(g6 d rfl).2];simp
     ·exact grow (H.set a.block .dead) _ n c' old olds k K (f.killAny _) (by simp) b rfl X an C (q c') (by omega) hp
    ·subst hn;have:=empty rfl;subst this;have bb:olds=[]:=by have:=X.1;simpa using this.symm
     subst bb;exact grow (H.set a.block .dead) (some a') 0 0 [] [] k K (f.killAny _) (by simp) b rfl OV.nil (fun y hy=>by simp at hy) (by simp) (run_firstCells_some w.drew i.size 0 _ 0 0 [] (by simp) (fun j u S=>by simp at S)) (by omega) hp
   ·split at h
    case isFalse=>cases h
    rename_i G ad;split at h
    ·
     rename_i l;split at h
     case h_2=>cases h
     rename_i H2 t;cases h;rcases hc with ⟨_,b⟩ | ⟨e',he,_⟩ | ⟨a',he,hn,b⟩
     ·rw [Uh a _ aw] at t;obtain ⟨w',q1,q2,q3,q4⟩:=f.store (P:=P) (p:=⟨a.block,a.off+n*i.size,none⟩) hL t g D;unfold storeAt at t;split at t
      case h_2=>cases t
      rename_i cb hb;split at t
      case isFalse=>cases t
      rename_i az;obtain ⟨cs,el,fz,hh,ay,ho⟩:=f.cells hb hL;obtain ⟨aq,ar,R⟩:=ho rfl;simp only at az;have r:∀j,j<news.length->(w.cell? ⟨L.blk,L.base+a.off+n*i.size+j,none⟩).isSome=true:=fun j J=>by
       rw [cell_of_heap hh (Of (by have:=g.1;omega))];rfl
      have I:∀j,j<news.length->w.frozen? ⟨L.blk,L.base+a.off+n*i.size+j,none⟩=false:=fun j J=>by
       simp only [World.frozen?,hh];have:=R.ok (L.base+a.off+n*i.size+j) (by have:=g.1;omega);obtain ⟨f1,f2⟩:=fz;simp at this⊢;exact this
      have Z:=run_append_room_src w st xt ty e i S hi L.blk (L.base+a.off) n cap x' m news F l r I;have U:=run_storeCells_cells (P:=P) L.blk (L.base+a.off+n*i.size) news 0 w (by simpa using r) (by simpa using I) D;rw [Pd] at U;rw [show L.base+(a.off+n*i.size)=L.base+a.off+n*i.size by omega] at q1;have ab:w'=w.setCells L.blk (L.base+a.off+n*i.size) news:=by
       have:=q1.symm.trans U;simpa using this
      subst b;exact ⟨_,w',σ,_,by rw [E,Z,ab];rfl,rfl,VRel.slice' aw hL ad,q2,q3,PO.le_refl σ,fun j J=>absurd rfl J,by omega,fun _=>q4⟩
     ·exact absurd he (by unfold loose at *;omega)
     ·exact absurd he (by unfold loose at *;omega)
    ·rename_i l;cases hp:place dest (.cells false (old++new)) H with
     | mk k K=>
     rw [hp] at h;cases h;rcases hc with ⟨_,b⟩ | ⟨e',he,_⟩ | ⟨a',he,hn,b⟩
     ·exact grow H _ n cap old olds k K f rfl b rfl X an C (q cap) (by omega) hp
     ·exact absurd he (by unfold loose at *;omega)
     ·subst hn;have:=empty rfl;subst this;exact grow H (some a') 0 0 [] [] k K f rfl b rfl OV.nil (fun y hy=>by simp at hy) (by simp) (run_firstCells_some w.drew i.size 0 _ 0 0 [] (by simp) (fun j u S=>by simp at S)) (by omega) hp
end
section
variable {P:Program} {Pg:Prg} {W:Nat->Prop} {lim:Nat} {σ:PO} {H H':NA} {w:World} {dest:Option Nat} {ρ ρ':Operand->Value} {v:Value}
variable {m key:Operand} {b z x:Value} {r:Option (Nat×Value)} {kk:KK} {kt e:TypeId} {L:Loc} {ents:Array MapEntry} {es es':List (Value×Value)} {clock:Nat}
theorem Nai:∀{l:List KK} {ks:List IntKind},TV l=some ks->l=ks.map .int
 | [],ks,h=>by simp [TV] at h;subst h;rfl
 | .int k::l,ks,h=>by
   simp only [TV,Nd] at h;obtain ⟨r,h1,rfl⟩:=h;rw [Nai h1];rfl
 | .str::l,ks,h=>by simp [TV] at h
 | .bool::l,ks,h=>by simp [TV] at h
 | .ints _::l,ks,h=>by simp [TV] at h
theorem Nah:∀{ks:List IntKind} {xs ys:List Value} {r:Bool},Ta ks xs=true->UL xs ys=some r->PH (ks.map .int) xs ys=some r
 | [],[],ys,r,_,h=>by
   cases ys with
   | nil=>simpa [UL,PH] using h
   | cons y ys=>simp [UL] at h
 | [],x::xs,ys,r,h1,_=>by simp [Ta] at h1
 | k::ks,[],ys,r,h1,_=>by simp [Ta] at h1
 | k::ks,x::xs,ys,r,h1,h=>by
   cases x<;>simp only [Ta,N3] at h1;rename_i k' a;rw [N2,beq_iff_eq] at h1;obtain ⟨rfl,h1⟩:=h1;cases ys with
   | nil=>simp [UL] at h
   | cons y ys=>
     cases y<;>simp only [UL] at h<;>try (cases h;done)
     rename_i k2 b;split at h
     ·rename_i hk;subst hk;simp only [Nd] at h;obtain ⟨r',h2,rfl⟩:=h;have:=Nah h1 h2;simp only [Oj,PH,SQ,this,and_self,if_true]
     ·cases h
theorem ZZ:∀{ks:List IntKind} {xs:List Value},Ta ks xs=true->xs.length=ks.length
 | [],[],_=>rfl
 | [],x::xs,h=>by simp [Ta] at h
 | k::ks,[],h=>by simp [Ta] at h
 | k::ks,x::xs,h=>by
   cases x<;>simp only [Ta,N3] at h;rw [N2] at h;simp [ZZ h.2]
theorem Nct:∀{xs ys:List Value},UL xs ys=some true->ys=xs
 | [],[],_=>rfl
 | [],y::ys,h=>by simp [UL] at h
 | x::xs,[],h=>by cases x<;>simp [UL] at h
 | x::xs,y::ys,h=>by
   cases x<;>cases y<;>simp only [UL] at h<;>try (cases h;done)
   split at h
   ·rename_i hk;subst hk;simp only [Nd,N2,beq_iff_eq] at h;obtain ⟨r,h1,rfl,rfl⟩:=h;rw [Nct h1]
   ·cases h
theorem Nfb:∀{ks:List IntKind} {xs ys:List Value},Ta ks xs=true->OV σ xs ys->ys=xs
 | [],[],ys,_,h=>by
   have:=h.1;cases ys with
   | nil=>rfl
   | cons y ys=>simp at this
 | [],x::xs,ys,h,_=>by simp [Ta] at h
 | k::ks,[],ys,h,_=>by simp [Ta] at h
 | k::ks,x::xs,ys,h,hr=>by
   cases ys with
   | nil=>have:=hr.1;simp at this
   | cons y ys=>
     cases x<;>simp only [Ta,N3] at h;rw [N2] at h;rw [Nfb h.2 hr.tail,hr.head.int_left]
theorem Nih {n:Nat} {t:TypeId} {l:List KK} (h:PL P n t=some l):∃b,Rx P t=some b/\(b=false->l.length=1):=by
 cases n with
 | zero=>simp [PL] at h
 | succ n=>
   unfold PL at h;unfold Rx;cases hu:P.underlying t with
   | none=>simp [hu] at h
   | some a=>
     rw [hu] at h;cases a<;>simp at h<;>first
      | (subst h;exact ⟨false,rfl,fun _=>rfl⟩)
      | exact ⟨true,rfl,fun h=>by cases h⟩
theorem Un (em:Bool) (d:Nat):∀(n:Nat) (t:TypeId) (l:List KK),PL P n t=some l->∀x,(Rx P t=some true->∃xs,x=.agg xs/\l.length<=xs.size)->(Instr.checkKey em (d+n) t x).run P w=.ok () w
 | 0,t,l,h,_,_=>by simp [PL] at h
 | n+1,t,l,h,x,hx=>by
   rw [show d+(n+1)=(d+n)+1 from rfl];unfold PL at h;split at h
   ·rename_i hu;simp only [Instr.checkKey,Sem.run_bind,run_underlying hu,Result.andThen_ok];cases x<;>rfl
   ·rename_i k hu;simp only [Instr.checkKey,Sem.run_bind,run_underlying hu,Result.andThen_ok];cases x<;>rfl
   ·rename_i hu;simp only [Instr.checkKey,Sem.run_bind,run_underlying hu,Result.andThen_ok];cases x<;>rfl
   ·rename_i len e hu;split at h
    case h_2=>cases h
    rename_i l1 hl1;split at h
    case isFalse=>cases h
    rename_i hc;cases h;obtain ⟨xs,rfl,hsz⟩:=hx (by simp [Rx,hu]);have hue:∃dsc,P.underlying e=some dsc:=by
     cases hd:P.underlying e with
     | some x=>exact ⟨x,rfl⟩
     | none=>cases n<;>simp [PL,hd] at hl1
    obtain ⟨dsc,hue⟩:=hue;obtain ⟨i,hi⟩:=info_of_underlying hue;have hsz1:PZ P e=some l1.length:=by
     rw [hc];simp [PZ,Program.cellsOf,hi]
    have his:i.size=l1.length:=by
     have:=hsz1;simpa [PZ,hi] using this
    obtain ⟨b,hb,hb1⟩:=Nih hl1;have hlen:(List.replicate len l1).flatten.length=len*l1.length:=by simp
    rw [hlen] at hsz;simp only [Instr.checkKey,Sem.run_bind,run_underlying hu,Result.andThen_ok];simp only [Std.Legacy.Range.forIn_eq_forIn_range',Std.Legacy.Range.size,Nat.sub_zero,Nat.add_one_sub_one,Nat.div_one];have each:∀j∈List.range' 0 len,j<len:=fun j hj=>by simpa using (List.mem_range'_1.1 hj).2
    generalize List.range' 0 len=is at each
    induction is with
    | nil=>simp
    | cons j is ih=>
      have hj:=each j (by simp);have hjl:j*l1.length+l1.length<=xs.size:=by
       have:=Ph l1.length (Qy hj);rw [Pw] at this;omega
      obtain ⟨a,p1,p2,p3,p4⟩:=VU w e hb hsz1 xs (j*l1.length) hjl hb1;have q:=Un em d n e l1 hl1 a (fun ht=>by
       obtain ⟨zs,rfl⟩:=p2 ht;refine ⟨zs,rfl, ?_⟩;rw [hb] at ht;cases ht;have:=Q2 List.length (p4 rfl);simp only [Value.cells,Array.length_toList,N5,O2] at this;omega)
      simp only [List.forIn_cons,Sem.run_bind,run_sizeOf w hi,Result.andThen_ok,<-hc,p1,q,Sem.run_pure];exact ih (fun y hy=>each y (by simp [hy]))
   ·rename_i fs hu;split at h
    ·cases h
    obtain ⟨xs,rfl,hsz⟩:=hx (by simp [Rx,hu]);simp only [Instr.checkKey,Sem.run_bind,run_underlying hu,Result.andThen_ok];rw [<-Array.forIn_toList];have ho:0+l.length<=xs.size\/l=[]:=.inl (by omega);clear hx hsz;generalize fs.toList=L at h;generalize (0:Nat)=off at h ho
    induction L generalizing off l with
    | nil=>simp
    | cons f L ih=>
      simp only [ZB] at h;split at h
      ·cases h
      rename_i hf;split at h
      case h_2=>cases h
      rename_i l1 hl1;split at h
      case isFalse=>cases h
      rename_i hc;simp only [Nd] at h;obtain ⟨l2,hl2,rfl⟩:=h;obtain ⟨hc,hne⟩:=hc;have hname:f.name≠ "_":=fun e=>hf (.inl e)
      have hoff:f.offset=off:=Oe fun e=>hf (.inr e)
      have hsz2:off+(l1.length+l2.length)<=xs.size:=by
       rcases ho with h | h
       ·simpa using h
       ·simp at h;exact absurd (by rw [h.1];rfl) hne
      have hue:∃dsc,P.underlying f.type=some dsc:=by
       cases hd:P.underlying f.type with
       | some x=>exact ⟨x,rfl⟩
       | none=>cases n<;>simp [PL,hd] at hl1
      obtain ⟨dsc,hue⟩:=hue;obtain ⟨i,hi⟩:=info_of_underlying hue;have hsz1:PZ P f.type=some l1.length:=by
       rw [hc];simp [PZ,Program.cellsOf,hi]
      obtain ⟨b,hb,hb1⟩:=Nih hl1;obtain ⟨a,p1,p2,p3,p4⟩:=VU w f.type hb hsz1 xs off (by omega) hb1;have q:=Un em d n f.type l1 hl1 a (fun ht=>by
       obtain ⟨zs,rfl⟩:=p2 ht;refine ⟨zs,rfl, ?_⟩;rw [hb] at ht;cases ht;have:=Q2 List.length (p4 rfl);simp only [Value.cells,Array.length_toList,N5,O2] at this;omega)
      simp only [List.forIn_cons,Sem.run_bind,hname,ne_eq,not_false_eq_true,if_true,hoff,p1,q,Result.andThen_ok,Sem.run_pure];exact ih l2 (off+l1.length) hl2 (.inl (by omega))
   ·cases h
theorem Yb {t:TypeId} (h:TG P t=some kk) (c:U6 kk x=true) (w:World):(∀e,(Instr.checkKey e 10000 t x).run P w=.ok () w)/\(Instr.keyThatStays x x).run P w=.ok x w/\
  ∃d,P.underlying t=some d/\((IsKey d x/\∀y r,Wy x y=some r->Instr.sameNow d x y=some r)\/
   ((∀y,Instr.sameNow d x y=none)/\∀y r,Wy x y=some r->(Op.equal t x y).run P w=.ok r w)):=by
 unfold TG at h;cases hu:P.underlying t with
 | none=>simp [hu] at h
 | some d=>
   rw [hu] at h;by_cases i:∃ks cs,kk=.ints ks/\x=.agg cs
   ·obtain ⟨ks,cs,rfl,rfl⟩:=i;have hs:PL P 20 t=some (ks.map .int)/\Rx P t=some true:=by
     cases d<;>simp at h
     all_goals
      split at h
      ·rename_i l hl;simp only [Nd,KK.ints.injEq,exists_eq_right] at h;rw [hl,Nai h];exact ⟨rfl,by simp [Rx,hu]⟩
      ·cases h
    obtain ⟨hs,f⟩:=hs;have a:Ta ks cs.toList=true:=c;have b:=ZZ a;refine ⟨fun e=>?_, ?_,d,rfl,.inr ⟨fun y=>?_,fun y r hr=>?_⟩⟩
    ·exact Un (w:=w) e 9980 20 t _ hs (.agg cs) (fun _=>⟨cs,rfl,by rw [Nz,<-b];simp⟩)
    ·have g:Instr.sameBits 10000 (.agg cs) (.agg cs)=true:=by
      show Instr.sameBits (9999+1) (.agg cs) (.agg cs)=true;simp only [Instr.sameBits,beq_self_eq_true,Bool.true_and,N7];intro p hp;have key:∀(ks:List IntKind) (xs:List Value),Ta ks xs=true->∀p∈xs.zip xs,Instr.sameBits 9999 p.1 p.2=true:=by
       intro ks
       induction ks with
       | nil=>
         intro xs h p hp;cases xs with
         | nil=>simp at hp
         | cons x xs=>simp [Ta] at h
       | cons k ks ih=>
         intro xs h p hp;cases xs with
         | nil=>simp at hp
         | cons x xs=>
           cases x<;>simp only [Ta,N3] at h;rw [N2] at h;rw [List.zip_cons_cons,Ns] at hp;rcases hp with rfl | hp
           ·simp [Instr.sameBits]
           ·exact ih xs h.2 p hp
      exact key ks _ a p hp
     simp [Instr.keyThatStays,g]
    ·cases d<;>rfl
    ·cases y<;>simp only [Wy] at hr<;>try (cases hr;done)
     rename_i ys;have:=VT w 20 t _ hs 9980 (.agg cs) (.agg ys) r (fun _=>⟨⟨_,rfl⟩,⟨_,rfl⟩⟩) (fun j=>by rw [f] at j;cases j) (Nah a hr);exact this
   ·have hk:IsKey d x/\∀y r,Wy x y=some r->Instr.sameNow d x y=some r:=by
     constructor
     ·cases d<;>simp at h<;>first
       | (subst h;cases x<;>simp_all [U6,IsKey];done)
       | (split at h
          ·rename_i l hl;cases hi:TV l with
           | none=>simp [hi] at h
           | some ks=>
             simp [hi] at h;subst h;cases x<;>simp [U6] at c;exact absurd ⟨_,_,rfl,rfl⟩ i
          ·cases h)
     ·intro y r hr;cases d<;>simp at h<;>first
       | (subst h;cases x<;>simp [U6] at c<;>cases y<;>simp_all [Wy,Instr.sameNow];done)
       | (split at h
          ·rename_i l hl;cases hi:TV l with
           | none=>simp [hi] at h
           | some ks=>
             simp [hi] at h;subst h;cases x<;>simp [U6] at c;exact absurd ⟨_,_,rfl,rfl⟩ i
          ·cases h)
    exact ⟨fun e=>MapKept.run_checkKey hu hk.1 e 9999,run_keyThatStays hk.1,d,rfl,.inl hk⟩
theorem Nie (a:U6 kk x=true) {y:Value} (h:VRel σ x y):y=x:=by
 cases kk<;>cases x<;>simp [U6] at a<;>first
  | exact h.int_left
  | exact h.string_left
  | exact h.bool_left
  | (obtain ⟨ys,rfl,hl,_⟩:=h.agg_left
     have:=Nfb a hl;congr 1;exact Array.toList_inj.1 this)
theorem Nq4 {a:Value} (h:Wy a b=some true):b=a:=by
 unfold Wy at h;split at h
 ·split at h
  ·rename_i hk;subst hk;simp at h;rw [h]
  ·cases h
 ·rename_i a b;have h2:(a == b)=true:=by simpa using h
  rw [beq_toListBytes,ByteArray.toList_eq,ByteArray.toList_eq] at h2;have c:a.data.toList=b.data.toList:=by simpa using h2
  obtain ⟨⟨x⟩⟩:=a;obtain ⟨⟨y⟩⟩:=b;simp at c;rw [c]
 ·simp at h;rw [h]
 ·congr 1;exact Array.toList_inj.1 (Nct h)
 ·cases h
theorem Ma {t:TypeId} (hk:TG P t=some kk) (E:U6 kk x=true) (v:ents.size=es.length)
  (y:∀(j:Nat) e c,es[j]? = some e->ents[j]? = some c->e.1=c.key/\VRel σ e.2 c.val) (h:findKey x es 0=some r) :
  (Instr.findKey t x ents.toList).run P w=.ok (r.map fun p=>(p.1,(ents.getD p.1 default).val)) w/\
   (∀p,r=some p->∃e c,es[p.1]? = some e/\ents[p.1]? = some c/\e.2=p.2/\Wy x e.1=some true):=by
 obtain ⟨_,_,d,hd,n⟩:=Yb hk E w;have found:∀(es:List (Value×Value)) (l:List MapEntry) (i:Nat),l.length=es.length->∀r,findKey x es i=some r->∀p,r=some p->i<=p.1/\∃e c,es[p.1-i]? = some e/\l[p.1-i]? = some c/\e.2=p.2/\Wy x e.1=some true:=by
  intro es
  induction es with
  | nil=>intro l i _ r hr p hp;simp [findKey] at hr;subst hr;cases hp
  | cons a es ih=>
    intro l i hl r hr p hp;cases l with
    | nil=>simp at hl
    | cons b l=>
      obtain ⟨k',v'⟩:=a;simp only [findKey] at hr;split at hr
      ·rename_i he;cases hr;cases hp;exact ⟨Nf _,(k',v'),b,by simp,by simp,rfl,he⟩
      ·obtain ⟨h1,e,c,h2,A,B,h5⟩:=ih l (i+1) (by simpa using hl) r hr p hp;refine ⟨by omega,e,c, ?_, ?_,B,h5⟩
       ·rw [show p.1-i=(p.1-(i+1))+1 by omega];simpa using h2
       ·rw [show p.1-i=(p.1-(i+1))+1 by omega];simpa using A
      ·cases hr
 have u:∀(j:Nat) e c,es[j]? = some e->ents.toList[j]? = some c->e.1=c.key:=fun j e c h1 h2=>(y j e c h1 (by simpa using h2)).1
 have g:ents.toList.length=es.length:=by simpa using v
 refine ⟨?_,fun p hp=>?_⟩
 ·rcases n with ⟨_,k⟩ | ⟨o,q⟩
  ·have key:∀(es:List (Value×Value)) (l:List MapEntry) (i:Nat),l.length=es.length->(∀(j:Nat) e c,es[j]? = some e->l[j]? = some c->e.1=c.key)->∀r,findKey x es i=some r->
     Instr.findNow d x l i=some (r.map fun p=>(p.1,(l.getD (p.1-i) default).val)):=by
    intro es
    induction es with
    | nil=>
      intro l i hl _ r hr;have:l=[]:=by simpa using hl
      subst this;simp [findKey] at hr;subst hr;rfl
    | cons a es ih=>
      intro l i hl s r hr;cases l with
      | nil=>simp at hl
      | cons b l=>
        have D:=found (a::es) (b::l) i hl r hr;obtain ⟨k',v'⟩:=a;have f:k'=b.key:=s 0 (k',v') b rfl rfl;simp only [findKey] at hr;split at hr
        ·rename_i he;cases hr;have:=k _ _ he;rw [f] at this;simp [Instr.findNow,this]
        ·rename_i he;have hs:=k _ _ he;rw [f] at hs;have m:=ih l (i+1) (by simpa using hl) (fun j e c h1 h2=>s (j+1) e c (by simpa using h1) (by simpa using h2)) r hr;have z:=found es l (i+1) (by simpa using hl) r hr;simp only [Instr.findNow,hs,m];cases r with
         | none=>rfl
         | some p=>
           obtain ⟨h1,_⟩:=z p rfl;simp only [Ny];rw [show p.1-i=(p.1-(i+1))+1 by omega];rfl
        ·cases hr
   have m:=key es ents.toList 0 g u r h;have:=run_findKey (w:=w) (kt:=t) hd m;rw [this];cases r with
   | none=>rfl
   | some p=>simp
  ·
   have key:∀(es:List (Value×Value)) (l:List MapEntry) (i:Nat),l.length=es.length->(∀(j:Nat) e c,es[j]? = some e->l[j]? = some c->e.1=c.key)->∀r,findKey x es i=some r->
     (Instr.findAsking t x l i).run P w=.ok (r.map fun p=>(p.1,(l.getD (p.1-i) default).val)) w:=by
    intro es
    induction es with
    | nil=>
      intro l i hl _ r hr;have:l=[]:=by simpa using hl
      subst this;simp [findKey] at hr;subst hr;simp [Instr.findAsking]
    | cons a es ih=>
      intro l i hl s r hr;cases l with
      | nil=>simp at hl
      | cons b l=>
        obtain ⟨k',v'⟩:=a;have f:k'=b.key:=s 0 (k',v') b rfl rfl;simp only [findKey] at hr;split at hr
        ·rename_i he;cases hr;have:=q _ _ he;rw [f] at this;simp [Instr.findAsking,this]
        ·rename_i he;have hs:=q _ _ he;rw [f] at hs;have m:=ih l (i+1) (by simpa using hl) (fun j e c h1 h2=>s (j+1) e c (by simpa using h1) (by simpa using h2)) r hr;have z:=found es l (i+1) (by simpa using hl) r hr;simp only [Instr.findAsking,Sem.run_bind,hs,Result.andThen_ok,N3,if_false,m];cases r with
         | none=>rfl
         | some p=>
           obtain ⟨h1,_⟩:=z p rfl;simp only [Ny];rw [show p.1-i=(p.1-(i+1))+1 by omega];rfl
        ·cases hr
   have m:=key es ents.toList 0 g u r h;have hfn:Instr.findNow d x ents.toList 0=none\/ents.toList=[]:=by
    cases ents.toList with
    | nil=>exact .inr rfl
    | cons b l=>exact .inl (by simp [Instr.findNow,o])
   rcases hfn with hfn | hfn
   ·simp only [Instr.findKey,Sem.run_bind,run_underlying hd,Result.andThen_ok,hfn,m];cases r with
    | none=>rfl
    | some p=>simp
   ·have C:es=[]:=by rw [hfn] at g;simpa using g.symm
    subst C;simp [findKey] at h;subst h;rw [hfn];simp [Instr.findKey,run_underlying hd,Instr.findNow]
 ·obtain ⟨_,e,c,h2,A,B,h5⟩:=found es ents.toList 0 g r h p hp;exact ⟨e,c,by simpa using h2,by simpa using A,B,h5⟩
theorem Inv.entries (h:Inv Pg W lim σ H w) {m:Value} (hm:VRel σ m b) (he:mapEntries H m=some es) :
  (b=.map none/\es=[])\/∃(r:Nat) (L:Loc) (ents:Array MapEntry) (clock:Nat),m=.map (some r)/\NE H r=.map es/\σ r=some L/\b=.map (some L.blk)/\w.heap[L.blk]? = some (.map ents clock)/\ents.size=es.length/\
   ∀(j:Nat) e a,es[j]? = some e->ents[j]? = some a->e.1=a.key/\VRel σ e.2 a.val:=by
 unfold mapEntries at he;split at he
 ·cases he;exact .inl ⟨hm.nilmap_left,rfl⟩
 ·rename_i r;split at he
  ·rename_i es' c;cases he;obtain ⟨L,hL,rfl⟩:=hm.map_left;obtain ⟨g,h1,ents,clock,h2,d,f,_⟩:=h.blk r _ (RB c rfl) rfl;rw [hL] at h1;cases h1;exact .inr ⟨r,L,ents,clock,rfl,c,hL,rfl,h2,d,f⟩
  ·cases he
 ·cases he
theorem Inv.stamps (h:Inv Pg W lim σ H w) {r:Nat} (c:NE H r=.map es) (hL:σ r=some L) (d:w.heap[L.blk]? = some (.map ents clock)):Nse es.length clock ents:=by
 obtain ⟨e,h1,b,a,h2,f,g,h5⟩:=h.blk r _ (RB c rfl) rfl;rw [hL] at h1;cases h1;rw [d] at h2;cases h2;exact h5
theorem Ni7 {t:TypeId} (h:Ndj P t=some z):∃i,P.info? t=some i/\i.zero=some z/\∀τ,VRel τ z z:=by
 unfold Ndj at h;split at h
 ·rename_i i hi;split at h
  ·rename_i f e;split at h
   ·rename_i c;cases h;refine ⟨i,hi,e,fun τ=>?_⟩;have hc:∀x∈z.cells.toList,atom x=true/\x.oneCell'=true:=fun x b=>by
     have:=N7.1 c x b;simpa using this
    by_cases a:∃cs,z=.agg cs
    ·obtain ⟨cs,rfl⟩:=a;exact VRel.agg_iff.2 ⟨OV.refl_of fun x b=>.atom (hc x b).1,fun y d=>(hc y d).2⟩
    ·refine .atom (hc z ?_).1;cases z<;>first | (exact absurd ⟨_,rfl⟩ a) | simp [Value.cells]
   ·cases h
  ·cases h
 ·cases h
theorem Nj7 (f:Inv Pg W lim σ H w) {t:TypeId} (G:P.underlying t=some (.map kt e)) (hk:TG P kt=some kk) (S:Ndj P e=some z)
  {ok:Bool} (hm:VRel σ (ρ m) (ρ' m)) (y:VRel σ (ρ key) (ρ' key))
  (g:NL lim dest (.lookup kk z ok m key) ρ H=some (v,H')) (o:Oper) (ho:o.op=.lookup t m key ok):OZ Pg W lim σ dest H w ((execOp ρ' o).run P w) v H':=by
 obtain ⟨i,hi,I,C⟩:=Ni7 S;simp only [NL] at g;split at g
 case h_2=>cases g
 rename_i es E;split at g
 case isFalse=>cases g
 rename_i u;obtain ⟨q,R,d,hd,_⟩:=Yb hk u w;have s:=Nie u y;have n:(zeroValue e).run P w=.ok z w:=by simp [zeroValue,typeInfo,hi,I]
 have pack:∀{a b:Value} {c:Bool},VRel σ a b->VRel σ (if ok then .tuple #[a,.bool c] else a) (if ok then .tuple #[b,.bool c] else b):=by
  intro a b c h;cases ok
  ·exact h
  ·exact VRel.tuple_iff.2 (OV.cons h (OV.cons (.atom rfl) OV.nil))
 rcases f.entries hm E with ⟨k,rfl⟩ | ⟨r,L,ents,clock,Q,U,hL,k,K,A,l⟩
 ·simp [findKey] at g;obtain ⟨rfl,rfl⟩:=g;refine OZ.plain f (v':=if ok then .tuple #[z,.bool false] else z) ?_ (pack (C σ));simp only [execOp,ho];refine QA P w _ ?_;rw [k,s];simp [Instr.lookup,run_underlying G,q,Instr.findKey,run_underlying hd,Instr.findNow,n]
 ·have F:∃j,findKey (ρ key) es 0=some j:=by
   cases x:findKey (ρ key) es 0 with
   | none=>simp [x] at g
   | some j=>exact ⟨j,rfl⟩
  obtain ⟨j,x⟩:=F;obtain ⟨D,O⟩:=Ma (P:=P) (w:=w) (σ:=σ) hk u A l x;cases j with
  | none=>
    simp [x] at g;obtain ⟨rfl,rfl⟩:=g;refine OZ.plain f (v':=if ok then .tuple #[z,.bool false] else z) ?_ (pack (C σ));simp only [execOp,ho];refine QA P w _ ?_;rw [k,s];simp only [Oo] at D;simp [Instr.lookup,run_underlying G,MapKept.run_getObj_map K,q,D,n]
  | some p=>
    obtain ⟨e1,e2,M,J,N,X⟩:=O p rfl;obtain ⟨T,V⟩:=p;simp [x] at g;obtain ⟨rfl,rfl⟩:=g;simp only at M J N;have B:(ents.getD T default).val=e2.val:=by rw [N8,J];rfl
    refine OZ.plain f (v':=if ok then .tuple #[e2.val,.bool true] else e2.val) ?_ (pack (by rw [<-N];exact (l _ _ _ M J).2));simp only [execOp,ho];refine QA P w _ ?_;rw [k,s];simp only [Ny,B] at D;simp [Instr.lookup,run_underlying G,MapKept.run_getObj_map K,q,D]
theorem Inv.setMap (h:Inv Pg W lim σ H w) {r:Nat} (m:NE H r=.map es) (hL:σ r=some L) (c:lim<=r) (g:L.blk<w.heap.size) (b:ents.size=es'.length)
  (d:∀(j:Nat) e f,es'[j]? = some e->ents[j]? = some f->e.1=f.key/\VRel σ e.2 f.val) (i:Nse es'.length clock ents) :
  Inv Pg W lim σ (H.set r (.map es')) { w with heap:=w.heap.setIfInBounds L.blk (.map ents clock) }/\Stp W w { w with heap:=w.heap.setIfInBounds L.blk (.map ents clock) }:=by
 have a:=RB m rfl;have hs:({ w with heap:=w.heap.setIfInBounds L.blk (.map ents clock) }:World).heap.size=w.heap.size:=by simp
 have l:∀k,k≠L.blk->({ w with heap:=w.heap.setIfInBounds L.blk (.map ents clock) }:World).heap[k]? = w.heap[k]?:=fun k hk=>by
  simp [Ne.symm hk]
 refine ⟨h.rewrite a rfl hL hs l ⟨ents,clock, ?_,b,d,i⟩ (fun _=>rfl),Stp.one (h.wr _ _ _ a rfl c hL) l hs rfl rfl ⟨rfl,Nf _⟩⟩;simp [g]
theorem ZX (f:Inv Pg W lim σ H w) {t:TypeId} (Y:P.underlying t=some (.map kt e)) (hk:TG P kt=some kk) {x:Operand} (hm:VRel σ (ρ m) (ρ' m)) (D:VRel σ (ρ key) (ρ' key)) (q:VRel σ (ρ x) (ρ' x))
  (l:NL lim dest (.mapUpdate kk m key x) ρ H=some (v,H')):∃w',(Instr.mapUpdate t (ρ' m) (ρ' key) (ρ' x)).run P w=.ok () w'/\Inv Pg W lim σ H' w'/\Stp W w w'/\H'.length=H.length/\v=undef:=by
 simp only [NL] at l;split at l
 case h_2=>cases l
 rename_i r hr;split at l
 case h_2=>cases l
 rename_i es A;split at l
 case isFalse=>cases l
 rename_i s;obtain ⟨y,o⟩:=s;obtain ⟨B,T,d,hd,_⟩:=Yb hk y w;have Q:=Nie y D;have M:mapEntries H (ρ m)=some es:=by rw [hr];simp [mapEntries,A]
 rcases f.entries hm M with ⟨z,rfl⟩ | ⟨r',L,ents,clock,F,aa,hL,z,u,g,k⟩
 ·rw [hr] at hm;obtain ⟨L,_,h2⟩:=hm.map_left;rw [z] at h2;cases h2
 rw [hr] at F;cases F;have E:L.blk<w.heap.size:=(Array.getElem?_eq_some_iff.1 u).1;have N:∃n,findKey (ρ key) es 0=some n:=by
  cases C:findKey (ρ key) es 0 with
  | none=>simp [C] at l
  | some n=>exact ⟨n,rfl⟩
 obtain ⟨n,C⟩:=N;obtain ⟨J,g2⟩:=Ma (P:=P) (w:=w) (σ:=σ) hk y g k C;rw [z,Q];cases n with
 | none=>
   simp [C] at l;obtain ⟨rfl,rfl⟩:=l;obtain ⟨U,V⟩:=f.setMap (es':=es++[(ρ key,ρ x)]) A hL o (ents:=ents.push { key:=ρ key,val:=ρ' x,born:=clock }) (clock:=clock+1) E (by simp [g]) (fun j a b i c=>by
    by_cases h:j<es.length
    ·rw [Oa h] at i;rw [P5,Ng (by omega)] at c;exact k j a b i c
    ·have O:j=es.length:=by
      have:=(List.getElem?_eq_some_iff.1 i).1;simp at this;omega
     subst O;simp at i;rw [<-g] at c;simp at c;subst i c;exact ⟨rfl,q⟩) (by
    obtain ⟨X,K⟩:=f.stamps A hL u;refine ⟨by simp [X],fun j e h=>?_⟩;rw [P5] at h;split at h
    ·cases h;simp only;omega
    ·exact K j e h)
   simp only [Oo] at J;exact ⟨_,by simp [Instr.mapUpdate,run_underlying Y,MapKept.run_getObj_map u,B,J,MapKept.run_setObj_map _ u],U,V,by simp,rfl⟩
 | some p=>
   obtain ⟨G,p2⟩:=p;obtain ⟨e1,e2,Z,I,q3,q4⟩:=g2 _ rfl;simp only at Z I q3;simp [C] at l;obtain ⟨rfl,rfl⟩:=l;have R:e2.key=ρ key:=by
    rw [<-(k _ _ _ Z I).1];exact Nq4 q4
   have S:G<ents.size:=(Array.getElem?_eq_some_iff.1 I).1;obtain ⟨U,V⟩:=f.setMap (es':=es.set G (ρ key,ρ x)) A hL o (ents:=ents.modify G fun e=>{ e with key:=ρ key,val:=ρ' x }) (clock:=clock) E (by simp [g]) (fun j a b i c=>by
    rw [Ob] at i;rw [Array.getElem?_modify] at c;by_cases h:G=j
    ·subst h;rw [Nl rfl,Nl (by rw [<-g];exact S)] at i;rw [Nl rfl,I] at c;simp at i c;subst i c;exact ⟨rfl,q⟩
    ·rw [Ng h] at i;rw [Ng h] at c;exact k j a b i c) (by
    obtain ⟨X,K⟩:=f.stamps A hL u;refine ⟨by simp [X],fun j e h=>?_⟩;rw [Array.getElem?_modify] at h;split at h
    ·simp only [Nd] at h;obtain ⟨a,i,rfl⟩:=h;exact K j a i
    ·exact K j e h)
   simp only [Ny] at J;have hq:((ents[G]?).map (·.key)).getD (ρ key)=ρ key:=by rw [I];simp [R]
   refine ⟨_, ?_,U,V,by simp,rfl⟩;simp only [Instr.mapUpdate,Sem.run_bind,run_underlying Y,Result.andThen_ok,MapKept.run_getObj_map u,B,J,hq];rw [T];simp [MapKept.run_setObj_map _ u]
end
section
variable {P:Program} {Pg:Prg} {W:Nat->Prop} {lim:Nat} {σ:PO} {H H':NA} {w:World} {dest:Option Nat} {ρ ρ':Operand->Value} {v:Value}
theorem Nj4 (mx:Bool) {x y z:Value} (h:WT mx x y=some z):(if mx then Builtin.max2 x y else Builtin.min2 x y).run P w=.ok z w/\∃k n,z=.int k n:=by
 unfold WT at h;split at h
 ·split at h
  ·rename_i hk;cases h;subst hk;cases mx<;>simp [Builtin.min2,Builtin.max2]
  ·cases h
 ·cases h
theorem VI (mx:Bool):∀(ys a:List Value) (x b r:Value),VRel σ x b->OV σ ys a->RH mx x ys=some r->
  ∃r',(a.foldlM (if mx then Builtin.max2 else Builtin.min2) b).run P w=.ok r' w/\VRel σ r r'
 | [],a,x,b,r,hx,hy,h=>by
   have:a=[]:=by have:=hy.1;simpa using this.symm
   subst this;simp [RH] at h;subst h;exact ⟨b,by simp,hx⟩
 | y::ys,a,x,b,r,hx,hy,h=>by
   cases a with
   | nil=>have:=hy.1;simp at this
   | cons e a=>
     simp only [RH] at h;split at h
     case h_2=>cases h
     rename_i z c;have d:b=x/\e=y:=by
      unfold WT at c;split at c
      ·exact ⟨hx.int_left,hy.head.int_left⟩
      ·cases c
     obtain ⟨rfl,rfl⟩:=d;obtain ⟨h1,k,n,rfl⟩:=Nj4 (P:=P) (w:=w) mx c;obtain ⟨r',h2,f⟩:=VI mx ys a _ _ r (.atom rfl) hy.tail h;refine ⟨r', ?_,f⟩;rw [List.foldlM_cons,Sem.run_bind];have:((if mx then Builtin.max2 else Builtin.min2) b e).run P w=.ok (.int k n) w:=by cases mx<;>simpa using h1
     rw [this];exact h2
end
section
variable {P:Program} {Pg:Prg} {W:Nat->Prop} {lim:Nat} {σ:PO} {H H':NA} {w:World} {dest:Option Nat} {ρ ρ':Operand->Value} {v:Value}
variable {w':World} {a:Array Operand} {x:Operand} {ty:TypeId}
theorem OZ.wrote (a:Inv Pg W lim σ H w) {run:Result Next} {nx:Next} {v':Value} (hr:run=.ok nx w') (hn:Nj1 nx=some v') (c:VRel σ v v') (hi:Inv Pg W lim σ H' w') (hs:Stp W w w') (hl:H'.length=H.length) :
  OZ Pg W lim σ dest H w run v H':=⟨nx,w',σ,v',hr,hn,c,hi,hs,PO.le_refl σ,fun j b=>absurd rfl b,by omega,fun _=>hl⟩
theorem VX {l:List Operand} (h:∀x∈l,VRel σ (ρ x) (ρ' x)):OV σ (l.map ρ) (l.map ρ'):=OV.map l ρ ρ' h
theorem N57 {b:Array TypeId} {t:TypeId} {x:Value} (f:b[0]? = some t) :
  (P.underlying t=some .string->∀s,x=.string s->(Builtin.len_ b ty #[x]).run P w=.ok (.int .i64 s.size) w)/\
  ((∃e,P.underlying t=some (.slice e))->∀a n c,x=.slice a n c->(Builtin.len_ b ty #[x]).run P w=.ok (.int .i64 n) w)/\
  (∀n e,P.underlying t=some (.array n e)->(Builtin.len_ b ty #[x]).run P w=.ok (.int .i64 n) w):=by
 refine ⟨fun d s g=>?_,fun ⟨e,d⟩ a n c g=>?_,fun n e d=>?_⟩
 ·subst g;simp [Builtin.len_,f,run_underlying d,goInt]
 ·subst g;simp [Builtin.len_,f,run_underlying d,goInt]
 ·cases x<;>simp [Builtin.len_,f,run_underlying d,goInt]
theorem VD (b:Builtin) (a:Array TypeId) (ty:TypeId) (cs:Array Bool) (args:Array Value) (s:Sem Value) {x:Value} (c:builtin b a ty cs args=(do pure (.value (<-s)))) (h:s.run P w=.ok x w') :
  (builtin b a ty cs args).run P w=.ok (.value x) w':=by
 rw [c];simp [h]
theorem Nkn (o:Oper) (c:Call) (b:Builtin) (ho:o.op=.call c) (hc:c.callee=.builtin b) :
  execOp ρ' o=builtin b c.argTypes o.type (c.args.map fun | .const _=>true | _=>false) (c.args.map ρ'):=by
 simp only [execOp,ho,resolve,hc];rfl
theorem Ngf (h:a.toList=[x]):a.map ρ'=#[ρ' x]:=by
 apply Array.ext';simp [h]
theorem N3j {y:Operand} (h:a.toList=[x,y]):a.map ρ'=#[ρ' x,ρ' y]:=by
 apply Array.ext';simp [h]
theorem Na6 {a:Array TypeId} {t:TypeId} {l:List TypeId} (h:a.toList=t::l):a[0]? = some t:=by
 rw [<-Array.getElem?_toList,h];rfl
theorem Noa (f:Inv Pg W lim σ H w) {dt e:TypeId} {p:Array TypeId} (r:p[0]? = some dt) (E:P.underlying dt=some (.slice e)) {z:List Value} (I:zeroOf P e=some z) (s:VRel σ (ρ x) (ρ' x))
  (l:NL lim dest (.clear z x) ρ H=some (v,H')):∃w',(Builtin.clear_ p ty #[ρ' x]).run P w=.ok (.tuple #[]) w'/\v=.tuple #[]/\Inv Pg W lim σ H' w'/\Stp W w w'/\H'.length=H.length:=by
 simp only [NL] at l;split at l
 case h_2=>cases l
 rename_i a n c C;obtain ⟨i,b,hi,D,rfl,m⟩:=Ve I;rw [C] at s;obtain ⟨G,L,hL,hc⟩:=s.slice_left;have u:(zeroValue e).run P w=.ok b w:=by simp [zeroValue,typeInfo,hi,D]
 by_cases q:n=0
 ·rw [Nl q] at l;cases l;subst q;have d:∃b' c',ρ' x=.slice (some b') 0 c':=by
   rcases hc with ⟨_,h⟩ | ⟨_,_,_,_,_,h⟩ | ⟨_,_,q,h⟩
   ·exact ⟨_,_,h⟩
   ·exact ⟨_,_,h⟩
   ·exact ⟨_,_,h⟩
  obtain ⟨b',c',d⟩:=d;refine ⟨w, ?_,rfl,f,Stp.refl _ _,rfl⟩;rw [d];simp [Builtin.clear_,r,run_underlying E]
 ·rw [Ng q] at l;simp only [Nd,Prod.mk.injEq] at l;obtain ⟨N,B,rfl,rfl⟩:=l;have g:∀y∈(List.range (n*b.cells.toList.length)).map (fun j=>b.cells.toList.getD (j % b.cells.toList.length) undef),atom y=true/\y.oneCell'=true:=by
   intro y t;obtain ⟨j,A,rfl⟩:=List.mem_map.1 t;have o:=List.mem_range.1 A;have hp:0<b.cells.toList.length:=by
    rcases Qu b.cells.toList.length with h | h
    ·rw [h] at o;omega
    ·exact h
   have hm:=P6 j hp;rw [Nb,Ni hm];exact m _ (Qa hm)
  obtain ⟨w',F,J,K,M⟩:=f.store (P:=P) hL B (OV.refl_of fun y t=>.atom (g y t).1) fun y t=>(g y t).2
  have d:∃c',ρ' x=.slice (some ⟨L.blk,L.base+a.off,none⟩) n c':=by
   rcases hc with ⟨_,h⟩ | ⟨_,_,_,_,_,h⟩ | ⟨_,_,h1,h⟩
   ·exact ⟨_,h⟩
   ·exact ⟨_,h⟩
   ·exact absurd h1 q
  obtain ⟨c',d⟩:=d;refine ⟨w', ?_,rfl,J,K,M⟩;have hl:(Builtin.zeroCells b.cells n).toList=(List.range (n*b.cells.toList.length)).map (fun j=>b.cells.toList.getD (j % b.cells.toList.length) undef):=by
   unfold Builtin.zeroCells;rw [Array.toList_map,Array.toList_range,Array.length_toList];refine P9 fun j A=>?_
   have o:=List.mem_range.1 A;have hp:0<b.cells.size:=by
    rcases Qu b.cells.size with h | h
    ·rw [h] at o;omega
    ·exact h
   have hm:=P6 j hp;rw [getElem!_pos b.cells _ hm,Nb,Array.getElem?_toList,Of hm];rfl
  generalize (List.range (n*b.cells.toList.length)).map (fun j=>b.cells.toList.getD (j % b.cells.toList.length) undef)=L0 at hl F;rw [d];obtain ⟨k,rfl⟩:∃k,n=k+1:=⟨n-1,by omega⟩
  simp [Builtin.clear_,r,run_underlying E,u,hl,F]
end
end Go.AM




