/-
  Joined texts, 1 of 10. A part of the claim that the last text states.
-/
import Derived.Orders
import Derived.Laws.Sem
import Derived.Deep.MidRow
import Derived.Deep.AppendSrc
import Derived.RowKit3
import Derived.MapKept
import Derived.Laws.StructEq
import Derived.Laws.BytesString
import Derived.Laws.MakeOwn
import Derived.Laws.Pointers
import Derived.Laws.Cover3
import Derived.ChangeKeysEq
import Derived.Deep.Upon
set_option linter.unusedVariables false
set_option linter.unusedSimpArgs false
set_option linter.defProp false
set_option linter.unusedSectionVars false
set_option maxRecDepth 100000
set_option maxHeartbeats 4000000
namespace Go
abbrev Na.{u}:=@List.append_nil.{u}
abbrev Nb.{u}:=@List.length_append.{u}
abbrev Nc.{u}:=@List.getD_eq_getElem?_getD.{u}
abbrev Nd.{u,v}:=@Option.map_eq_some_iff.{u,v}
abbrev Nf.{u}:=@if_neg.{u}
abbrev Ng:=@Nat.le_refl
abbrev Nh.{u}:=@List.mem_cons_of_mem.{u}
abbrev Ni.{u}:=@List.mem_singleton.{u}
abbrev Nj.{u}:=@List.length_cons.{u}
abbrev Nk.{u}:=@if_pos.{u}
abbrev Nl.{u}:=@List.length_nil.{u}
abbrev Nm.{u}:=@List.mem_cons_self.{u}
abbrev Nn:=@eq_false
abbrev No:=@decide_eq_true
abbrev Np.{u}:=@List.getElem?_eq_getElem.{u}
abbrev Nq:=@eq_true
abbrev Nr.{u}:=@List.append_assoc.{u}
abbrev Ns:=@Classical.byContradiction
abbrev Nu.{u}:=@List.mem_cons.{u}
abbrev Nv:=@Nat.zero_le
abbrev Nw.{u}:=@List.mem_append.{u}
abbrev Nx:=@decide_eq_false
abbrev Ny.{u}:=@List.mem_append_left.{u}
abbrev Nz.{u,v}:=@Option.map_some.{u,v}
abbrev N0:=@Nat.zero_add
abbrev N1.{u}:=@List.mem_append_right.{u}
abbrev N2.{u,v}:=@List.flatMap_cons.{u,v}
abbrev N3:=@decide_eq_true_eq
abbrev N4.{u}:=@Array.size_setIfInBounds.{u}
abbrev N5.{u}:=@List.pairwise_iff_getElem.{u}
abbrev N6.{u}:=@List.length_take.{u}
abbrev N7.{u}:=@Array.getD_eq_getD_getElem?.{u}
abbrev N8.{u}:=@List.getElem?_eq_none.{u}
abbrev N9:=@Bool.and_eq_true
abbrev Oa:=@Int.le_refl
abbrev Ob.{u}:=@List.nil_append.{u}
abbrev Oc.{u}:=@List.cons_append.{u}
abbrev Od.{u}:=@List.getElem?_append_left.{u}
abbrev Oe:=@Bool.false_eq_true
abbrev Of.{u}:=@List.take_length.{u}
abbrev Og.{u}:=@List.getElem?_append_right.{u}
abbrev Oh.{u}:=@List.getElem?_set.{u}
abbrev Oi.{u}:=@List.all_eq_true.{u}
abbrev Oj:=@Nat.add_zero
abbrev Ok.{u}:=@List.mem_of_getElem?.{u}
abbrev Ol.{u}:=@Array.getElem?_eq_getElem.{u}
abbrev Om:=@Nat.lt_or_ge
abbrev On.{u}:=@List.not_mem_nil.{u}
abbrev Oo.{u}:=@List.take_of_length_le.{u}
abbrev Oq:=@Decidable.byContradiction
abbrev Ou.{u,v}:=@List.length_map.{u,v}
abbrev Ov.{u,v}:=@Option.map_none.{u,v}
abbrev Ow.{u}:=@List.length_singleton.{u}
abbrev Ox:=@Int.add_zero
abbrev Oy.{u}:=@List.length_replicate.{u}
abbrev O0:=@Int.toNat_natCast
abbrev O8.{u}:=@List.getElem?_cons_zero.{u}
abbrev O9.{u}:=@List.replicate_succ.{u}
abbrev Pa:=@Nat.min_eq_left
abbrev Pc.{u,v}:=@List.flatMap_append.{u,v}
abbrev Pd.{u}:=@List.length_set.{u}
abbrev Pe.{u,v}:=@List.map_append.{u,v}
abbrev Ph.{u}:=@List.set_cons_succ.{u}
abbrev Pi.{u,v}:=@List.map_cons.{u,v}
abbrev Pj:=@Nat.mul_le_mul_right
abbrev Pk.{u}:=@List.drop_eq_getElem_cons.{u}
abbrev Pn.{u}:=@List.mem_filter.{u}
abbrev Po.{u}:=@List.drop_zero.{u}
abbrev Pq.{u}:=@Option.getD_some.{u}
abbrev Ps.{u}:=@List.length_drop.{u}
abbrev Pt.{u}:=@List.take_succ_cons.{u}
abbrev Pu.{u}:=@List.take_succ_eq_append_getElem.{u}
abbrev Pv:=@Int.tdiv_eq_ediv_of_nonneg
abbrev Pw.{u,v}:=@List.getElem?_map.{u,v}
abbrev Py:=@Nat.le_max_right
abbrev Pz.{u}:=@List.mem_of_mem_take.{u}
abbrev P0.{u}:=@List.getElem?_replicate.{u}
abbrev P4:=@Nat.add_assoc
abbrev P5.{u}:=@Array.getElem?_setIfInBounds_ne.{u}
abbrev P6.{u,v}:=@List.map_congr_left.{u,v}
abbrev P7:=@Nat.succ_mul
abbrev P8.{u}:=@List.take_append_drop.{u}
abbrev P9.{u}:=@List.set_append_left.{u}
abbrev Qa.{u}:=@List.nodup_append.{u}
abbrev Qc.{u}:=@Array.getElem?_push.{u}
abbrev Qd.{u}:=@List.idxOf_lt_length_of_mem.{u}
abbrev Qe.{u,v}:=@List.foldl_cons.{u,v}
abbrev Qg:=@Nat.add_mul
abbrev Qh:=@Int.lt_trichotomy
abbrev Qi.{u}:=@List.getElem?_set_ne.{u}
abbrev Qj:=@Nat.mod_eq_of_lt
abbrev Qk:=@Nat.add_comm
abbrev Qn.{u}:=@List.take_zero.{u}
abbrev Qo.{u}:=@List.ext_getElem.{u}
abbrev Qp:=@Int.zero_add
abbrev Qq:=@Nat.le_max_left
abbrev Qr.{u}:=@List.set_cons_zero.{u}
abbrev Qs.{u}:=@List.getElem_idxOf.{u}
abbrev Qt.{u}:=@List.drop_eq_nil_of_le.{u}
abbrev Qu:=@Int.cast_ofNat_Int
abbrev Qv:=@BitVec.toNat_ofNat
abbrev Qw:=@Nat.mul_one
abbrev Qy.{u,v}:=@List.getElem_map.{u,v}
abbrev Qz.{u,v}:=@List.flatMap_nil.{u,v}
abbrev Q0:=@Nat.zero_mul
abbrev Q1:=@Nat.succ_le_of_lt
abbrev Q2:=@Nat.sub_self
abbrev Q4.{u}:=@List.getElem?_take.{u}
abbrev Q5.{u}:=@List.getElem?_drop.{u}
abbrev Q6.{u}:=@List.filter_cons_of_pos.{u}
abbrev Q7.{u}:=@List.filter_cons_of_neg.{u}
abbrev Q8.{u}:=@List.getElem?_set_self.{u}
abbrev Q9.{u}:=@List.set_append_right.{u}
abbrev Ra:=@List.range_succ
abbrev Rb:=@Bool.eq_iff_iff
abbrev Rc:=@Nat.le_trans
abbrev Rd.{u}:=@List.take_append_of_le_length.{u}
abbrev Re:=@Nat.mod_lt
abbrev Rf:=@Nat.add_sub_cancel
abbrev Rg:=@Int.fdiv_eq_ediv_of_nonneg
abbrev Rh.{u}:=@List.mem_or_eq_of_mem_set.{u}
abbrev Ri.{u}:=@List.mem_of_find?_eq_some.{u}
abbrev Rj.{u}:=@List.getElem_drop.{u}
abbrev Rk.{u}:=@List.getElem_append_left.{u}
abbrev Rl.{u}:=@List.mem_singleton_self.{u}
abbrev Rm.{u}:=@List.getElem_mem.{u}
abbrev Rn.{u}:=@List.getElem?_cons_succ.{u}
abbrev Ro.{u}:=@List.length_filter_le.{u}
abbrev Rp:=@Bool.not_true
abbrev Rq:=@Nat.eq_zero_or_pos
abbrev Rr.{u}:=@List.pairwise_append.{u}
abbrev Rs.{u}:=@Eq.symm.{u}
abbrev Rt:=@true_and
abbrev Ru:=@of_decide_eq_true
abbrev Rv:=@Int.emod_eq_of_lt
abbrev Rw.{u,v}:=@congrArg.{u,v}
abbrev Rx:=@Nat.testBit_zero
abbrev Ry:=@BitVec.toNat_and
abbrev Rz.{u}:=@dif_pos.{u}
abbrev R0:=@Nat.div_le_self
abbrev R1.{u}:=@List.replicate_append_replicate.{u}
abbrev R2:=@Nat.mod_two_eq_zero_or_one
abbrev R3.{u}:=@List.drop_length.{u}
abbrev R4.{u,v}:=@Prod.ext.{u,v}
abbrev R6:=@Nat.lt_irrefl
abbrev R7.{u}:=@List.find?_some.{u}
abbrev R8:=@Nat.add_sub_cancel_left
abbrev R9.{u}:=@List.take_take.{u}
abbrev Sb.{u,v}:=@List.flatMap_def.{u,v}
abbrev Sc.{u}:=@Option.eq_none_or_eq_some.{u}
abbrev Sd.{u}:=@List.getElem_append_right.{u}
abbrev Se.{u}:=@List.exists_mem_of_ne_nil.{u}
end Go
namespace Go.AM
def loose (e:Nat):Nat:=2 ^ 62+e
inductive KK where
 | int (k:IntKind) | str | bool | ints (l:List IntKind)
 deriving DecidableEq,Inhabited
inductive EqKind where
 | bool | ptr | slice | map | func | agg (l:List KK)
 deriving Inhabited
inductive CM where
 | any | pure | mk | maps | recs
 deriving DecidableEq,Inhabited
def CM.isPure:CM->Bool
 | .pure=>true
 | _=>false
inductive AOp where
 | mov (x:Operand)
 | pick (c a b:Operand)
 | bin (op:BinOp) (x y:Operand)
 | eqv (neg:Bool) (k:EqKind) (x y:Operand)
 | un (op:UnOp) (x:Operand)
 | conv (k:IntKind) (x:Operand)
 | alloc (zero:List Value)
 | box (x:Operand)
 | build (zero:List Value) (parts:List (Nat×Nat×Operand))
 | buildSlice (len:Nat) (zero:List Value) (parts:List (Nat×Nat×Operand))
 | load1 (a:Operand)
 | loadN (n:Nat) (a:Operand)
 | store (n:Nat) (a x:Operand)
 | storeD (n:Nat) (a x:Operand)
 | nilCheck (x:Operand)
 | fieldAddr (off:Nat) (a:Operand)
 | field1 (off:Nat) (x:Operand)
 | fieldN (off n:Nat) (x:Operand)
 | idxAddrA (len esz:Nat) (x i:Operand)
 | idxAddrS (esz:Nat) (x i:Operand)
 | idxA (len esz:Nat) (agg:Bool) (x i:Operand)
 | idxStr (x i:Operand)
 | sliceS (esz:Nat) (x:Operand) (lo hi mx:Option Operand)
 | sliceA (n esz:Nat) (x:Operand) (lo hi mx:Option Operand)
 | sliceStr (x:Operand) (lo hi:Option Operand)
 | lenStr (x:Operand)
 | lenSlice (x:Operand)
 | capSlice (x:Operand)
 | lenMap (x:Operand)
 | lenK (n:Nat)
 | append (esz bytes:Nat) (str:Bool) (s x:Operand)
 | append0 (esz bytes:Nat) (str:Bool) (s x:Operand)
 | appendL (esz bytes:Nat) (str:Bool) (s x:Operand)
 | copy (esz:Nat) (d x:Operand)
 | minmax (mx:Bool) (xs:List Operand)
 | makeSlice (esz bytes:Nat) (zero:List Value) (len cap:Operand)
 | growNil (esz bytes:Nat) (zero:List Value) (s n:Operand)
 | die (x:Operand)
 | makeMap (hint:Option Operand)
 | lookup (kk:KK) (zero:Value) (ok:Bool) (m key:Operand)
 | mapUpdate (kk:KK) (m key v:Operand)
 | delete (kk:KK) (m key:Operand)
 | clear (zero:List Value) (x:Operand)
 | makeFunc (f:FuncId) (first captured:List Operand)
 | extract (i:Nat) (x:Operand)
 | b2s (x:Operand)
 | strId (x:Operand)
 | rowMark (x:Operand)
 | call (mp:CM) (f:Operand) (args:List Operand)
 | loadR (n:Option Nat) (x:Operand)
 deriving Inhabited
def AOp.operands:AOp->List Operand
 | .mov x | .un _ x | .conv _ x | .box x | .load1 x | .loadN _ x | .nilCheck x | .fieldAddr _ x | .field1 _ x | .fieldN _ _ x | .lenStr x | .lenSlice x | .capSlice x | .lenMap x | .extract _ x | .b2s x | .strId x | .rowMark x | .die x | .clear _ x | .loadR _ x=>[x]
 | .pick c a b=>[c,a,b]
 | .bin _ x y | .eqv _ _ x y | .store _ x y | .storeD _ x y | .idxAddrA _ _ x y | .idxAddrS _ x y | .idxA _ _ _ x y | .idxStr x y | .append _ _ _ x y | .append0 _ _ _ x y | .appendL _ _ _ x y | .copy _ x y | .makeSlice _ _ _ x y | .growNil _ _ _ x y | .lookup _ _ _ x y | .delete _ x y=>[x,y]
 | .mapUpdate _ m k v=>[m,k,v]
 | .alloc _ | .lenK _=>[]
 | .build _ ps | .buildSlice _ _ ps=>ps.map (·.2.2)
 | .sliceS _ x lo hi mx | .sliceA _ _ x lo hi mx=>x::(lo.toList++hi.toList++mx.toList)
 | .sliceStr x lo hi=>x::(lo.toList++hi.toList)
 | .minmax _ xs=>xs
 | .makeMap h=>h.toList
 | .makeFunc _ a b=>a++b
 | .call _ f args=>f::args
structure AIns where
 dst:Option Nat
 guard:Option (Nat×Bool)
 op:AOp
 dest:Option Nat:=none
 mask:List Nat:=[]
 deriving Inhabited
inductive ACode where
 | skip
 | ops (l:List AIns)
 | drawn (n:Nat) (l:List AIns)
 | seq (a b:ACode)
 | cond (c:Operand) (thn els:ACode)
 | block (id:Nat) (body:ACode)
 | loop (body:ACode)
 | exit (id:Nat)
 | ret
 | rangeF (f:Operand) (params:List Nat) (assign body:ACode)
 | retM
 | retR
 | exitR (id:Nat)
 deriving Inhabited
inductive ARes where
 | tmp (t:Nat)
 | cell1 (a:Nat)
 | cellN (n a:Nat)
 deriving Inhabited
structure AFunc where
 ntmps:Nat
 results:List ARes
 body:ACode
 deriving Inhabited
structure LoopB where
 st:Nat
 pend:Option ACode
 fr:Nat->Value
 N:Nat
 params:List Nat
 assign:ACode
 body:ACode
inductive Blk where
 | dead
 | cells (ro:Bool) (c:List Value)
 | map (es:List (Value×Value))
 | loop (x:LoopB)
 | dfr
 | iter (m:Option Nat) (n:Nat) (seen:List Nat)
 deriving Inhabited
abbrev NB:=List Blk
def NC (H:NB) (i:Nat):Blk:=H.getD i .dead
def atom:Value->Bool
 | .bool _ | .int _ _ | .string _ | .pointer none | .map none | .nilFunc | .nilIface=>true
 | .slice none n c=>n == 0&&c == 0
 | .func (.func _) a b=>a.isEmpty&&b.isEmpty
 | .tuple a=>a.isEmpty
 | _=>false
def flat:Nat->Value->Bool
 | n+1,.agg cs=>cs.toList.all (flat n)
 | n+1,.tuple cs=>cs.toList.all (flat n)
 | _,v=>atom v
def olds (n:Nat):Nat->Value->Bool
 | d+1,.agg cs=>cs.toList.all (olds n d)
 | d+1,.tuple cs=>cs.toList.all (olds n d)
 | _,.pointer (some a)=>decide (a.block<n)
 | _,.slice (some a) _ _=>decide (a.block<n)
 | _,.map (some r)=>decide (r<n)
 | _,v=>atom v
def NA:Value->Bool
 | .tuple _=>false
 | _=>true
def ev (fr:Nat->Value):Operand->Value
 | .tmp t=>fr t
 | .const v=>v
 | .func f=>.func (.func f) #[] #[]
 | .global _=>undef
def place (dest:Option Nat) (b:Blk) (H:NB):Nat×NB:=
 match dest with
 | none=>(H.length,H++[b])
 | some i=>(i,H.set i b)
def loadCell (H:NB) (a:Addr):Option Value:=
 match NC H a.block with
 | .cells _ c=>c[a.off]?
 | _=>none
def loadCells (H:NB) (a:Addr) (n:Nat):Option (List Value):=
 match NC H a.block with
 | .cells _ c=>if a.off+n<=c.length then some ((c.drop a.off).take n) else none
 | _=>none
def RF (c:List Value) (off:Nat):List Value->List Value
 | []=>c
 | v::vs=>RF (c.set off v) (off+1) vs
def storeAt (lim:Nat) (H:NB) (a:Addr) (vs:List Value):Option NB:=
 match NC H a.block with
 | .cells false c=>if lim<=a.block/\a.off+vs.length<=c.length then some (H.set a.block (.cells false (RF c a.off vs))) else none
 | _=>none
def NF (op:BinOp):Value->Value->Option Value
 | .int k a,.int k' b=>
   match op with
   | .shl=>if b<0 then none else some (.int k (k.wrap (a*2 ^ (min b.toNat k.bits))))
   | .shr=>if b<0 then none else some (.int k (a.fdiv (2 ^ (min b.toNat k.bits))))
   | _=>if k=k' then
     match op with
     | .add=>some (.int k (k.wrap (a+b)))
     | .sub=>some (.int k (k.wrap (a-b)))
     | .mul=>some (.int k (k.wrap (a*b)))
     | .quo=>if b=0 then none else some (.int k (k.wrap (a.tdiv b)))
     | .rem=>if b=0 then none else some (.int k (a.tmod b))
     | .and=>some (.int k (k.wrap (BitVec.ofInt k.bits a &&& BitVec.ofInt k.bits b).toNat))
     | .or=>some (.int k (k.wrap (BitVec.ofInt k.bits a ||| BitVec.ofInt k.bits b).toNat))
     | .xor=>some (.int k (k.wrap (BitVec.ofInt k.bits a ^^^ BitVec.ofInt k.bits b).toNat))
     | .andNot=>some (.int k (k.wrap (BitVec.ofInt k.bits a &&& ~~~ BitVec.ofInt k.bits b).toNat))
     | .eql=>some (.bool (a == b))
     | .neq=>some (.bool (a != b))
     | .lss=>some (.bool (decide (a<b)))
     | .leq=>some (.bool (decide (a<=b)))
     | .gtr=>some (.bool (decide (b<a)))
     | .geq=>some (.bool (decide (b<=a)))
     | _=>none
     else none
 | .string a,.string b=>
   match op with
   | .add=>if ((a.size+b.size:Nat):Int) > IntKind.i64.max then none else some (.string (a++b))
   | .eql=>some (.bool (a.toList == b.toList))
   | .neq=>some (.bool (!(a.toList == b.toList)))
   | .lss=>some (.bool (Op.bytesLess a.toList b.toList))
   | .leq=>some (.bool (Op.bytesLess a.toList b.toList||a.toList == b.toList))
   | .gtr=>some (.bool (!(Op.bytesLess a.toList b.toList||a.toList == b.toList)))
   | .geq=>some (.bool (!(Op.bytesLess a.toList b.toList)))
   | _=>none
 | _,_=>none
def U5:KK->Value->Value->Option Bool
 | .int k,.int k1 a,.int k2 b=>if k1=k/\k2=k then some (a == b) else none
 | .bool,.bool a,.bool b=>some (a == b)
 | .str,.string a,.string b=>some (a.toList == b.toList)
 | _,_,_=>none
def PR:List KK->List Value->List Value->Option Bool
 | [],[],[]=>some true
 | k::ks,x::xs,y::ys=>match U5 k x y,PR ks xs ys with
   | some a,some b=>some (a&&b)
   | _,_=>none
 | _,_,_=>none
def aEq:EqKind->Value->Value->Option Bool
 | .bool,.bool a,.bool b=>some (a == b)
 | .ptr,.pointer none,.pointer b=>some b.isNone
 | .ptr,.pointer (some _),.pointer none=>some false
 | .slice,.slice none _ _,.slice b _ _=>some b.isNone
 | .slice,.slice (some _) _ _,.slice none _ _=>some false
 | .map,.map none,.map b=>some b.isNone
 | .map,.map (some _),.map none=>some false
 | .func,.nilFunc,.nilFunc=>some true
 | .func,.nilFunc,.func _ _ _=>some false
 | .func,.func _ _ _,.nilFunc=>some false
 | .agg l,.agg xs,.agg ys=>PR l xs.toList ys.toList
 | _,_,_=>none
def PW:UnOp->Value->Option Value
 | .not,.bool b=>some (.bool !b)
 | .neg,.int k n=>some (.int k (k.wrap (0-n)))
 | .xor,.int k n=>some (.int k (k.wrap (BitVec.ofInt k.bits (if k.signed then -1 else k.max) ^^^ BitVec.ofInt k.bits n).toNat))
 | _,_=>none
def Sg (ρ:Operand->Value):List (Nat×Nat×Operand)->List Value->Option (List Value)
 | [],c=>some c
 | (off,size,x)::rest,c=>
   let vs:=(ρ x).cells.toList
   if vs.length=size/\off+size<=c.length/\NA (ρ x)=true then Sg ρ rest (RF c off vs) else none
def bound (v:Value) (m:Nat):Option Nat:=
 match v with
 | .int _ i=>if 0<=i/\i<=(m:Int) then some i.toNat else none
 | _=>none
def bounds (ρ:Operand->Value) (len cap:Nat) (lo hi mx:Option Operand):Option (Nat×Nat×Nat):=
 match (match mx with | some x=>bound (ρ x) cap | none=>some cap) with
 | none=>none
 | some m=>
   match (match hi,mx with | some x,some _=>bound (ρ x) m | some x,none=>bound (ρ x) cap | none,none=>some len | none,some _=>none) with
   | none=>none
   | some h=>
     match (match lo with | some x=>bound (ρ x) h | none=>some 0) with
     | none=>none
     | some l=>some (l,h,m)
def Uj (esz:Nat) (ρ:Operand->Value) (v:Value) (lo hi mx:Option Operand):Option Value:=
 match v with
 | .slice a len cap=>
   if cap=loose esz then
    match bounds ρ len len lo hi mx with
    | none=>none
    | some (l,h,m)=>
      match mx with
      | none=>some (.slice (a.map (·.add (l*esz))) (h-l) (loose esz))
      | some _=>if m<2 ^ 62 then some (.slice (if m=l then a else a.map (·.add (l*esz))) (h-l) (m-l)) else none
   else if cap<2 ^ 62 then
    match bounds ρ len cap lo hi mx with
    | none=>none
    | some (l,h,m)=>some (.slice (if m=l then a else a.map (·.add (l*esz))) (h-l) (m-l))
   else none
 | _=>none
def firstCells (H:NB) (size:Nat) (str:Bool):Value->Option (List Value)
 | .slice none n _=>if str\/n≠0 then none else some []
 | .slice (some a) n _=>if str then none else if n=0 then some [] else loadCells H a (n*size)
 | .string s=>if str then some (s.data.toList.map fun b=>.int .u8 b.toNat) else none
 | _=>none
def lenOf:Value->Option Nat
 | .slice _ n _=>some n
 | .string s=>some s.size
 | _=>none
def PM:Nat:=2 ^ 45
def OW (lim:Nat) (dest:Option Nat) (esz bytes:Nat) (str:Bool) (s x:Value) (H:NB):Option (Value×NB):=
 match s,firstCells H esz str x,lenOf x with
 | .slice base n cap,some new,some m=>
   if esz=0\/(n+m)*bytes > PM\/n+m>=2 ^ 62\/cap<n then none
   else if m=0 then some (s,H)
   else match base with
    | none=>
      if n=0/\cap=0 then
       let (i,H'):=place dest (.cells false new) H
       some (.slice (some ⟨i,0,none⟩) m (loose esz),H')
      else none
    | some a=>
      match loadCells H a (n*esz) with
      | none=>none
      | some b=>
        if cap=loose esz then
         match NC H a.block with
         | .cells false _=>
           if lim<=a.block then
            let (i,H'):=place dest (.cells false (b++new)) (H.set a.block .dead)
            some (.slice (some ⟨i,0,none⟩) (n+m) (loose esz),H')
           else none
         | _=>none
        else if cap<2 ^ 62 then
         if n+m<=cap then
          match storeAt lim H (a.add (n*esz)) new with
          | some H'=>some (.slice base (n+m) cap,H')
          | none=>none
         else
          let (i,H'):=place dest (.cells false (b++new)) H
          some (.slice (some ⟨i,0,none⟩) (n+m) (loose esz),H')
        else none
 | _,_,_=>none
def Xx (mx:Bool):Value->Value->Option Value
 | .int k x,.int k' y=>if k=k' then some (.int k (if mx then (if x<y then y else x) else (if y<x then y else x))) else none
 | _,_=>none
def Sq (mx:Bool):Value->List Value->Option Value
 | x,[]=>some x
 | x,y::ys=>match Xx mx x y with
   | some z=>Sq mx z ys
   | none=>none
def UN:List Value->List Value->Option Bool
 | [],[]=>some true
 | .int k a::xs,.int k' b::ys=>if k=k' then (UN xs ys).map ((a == b)&&·) else none
 | _,_=>none
def Tg:List IntKind->List Value->Bool
 | [],[]=>true
 | k::ks,.int k' _::xs=>k == k'&&Tg ks xs
 | _,_=>false
def VI:Value->Value->Option Bool
 | .int k a,.int k' b=>if k=k' then some (a == b) else none
 | .string a,.string b=>some (a == b)
 | .bool a,.bool b=>some (a == b)
 | .agg a,.agg b=>UN a.toList b.toList
 | _,_=>none
def findKey (k:Value):List (Value×Value)->Nat->Option (Option (Nat×Value))
 | [],_=>some none
 | (k',v)::es,i=>match VI k k' with
   | some true=>some (some (i,v))
   | some false=>findKey k es (i+1)
   | none=>none
def TW:KK->Value->Bool
 | .int k,.int k' _=>k == k'
 | .str,.string _=>true
 | .bool,.bool _=>true
 | .ints l,.agg cs=>Tg l cs.toList
 | _,_=>false
def mapEntries (H:NB):Value->Option (List (Value×Value))
 | .map none=>some []
 | .map (some r)=>match NC H r with
   | .map es=>some es
   | _=>none
 | _=>none
def bytesOf:List Value->Option (List UInt8)
 | []=>some []
 | .int .u8 n::l=>match bytesOf l with
   | some bs=>some (UInt8.ofNat n.toNat::bs)
   | none=>none
 | _::_=>none
def TC (H:NB) (esz n:Nat):Value->Option (List Value)
 | .slice none m _=>if m=0 then some [] else none
 | .slice (some a) _ _=>loadCells H a (n*esz)
 | .string s=>if esz=1 then some ((s.data.toList.take n).map fun b=>.int .u8 b.toNat) else none
 | _=>none
def Tw:Blk->Bool
 | .cells _ c=>c.any fun v=>match v with
   | .int _ _=>false
   | _=>true
 | _=>false
def loadX (n:Option Nat) (H:NB) (p:Addr):Option Value:=match n with
 | none=>loadCell H p
 | some k=>(loadCells H p k).map fun c=>.agg c.toArray
def NJ (lim:Nat) (dest:Option Nat) (o:AOp) (ρ:Operand->Value) (H:NB):Option (Value×NB):=
 match o with
 | .mov x=>some (ρ x,H)
 | .pick c a b=>match ρ c with
   | .bool true=>some (ρ a,H)
   | .bool false=>some (ρ b,H)
   | _=>none
 | .bin op x y=>(NF op (ρ x) (ρ y)).map (·,H)
 | .eqv neg k x y=>match aEq k (ρ x) (ρ y) with
   | some b=>some (.bool (if neg then !b else b),H)
   | none=>none
 | .un op x=>(PW op (ρ x)).map (·,H)
 | .conv k x=>match ρ x with
   | .int _ n=>some (.int k (k.wrap n),H)
   | _=>none
 | .alloc zero=>let (i,H'):=place dest (.cells false zero) H;some (.pointer (some ⟨i,0,none⟩),H')
 | .box x=>if NA (ρ x) then
   let (i,H'):=place dest (.cells false (ρ x).cells.toList) H;some (.pointer (some ⟨i,0,none⟩),H')
   else none
 | .build zero parts=>(Sg ρ parts zero).map fun c=>(.agg c.toArray,H)
 | .buildSlice len zero parts=>match Sg ρ parts zero with
   | some c=>let (i,H'):=place dest (.cells false c) H;some (.slice (some ⟨i,0,none⟩) len len,H')
   | none=>none
 | .load1 a=>match ρ a with
   | .pointer (some p)=>(loadCell H p).map (·,H)
   | _=>none
 | .loadN n a=>match ρ a with
   | .pointer (some p)=>(loadCells H p n).map fun c=>(.agg c.toArray,H)
   | _=>none
 | .loadR n a=>match ρ a with
   | .pointer (some p)=>if Tw (NC H p.block)=true then (loadX n H p).map (·,H) else none
   | _=>none
 | .store n a x=>match ρ a with
   | .pointer (some p)=>if (ρ x).cells.size=n/\NA (ρ x)=true then (storeAt lim H p (ρ x).cells.toList).map (undef,·) else none
   | _=>none
 | .storeD n a x=>match dest,ρ a with
   | some d,.pointer (some p)=>if p.block=d/\(ρ x).cells.size=n/\NA (ρ x)=true then (storeAt lim H p (ρ x).cells.toList).map (undef,·) else none
   | _,_=>none
 | .nilCheck x=>match ρ x with
   | .pointer (some p)=>some (.pointer (some p),H)
   | .func (.func f) a b=>some (.func (.func f) a b,H)
   | _=>none
 | .fieldAddr off a=>match ρ a with
   | .pointer (some p)=>some (.pointer (some (p.add off)),H)
   | _=>none
 | .field1 off x=>match ρ x with
   | .agg cs=>(cs.toList[off]?).map (·,H)
   | _=>none
 | .fieldN off n x=>match ρ x with
   | .agg cs=>some (.agg ((cs.toList.drop off).take n).toArray,H)
   | _=>none
 | .idxAddrA len esz x i=>match ρ x,ρ i with
   | .pointer (some p),.int _ n=>if 0<=n/\n<(len:Int) then some (.pointer (some (p.add (n.toNat*esz))),H) else none
   | _,_=>none
 | .idxAddrS esz x i=>match ρ x,ρ i with
   | .slice (some p) len _,.int _ n=>if 0<=n/\n<(len:Int) then some (.pointer (some (p.add (n.toNat*esz))),H) else none
   | _,_=>none
 | .idxA len esz agg x i=>match ρ x,ρ i with
   | .agg cs,.int _ n=>if 0<=n/\n<(len:Int) then
     (if agg then some (.agg ((cs.toList.drop (n.toNat*esz)).take esz).toArray,H) else (cs.toList[n.toNat*esz]?).map (·,H))
     else none
   | _,_=>none
 | .idxStr x i=>match ρ x,ρ i with
   | .string s,.int _ n=>if 0<=n then (s.data.toList[n.toNat]?).map fun b=>(.int .u8 b.toNat,H) else none
   | _,_=>none
 | .sliceS esz x lo hi mx=>(Uj esz ρ (ρ x) lo hi mx).map (·,H)
 | .sliceA n esz x lo hi mx=>match ρ x with
   | .pointer (some a)=>match bounds ρ n n lo hi mx with
     | some (l,h,m)=>if m<2 ^ 62 then some (.slice (some (if m=l then a else a.add (l*esz))) (h-l) (m-l),H) else none
     | none=>none
   | _=>none
 | .sliceStr x lo hi=>match ρ x with
   | .string s=>match bounds ρ s.size s.size lo hi none with
     | some (l,h,_)=>some (.string (s.extract l h),H)
     | none=>none
   | _=>none
 | .lenStr x=>match ρ x with
   | .string s=>some (.int .i64 s.size,H)
   | _=>none
 | .lenSlice x=>match ρ x with
   | .slice _ n _=>some (.int .i64 n,H)
   | _=>none
 | .capSlice x=>match ρ x with
   | .slice _ _ c=>if c<2 ^ 62 then some (.int .i64 c,H) else none
   | _=>none
 | .lenMap x=>(mapEntries H (ρ x)).map fun es=>(.int .i64 es.length,H)
 | .lenK n=>some (.int .i64 n,H)
 | .append esz bytes str s x=>OW lim dest esz bytes str (ρ s) (ρ x) H
 | .appendL esz bytes str s x=>match ρ s with
   | .slice none n c=>OW lim dest esz bytes str (.slice none n c) (ρ x) H
   | .slice (some a) n c=>if c=loose esz\/c=n then OW lim dest esz bytes str (.slice (some a) n c) (ρ x) H else none
   | _=>none
 | .append0 esz bytes str s x=>match ρ s with
   | .slice b 0 0=>OW lim dest esz bytes str (.slice b 0 0) (ρ x) H
   | _=>none
 | .copy esz d x=>match ρ d,lenOf (ρ x) with
   | .slice base dl _,some sl=>match TC H esz (min sl dl) (ρ x) with
     | some cs=>match base with
       | some a=>if min sl dl=0 then some (.int .i64 0,H) else (storeAt lim H a cs).map (.int .i64 (min sl dl:Nat),·)
       | none=>if dl=0 then some (.int .i64 0,H) else none
     | none=>none
   | _,_=>none
 | .minmax mx xs=>match xs with
   | []=>none
   | x::r=>(Sq mx (ρ x) (r.map ρ)).map (·,H)
 | .makeSlice esz bytes zero len cap=>match ρ len,ρ cap with
   | .int _ l,.int _ c=>
     if 0<=l/\l<=c/\c*bytes<=2 ^ 45/\c<2 ^ 62 then
      let (i,H'):=place dest (.cells false ((List.range (c.toNat*esz)).map fun j=>zero.getD (j % zero.length) undef)) H
      some (.slice (some ⟨i,0,none⟩) l.toNat c.toNat,H')
     else none
   | _,_=>none
 | .growNil esz bytes zero s n=>match ρ s,ρ n with
   | .slice none 0 0,.int _ l=>
     if 0<l/\l*bytes<=2 ^ 45/\l<2 ^ 62 then
      let (i,H'):=place dest (.cells false ((List.range (l.toNat*esz)).map fun j=>zero.getD (j % zero.length) undef)) H
      some (.slice (some ⟨i,0,none⟩) l.toNat (loose esz),H')
     else none
   | _,_=>none
 | .die _=>none
 | .makeMap hint=>match (match hint with | none=>true | some x=>match ρ x with | .int _ _=>true | _=>false) with
   | true=>let (i,H'):=place dest (.map []) H;some (.map (some i),H')
   | false=>none
 | .lookup kk zero ok m key=>match mapEntries H (ρ m) with
   | some es=>if TW kk (ρ key) then
     match findKey (ρ key) es 0 with
     | some (some (_,v))=>some (if ok then .tuple #[v,.bool true] else v,H)
     | some none=>some (if ok then .tuple #[zero,.bool false] else zero,H)
     | none=>none
     else none
   | none=>none
 | .mapUpdate kk m key v=>match ρ m with
   | .map (some r)=>match NC H r with
     | .map es=>if TW kk (ρ key)/\lim<=r then
       match findKey (ρ key) es 0 with
       | some (some (i,_))=>some (undef,H.set r (.map (es.set i (ρ key,ρ v))))
       | some none=>some (undef,H.set r (.map (es++[(ρ key,ρ v)])))
       | none=>none
       else none
     | _=>none
   | _=>none
 | .delete _ _ _=>none
 | .clear zero x=>match ρ x with
   | .slice (some a) n _=>if n=0 then some (.tuple #[],H) else (storeAt lim H a ((List.range (n*zero.length)).map fun j=>zero.getD (j % zero.length) undef)).map (.tuple #[],·)
   | _=>none
 | .makeFunc f first captured=>some (.func (.func f) (first.map ρ).toArray (captured.map ρ).toArray,H)
 | .extract i x=>match ρ x with
   | .tuple vs=>(vs.toList[i]?).map (·,H)
   | _=>none
 | .b2s x=>match ρ x with
   | .slice none n _=>if n=0 then some (.string .empty,H) else none
   | .slice (some a) n _=>match loadCells H a n with
     | some cs=>match bytesOf cs with
       | some bs=>some (.string ⟨bs.toArray⟩,H)
       | none=>none
     | none=>none
   | _=>none
 | .rowMark x=>match ρ x with
   | .slice (some a) n c=>match NC H a.block with
     | .cells false _=>if lim<=a.block/\n≠0 then some (.slice (some a) n c,H) else none
     | _=>none
   | _=>none
 | .strId x=>match ρ x with
   | .string s=>some (.string s,H)
   | _=>none
 | .call _ _ _=>none
def upd (fr:Nat->Value) (t:Nat) (v:Value):Nat->Value:=fun i=>if i=t then v else fr i
def XR (N:Nat) (fr:Nat->Value) (dst:Option Nat) (v:Value):Option (Nat->Value):=
 match dst with
 | none=>some fr
 | some d=>if d<N then some (upd fr d v) else none
def RY (N:Nat) (fr:Nat->Value):Option (Nat×Bool)->Option Bool
 | none=>some true
 | some (t,b)=>if t<N then (match fr t with
   | .bool c=>some (c == b)
   | _=>some false) else none
def OE (base:Nat) (l:List Nat) (H:NB):NB:=l.foldl (fun H i=>H.set (base+i) .dead) H
def OA (base:Nat) (l:List Nat) (H0 H:NB):NB:=l.foldl (fun H i=>H.set (base+i) (NC H0 (base+i))) H
def NE (f:Value) (args:List Value):Option ((FuncId ⊕ Nat)×List Value):=
 match f with
 | .func (.func g) first captured=>some (.inl g,first.toList++args++captured.toList)
 | .func (.yield i) first captured=>some (.inr i,first.toList++args++captured.toList)
 | _=>none
def CM.lim:CM->Nat->NB->Nat
 | .mk,_,H=>H.length
 | _,l,_=>l
abbrev TZ:=Bool->Nat->(FuncId ⊕ Nat)->List Value->NB->Option (Value×NB)
mutual
def RL:Value->Value->Bool
 | .bool a,.bool b=>a == b
 | .int k a,.int k' b=>decide (k=k')&&decide (a=b)
 | .float k a,.float k' b=>decide (k=k')&&decide (a=b)
 | .complex k a c,.complex k' b d=>decide (k=k')&&decide (a=b)&&decide (c=d)
 | .string a,.string b=>a.data.toList == b.data.toList
 | .pointer a,.pointer b=>decide (a=b)
 | .slice a n c,.slice b m d=>decide (a=b)&&decide (n=m)&&decide (c=d)
 | .map a,.map b=>decide (a=b)
 | .chan a,.chan b=>decide (a=b)
 | .func f ⟨a⟩ ⟨c⟩,.func g ⟨b⟩ ⟨d⟩=>decide (f=g)&&Vl a b&&Vl c d
 | .nilFunc,.nilFunc=>true
 | .iface t v,.iface u w=>decide (t=u)&&RL v w
 | .nilIface,.nilIface=>true
 | .agg ⟨a⟩,.agg ⟨b⟩=>Vl a b
 | .tuple ⟨a⟩,.tuple ⟨b⟩=>Vl a b
 | _,_=>false
def Vl:List Value->List Value->Bool
 | [],[]=>true
 | x::xs,y::ys=>RL x y&&Vl xs ys
 | _,_=>false
end
mutual
theorem YT:∀v:Value,RL v v=true
 | .bool a=>by simp [RL]
 | .int k a=>by simp [RL]
 | .float k a=>by simp [RL]
 | .complex k a c=>by simp [RL]
 | .string a=>by simp [RL]
 | .pointer a=>by simp [RL]
 | .slice a n c=>by simp [RL]
 | .map a=>by simp [RL]
 | .chan a=>by simp [RL]
 | .func f ⟨a⟩ ⟨c⟩=>by simp [RL,Uo a,Uo c]
 | .nilFunc=>by simp [RL]
 | .iface t v=>by simp [RL,YT v]
 | .nilIface=>by simp [RL]
 | .agg ⟨a⟩=>by simp [RL,Uo a]
 | .tuple ⟨a⟩=>by simp [RL,Uo a]
theorem Uo:∀l:List Value,Vl l l=true
 | []=>by simp [Vl]
 | x::xs=>by simp [Vl,YT x,Uo xs]
end
mutual
theorem Nbn:∀v w:Value,RL v w=true->v=w
 | .bool a,w,h=>by cases w<;>simp [RL] at h;rw [h]
 | .int k a,w,h=>by cases w<;>simp [RL] at h;rw [h.1,h.2]
 | .float k a,w,h=>by cases w<;>simp [RL] at h;rw [h.1,h.2]
 | .complex k a c,w,h=>by cases w<;>simp [RL] at h;rw [h.1.1,h.1.2,h.2]
 | .string a,w,h=>by
   cases w<;>simp [RL] at h
   rename_i b
   obtain ⟨⟨x⟩⟩:=a
   obtain ⟨⟨y⟩⟩:=b
   simp at h
   rw [h]
 | .pointer a,w,h=>by cases w<;>simp [RL] at h;rw [h]
 | .slice a n c,w,h=>by cases w<;>simp [RL] at h;rw [h.1.1,h.1.2,h.2]
 | .map a,w,h=>by cases w<;>simp [RL] at h;rw [h]
 | .chan a,w,h=>by cases w<;>simp [RL] at h;rw [h]
 | .func f ⟨a⟩ ⟨c⟩,w,h=>by
   cases w<;>simp [RL] at h
   rename_i g b d
   obtain ⟨b⟩:=b
   obtain ⟨d⟩:=d
   simp [RL] at h
   rw [h.1.1,UG a b h.1.2,UG c d h.2]
 | .nilFunc,w,h=>by cases w<;>simp [RL] at h;rfl
 | .iface t v,w,h=>by
   cases w<;>simp [RL] at h
   rename_i u x
   rw [h.1,Nbn v x h.2]
 | .nilIface,w,h=>by cases w<;>simp [RL] at h;rfl
 | .agg ⟨a⟩,w,h=>by
   cases w<;>simp [RL] at h
   rename_i b
   obtain ⟨b⟩:=b
   simp [RL] at h
   rw [UG a b h]
 | .tuple ⟨a⟩,w,h=>by
   cases w<;>simp [RL] at h
   rename_i b
   obtain ⟨b⟩:=b
   simp [RL] at h
   rw [UG a b h]
theorem UG:∀l m:List Value,Vl l m=true->l=m
 | [],m,h=>by cases m<;>simp [Vl] at h;rfl
 | x::xs,m,h=>by
   cases m<;>simp [Vl] at h
   rename_i y ys
   rw [Nbn x y h.1,UG xs ys h.2]
end
def blkSame:Blk->Blk->Bool
 | .cells ro c,.cells ro' c'=>decide (ro=ro')&&Vl c c'
 | .cells _ _,_=>false
 | _,_=>true
def WU (H H':NB):Bool:=(List.range H.length).all fun j=>blkSame (NC H j) (NC H' j)
theorem Nd7 {H H':NB} (h:WU H H'=true) {j:Nat} {ro:Bool} {c:List Value} (a:NC H j=.cells ro c):NC H' j=.cells ro c:=by
 have b:j<H.length:=by
  rcases Om j H.length with h1 | h1
  ·exact h1
  ·unfold NC at a
   rw [Nc,N8 h1] at a
   cases a
 have:=Oi.1 h j (List.mem_range.2 b)
 rw [a] at this
 cases hh:NC H' j with
 | cells d c'=>
   rw [hh] at this
   simp only [blkSame,N9,N3] at this
   rw [this.1,UG _ _ this.2]
 | _=>rw [hh] at this;simp [blkSame] at this
def VG (H H':NB):Bool:=(List.range H.length).all fun j=>!Tw (NC H j)||blkSame (NC H j) (NC H' j)
theorem U2 {b:Blk} (h:Tw b=true):∃ro c,b=.cells ro c:=by
 cases b<;>first | exact ⟨_,_,rfl⟩ | cases h
theorem Nf7 {H H':NB} (h:VG H H'=true) {j:Nat} (b:Tw (NC H j)=true):NC H' j=NC H j:=by
 obtain ⟨ro,c,hc⟩:=U2 b
 have a:j<H.length:=by
  rcases Om j H.length with hl | hl
  ·exact hl
  ·unfold NC at hc
   rw [Nc,N8 hl] at hc
   cases hc
 have:=Oi.1 h j (List.mem_range.2 a)
 rw [b,Rp,Bool.false_or,hc] at this
 cases hh:NC H' j with
 | cells d c'=>
   rw [hh] at this
   simp only [blkSame,N9,N3] at this
   rw [hc,this.1,UG _ _ this.2]
 | _=>rw [hh] at this;simp [blkSame] at this
theorem Nh0 {H H':NB} (h:∀j,Tw (NC H j)=true->NC H' j=NC H j):VG H H'=true:=by
 refine Oi.2 fun j _=>?_
 cases hj:Tw (NC H j) with
 | false=>rfl
 | true=>
   rw [h j hj]
   obtain ⟨ro,c,hc⟩:=U2 hj
   rw [hc];simp [blkSame,Uo]
def Vs:CM->NB->Option (Value×NB)->Option (Value×NB)
 | .maps,H,some (v,H')=>if WU H H'=true then some (v,H') else none
 | .recs,H,some (v,H')=>if VG H H'=true then some (v,H') else none
 | _,_,r=>r
theorem Tm {m:CM} {H:NB} {r:Option (Value×NB)} {p:Value×NB} (h:Vs m H r=some p):r=some p/\(m=.maps->WU H p.2=true):=by
 cases m with
 | maps=>
   cases r with
   | none=>simp [Vs] at h
   | some q=>
     obtain ⟨v,H'⟩:=q
     simp only [Vs] at h
     split at h
     ·rename_i hc;cases h;exact ⟨rfl,fun _=>hc⟩
     ·cases h
 | recs=>
   cases r with
   | none=>simp [Vs] at h
   | some q=>
     obtain ⟨v,H'⟩:=q
     simp only [Vs] at h
     split at h
     ·cases h;exact ⟨rfl,fun e=>by cases e⟩
     ·cases h
 | _=>exact ⟨by simpa [Vs] using h,fun e=>by cases e⟩
theorem MH {H:NB} {r:Option (Value×NB)} {p:Value×NB} (h:Vs .recs H r=some p):VG H p.2=true:=by
 cases r with
 | none=>simp [Vs] at h
 | some q=>
   obtain ⟨v,H'⟩:=q
   simp only [Vs] at h
   split at h
   ·rename_i hc;cases h;exact hc
   ·cases h
theorem Nqv {m:CM} {H:NB} {r a:Option (Value×NB)} (h:∀p,r=some p->a=some p) {p:Value×NB} (hp:Vs m H r=some p):Vs m H a=some p:=by
 obtain ⟨h1,h2⟩:=Tm hp
 rw [h p h1]
 cases m with
 | maps=>obtain ⟨v,H'⟩:=p;simp only [Vs,Nk (h2 rfl)]
 | recs=>obtain ⟨v,H'⟩:=p;simp only [Vs,Nk (MH hp)]
 | _=>rfl
def QZ (C:TZ) (lim:Nat) (dest:Option Nat) (o:AOp) (ρ:Operand->Value) (H:NB):Option (Value×NB):=
 match o with
 | .call mp f args=>match NE (ρ f) (args.map ρ) with
   | some (g,as)=>Vs mp H (C mp.isPure (mp.lim lim H) g as H)
   | none=>none
 | o=>NJ lim dest o ρ H
def Ti (C:TZ) (N lim:Nat) (base:Option Nat) (i:AIns) (fr:Nat->Value) (H:NB):Option (Value×NB):=
 match RY N fr i.guard with
 | none=>none
 | some false=>some (undef,H)
 | some true=>match base with
   | none=>QZ C lim none i.op (ev fr) H
   | some b=>match QZ C lim (i.dest.map (b+·)) i.op (ev fr) (OE b i.mask H) with
     | some (v,H')=>some (v,OA b i.mask H H')
     | none=>none
def TJ (C:TZ) (N lim:Nat) (base:Option Nat) (i:AIns) (fr:Nat->Value) (H:NB):Option ((Nat->Value)×NB):=
 match Ti C N lim base i fr H with
 | some (v,H')=>(XR N fr i.dst v).map (·,H')
 | none=>none
abbrev TA:=Bool->Nat->(FuncId ⊕ Nat)->List Value->NB->Option (List (Value×NB))
def oneOf {α:Type}:Option (List α)->Option α
 | some [x]=>some x
 | _=>none
def det (C:TA):TZ:=fun mp lim t as H=>oneOf (C mp lim t as H)
def Nax {α β:Type} (f:α->Option β):List α->Option (List β)
 | []=>some []
 | x::l=>match f x,Nax f l with
   | some y,some r=>some (y::r)
   | _,_=>none
def TY {α β:Type} (f:α->Option (List β)):List α->Option (List β)
 | []=>some []
 | x::l=>match f x,TY f l with
   | some y,some r=>some (y++r)
   | _,_=>none
def UY (n:Nat) (seen:List Nat):List Nat:=(List.range n).filter fun j=>!seen.contains j
def XL (C:TA) (lim:Nat) (o:AOp) (ρ:Operand->Value) (H:NB):Option (List (Value×NB)):=
 match o with
 | .call mp f args=>match NE (ρ f) (args.map ρ) with
   | some (g,as)=>match C mp.isPure (mp.lim lim H) g as H with
     | some L=>Nax (fun r=>Vs mp H (some r)) L
     | none=>none
   | none=>none
 | o=>(NJ lim none o ρ H).map fun r=>[r]
def N2y (k lim:Nat) (o:AOp) (ρ:Operand->Value) (H:NB):Option (List (Value×NB)):=none
def Vv (C:TA) (lim:Nat) (i:AIns) (ρ:Operand->Value) (H:NB):Option (List (Value×NB)):=
 match i.dest with
 | none=>XL C lim i.op ρ H
 | some k=>N2y k lim i.op ρ H
def Ze (C:TA) (N lim:Nat) (i:AIns) (fr:Nat->Value) (H:NB):Option (List ((Nat->Value)×NB)):=
 match RY N fr i.guard with
 | none=>none
 | some false=>(XR N fr i.dst undef).map fun f=>[(f,H)]
 | some true=>match Vv C lim i (ev fr) H with
   | some L=>Nax (fun r=>(XR N fr i.dst r.1).map (·,r.2)) L
   | none=>none
inductive AItem where
 | code (c:ACode)
 | ops (base:Option Nat) (l:List AIns)
 | inBlock (id:Nat)
 | inLoop (c:ACode)
 | begin (i:Nat)
 | round (i:Nat)
 | mark (i:Nat)
def roundOf:List AItem->Option Nat
 | []=>none
 | .round i::_=>some i
 | _::k=>roundOf k
def marks:List AItem->List Nat
 | []=>[]
 | .mark i::k=>marks k++[i]
 | _::k=>marks k
def shut (lim:Nat):List Nat->NB->Option NB
 | [],H=>some H
 | i::l,H=>match NC H i with
   | .dfr=>if lim<=i then shut lim l (H.set i .dead) else none
   | _=>none
def endRound (i:Nat) (j:Option ACode) (H:NB):Option (Value×NB):=
 match NC H i with
 | .loop x=>some (.bool j.isNone,H.set i (.loop { x with st:=if j.isNone then 0 else 2,pend:=j }))
 | _=>none
def Td (fr:Nat->Value):List Nat->List Value->(Nat->Value)
 | p::ps,v::vs=>Td (fun t=>if t=p then v else fr t) ps vs
 | _,_=>fr
def RQ (id:Nat):List AItem->Option (List AItem)
 | .inBlock id'::k=>if id'=id then some k else RQ id k
 | _::k=>RQ id k
 | []=>none
def NG (fr:Nat->Value) (H:NB):ARes->Option Value
 | .tmp t=>some (fr t)
 | .cell1 a=>match fr a with
   | .pointer (some p)=>loadCell H p
   | _=>none
 | .cellN n a=>match fr a with
   | .pointer (some p)=>(loadCells H p n).map fun c=>.agg c.toArray
   | _=>none
def UK (fr:Nat->Value) (H:NB):List ARes->Option (List Value)
 | []=>some []
 | r::rs=>match NG fr H r,UK fr H rs with
   | some v,some vs=>some (v::vs)
   | _,_=>none
def result (fr:Nat->Value) (H:NB) (a:List ARes):Option Value:=
 match UK fr H a with
 | some [v]=>some v
 | some vs=>some (.tuple vs.toArray)
 | none=>none
def NH (args:List Value):Nat->Value:=fun t=>args.getD t undef
structure Env where
 tr:FuncId->Option AFunc
 pure:FuncId->Bool
 orc:FuncId->List Value->Option Value
 dt:Bool
variable (E:Env)
def one {α:Type} (r:Option α):Option (List α):=r.map fun x=>[x]
def QP (run:AFunc->Nat->List AItem->(Nat->Value)->NB->Option (List (Value×NB))):TA:=fun a lim t as H=>
 match t with
 | .inl g=>
   match E.orc g as with
   | some v=>if as.all atom&&flat 4 v then some [(v,H)] else none
   | none=>
     match E.tr g with
     | none=>none
     | some af=>
       if E.pure g then
        match run af H.length [.code af.body] (NH as) H with
        | some ((v,_)::l)=>if l.all (fun r=>RL v r.1) then (if olds H.length 4 v then some [(v,H)] else none) else none
        | _=>none
       else if a then none
       else run af lim [.code af.body] (NH as) H
 | .inr i=>
   if a then none
   else match NC H i with
    | .loop x=>if lim<=i/\as.length=x.params.length/\x.params.all (·<x.N)=true then run ⟨x.N,[],.skip⟩ lim [.code x.assign,.begin i,.code x.body,.round i] (Td x.fr x.params as) H else none
    | _=>none
def OX:Nat->AFunc->(lim:Nat)->List AItem->(Nat->Value)->NB->Option (List (Value×NB))
 | 0,_,_,_,_,_=>none
 | n+1,af,lim,k,fr,H=>
   match k with
   | []=>one ((result fr H af.results).map (·,H))
   | .inBlock _::k=>OX n af lim k fr H
   | .inLoop c::k=>OX n af lim (.code c::.inLoop c::k) fr H
   | .begin i::k=>match NC H i with
     | .loop x=>if x.st=0/\lim<=i then OX n af lim k fr (H.set i (.loop { x with st:=1 })) else none
     | _=>none
   | .round i::_=>if lim<=i then one (endRound i none H) else none
   | .mark _::_=>none
   | .ops _ []::k=>OX n af lim k fr H
   | .ops none (i::l)::k=>
     match Ze (QP E (OX n)) af.ntmps lim i fr H with
     | some L=>TY (fun r=>OX n af lim (.ops none l::k) r.1 r.2) L
     | none=>none
   | .ops (some b) (i::l)::k=>
     match TJ (det (QP E (OX n))) af.ntmps lim (some b) i fr H with
     | some (fr',H')=>OX n af lim (.ops (some b) l::k) fr' H'
     | none=>none
   | .code c::k=>
     match c with
     | .skip=>OX n af lim k fr H
     | .ops l=>OX n af lim (.ops none l::k) fr H
     | .drawn m l=>OX n af lim (.ops (some H.length) l::k) fr (H++List.replicate m .dead)
     | .seq a b=>OX n af lim (.code a::.code b::k) fr H
     | .cond c a b=>match ev fr c with
       | .bool true=>OX n af lim (.code a::k) fr H
       | .bool false=>OX n af lim (.code b::k) fr H
       | _=>none
     | .block id b=>OX n af lim (.code b::.inBlock id::k) fr H
     | .loop b=>OX n af lim (.code b::.inLoop b::k) fr H
     | .exit id=>match RQ id k with
       | some k'=>OX n af lim k' fr H
       | none=>none
     | .ret=>one ((result fr H af.results).map (·,H))
     | .retM=>match shut lim (marks k) H with
       | some H'=>one ((result fr H' af.results).map (·,H'))
       | none=>none
     | .retR=>match roundOf k with
       | some i=>if lim<=i then one (endRound i (some .retM) H) else none
       | none=>none
     | .exitR id=>match RQ id k with
       | some k'=>OX n af lim k' fr H
       | none=>match roundOf k with
         | some i=>if lim<=i then one (endRound i (some (.exit id)) H) else none
         | none=>none
     | .rangeF f ps assign body=>
       match NE (ev fr f) [.func (.yield (H.length+1)) #[] #[]] with
       | some (.inl g,as)=>
         match QP E (OX n) false lim (.inl g) as (H++[.dfr,.loop ⟨0,none,fr,af.ntmps,ps,assign,body⟩]) with
         | some L=>TY (fun r=>match NC r.2 (H.length+1) with
           | .loop x=>if x.st=1 then none else OX n af lim ((match x.pend with | none=>[] | some c=>[.code c])++(k++[.mark H.length])) fr (r.2.set (H.length+1) .dead)
           | _=>none) L
         | none=>none
       | _=>none
def QR (n:Nat):TA:=QP E (OX E n)
variable (P:Program) (pureF:FuncId->Bool)
def PX:Operand->Bool
 | .tmp _=>true
 | .const v=>atom v
 | .func _=>true
 | .global _=>false
def QU (t:TypeId):Option Bool:=
 match P.underlying t with
 | some (.struct _) | some (.array _ _)=>some true
 | some _=>some false
 | none=>none
def zeroOf (t:TypeId):Option (List Value):=
 match P.info? t with
 | some i=>match i.zero with
   | some z=>if z.cells.toList.all (fun v=>atom v&&v.oneCell') then some z.cells.toList else none
   | none=>none
 | none=>none
def Na3 (t:TypeId):Option Value:=
 match P.info? t with
 | some i=>match i.zero with
   | some z=>if z.cells.toList.all (fun v=>atom v&&v.oneCell') then some z else none
   | none=>none
 | none=>none
def PU (t:TypeId):Option Nat:=(P.info? t).map (·.size)
def WV (t:TypeId):Option Nat:=(P.info? t).map (·.bytes)
def Y3 (f':TypeId->Option (List KK)):List Field->Nat->Option (List KK)
    | [],_=>some []
    | f::fs,off=>if f.name= "_"\/f.offset≠off then none else
      match f' f.type with
      | some l=>if l.length=P.cellsOf f.type/\l.length≠0 then (Y3 f' fs (off+l.length)).map (l++·) else none
      | none=>none
def OZ:Nat->TypeId->Option (List KK)
 | 0,_=>none
 | n+1,t=>match P.underlying t with
   | some .bool=>some [.bool]
   | some (.int k)=>some [.int k]
   | some .string=>some [.str]
   | some (.array len e)=>match OZ n e with
     | some l=>if l.length=P.cellsOf e then some (List.replicate len l).flatten else none
     | none=>none
   | some (.struct fs)=>if P.stoodInHeld t then none else Y3 P (OZ n) fs.toList 0
   | _=>none
def Ul (t:TypeId):Option EqKind:=
 match P.underlying t with
 | some .bool=>some .bool
 | some (.pointer _)=>some .ptr
 | some (.slice _)=>some .slice
 | some (.map _ _)=>some .map
 | some (.func _ _ _)=>some .func
 | some (.struct _) | some (.array _ _)=>if P.eqGuardType P.depth t then none else (OZ P 20 t).map .agg
 | _=>none
def TI:List KK->Option (List IntKind)
 | []=>some []
 | .int k::l=>(TI l).map (k::·)
 | _=>none
def TH (t:TypeId):Option KK:=
 match P.underlying t with
 | some (.int k)=>some (.int k)
 | some .string=>some .str
 | some .bool=>some .bool
 | some (.struct _) | some (.array _ _)=>match OZ P 20 t with
   | some l=>(TI l).map .ints
   | none=>none
 | _=>none
def Nj5 (fs:Array Field) (x:Nat×Operand):Option (Nat×Nat×Operand):=do
 let f <-fs[x.1]?
 let s <-PU P f.type
 if PX x.2 then pure (f.offset,s,x.2) else none
def Mm (h:Bool) (o:Oper):Option AOp:=
 if !(o.op.operands.toList.all PX) then none else
 match o.op with
 | .move x | .assign x=>some (.mov x)
 | .pick c a b=>some (.pick c a b)
 | .alloc e=>(zeroOf P e).map .alloc
 | .box _ x=>some (.box x)
 | .build t parts=>do
   let z <-zeroOf P t
   match P.underlying t with
   | some (.struct fs)=>do
     let ps <-parts.toList.mapM (Nj5 P fs)
     if fs.toList.all (fun f=>(P.info? f.type).isSome) then pure (.build z ps) else none
   | some (.array _ e)=>do
     let s <-PU P e
     pure (.build z (parts.toList.map fun x=>(x.1*s,s,x.2)))
   | _=>none
 | .buildSlice t len parts=>do
   match P.underlying t with
   | some (.slice e)=>do
     let s <-PU P e
     let z <-zeroOf P e
     if z.length≠s\/s=0\/len*s > 2 ^ 20 then none else
     pure (.buildSlice len ((List.range (len*s)).map fun j=>z.getD (j % z.length) undef) (parts.toList.map fun x=>(x.1*s,s,x.2)))
   | _=>none
 | .load t a=>do
   let p <-QU P t
   if p then (PU P t).map (.loadN · a) else some (.load1 a)
 | .store t a x=>(PU P t).map (.store · a x)
 | .nilCheck x=>some (.nilCheck x)
 | .binOp op t x y _=>
   match P.underlying t with
   | some (.int _) | some .string=>some (.bin op x y)
   | _=>match op with
     | .eql=>(Ul P t).map (.eqv false · x y)
     | .neq=>(Ul P t).map (.eqv true · x y)
     | _=>none
 | .unOp op _ x=>some (.un op x)
 | .convert s d x=>
   match P.underlying s,P.underlying d with
   | some (.int _),some (.int k)=>some (.conv k x)
   | _,_=>none
 | .makeFunc (.func f) first captured=>some (.makeFunc f first.toList captured.toList)
 | .makeInterface _ x=>some (.die x)
 | .panic x=>some (.die x)
 | .makeMap t x=>match P.underlying t with
   | some (.map _ _)=>some (.makeMap x)
   | _=>none
 | .makeSlice t l c=>do
   match P.underlying t with
   | some (.slice e)=>do
     let s <-PU P e
     let b <-WV P e
     let z <-zeroOf P e
     if z.length≠s\/s=0 then none else pure (.makeSlice s b z l c)
   | _=>none
 | .slice t x lo hi mx=>do
   match P.underlying t with
   | some (.slice e)=>do
     let s <-PU P e
     if s=0 then none else pure (.sliceS s x lo hi mx)
   | _=>none
 | .fieldAddr s x f=>do
   match P.underlying s with
   | some (.struct fs)=>do
     let fd <-fs[f]?
     let n <-PU P fd.type
     if n=0 then none else pure (.fieldAddr fd.offset x)
   | _=>none
 | .indexAddr t x i=>do
   match P.underlying t with
   | some (.slice e)=>do
     let s <-PU P e
     pure (.idxAddrS s x i)
   | _=>none
 | .index t x i=>do
   match P.underlying t with
   | some (.array n e)=>do
     let s <-PU P e
     let p <-QU P e
     pure (.idxA n s p x i)
   | some .string=>pure (.idxStr x i)
   | _=>none
 | .lookup t m k ok=>do
   match P.underlying t with
   | some (.map kt e)=>do
     let z <-Na3 P e
     let kk <-TH P kt
     pure (.lookup kk z ok m k)
   | _=>none
 | .mapUpdate t m k x | .insert t m k x=>do
   match P.underlying t with
   | some (.map kt _)=>(TH P kt).map fun kk=>.mapUpdate kk m k x
   | _=>none
 | .extract x i=>some (.extract i x)
 | .call c=>do
   match c.callee with
   | .value f=>pure (.call (if h&&(match f with | .func g=>pureF g | _=>true) then .pure else .any) f c.args.toList)
   | .builtin .len=>match c.args.toList,c.argTypes.toList with
     | [x],[t]=>match P.underlying t with
       | some .string=>some (.lenStr x)
       | some (.slice _)=>some (.lenSlice x)
       | some (.map _ _)=>some (.lenMap x)
       | some (.array n _)=>some (.lenK n)
       | _=>none
     | _,_=>none
   | .builtin .append=>match c.args.toList,c.argTypes.toList with
     | [s,x],[st,xt]=>match P.underlying st,P.underlying xt with
       | some (.slice e),some (.slice _)=>do
         let n <-PU P e
         let b <-WV P e
         let z <-zeroOf P e
         if z.length=n then pure (.append n b false s x) else none
       | some (.slice e),some .string=>do
         let n <-PU P e
         let b <-WV P e
         let z <-zeroOf P e
         if z.length=n/\n=1 then pure (.append n b true s x) else none
       | _,_=>none
     | _,_=>none
   | .builtin .copy=>match c.args.toList,c.argTypes.toList with
     | [d,x],dt::_=>match P.underlying dt with
       | some (.slice e)=>(PU P e).map (.copy · d x)
       | _=>none
     | _,_=>none
   | .builtin .min=>some (.minmax false c.args.toList)
   | .builtin .max=>some (.minmax true c.args.toList)
   | _=>none
 | _=>none
inductive Kind where
 | p | r | a | w | c | n | s
 deriving DecidableEq,Inhabited
def kind:AOp->Kind
 | .mov _ | .pick .. | .bin .. | .eqv .. | .un .. | .conv .. | .build .. | .nilCheck _ | .fieldAddr .. | .field1 .. | .fieldN .. | .idxAddrA .. | .idxAddrS ..
 | .idxA .. | .idxStr .. | .sliceS .. | .sliceA .. | .sliceStr .. | .lenStr _ | .lenSlice _ | .capSlice _ | .lenK _ | .minmax .. | .makeFunc .. | .extract .. | .strId _ | .die _=>.p
 | .load1 _ | .loadN .. | .lenMap _ | .lookup .. | .b2s _ | .rowMark _ | .loadR ..=>.r
 | .alloc _ | .box _ | .buildSlice .. | .makeSlice .. | .growNil .. | .makeMap _=>.a
 | .store .. | .append .. | .appendL .. | .copy .. | .mapUpdate .. | .delete .. | .clear ..=>.w
 | .append0 ..=>.n
 | .storeD ..=>.s
 | .call mp ..=>if mp.isPure then .r else .c
def makes:AOp->Bool
 | .append .. | .append0 .. | .appendL ..=>true
 | o=>kind o=.a
def waits (ops:Array Oper):Nat->Nat->Nat->Bool
 | 0,_,_=>false
 | n+1,x,a=>match ops[x]? with
   | some o=>o.after.toList.any fun e=>Region.binds .any e&&(e.on == a||waits ops n e.on a)
   | none=>false
def conflict (k l:Kind):Bool:=
 match k,l with
 | .p,_ | _,.p=>false
 | .s,_ | _,.s=>false
 | .c,.a | .a,.c=>false
 | .c,_ | _,.c=>true
 | .a,_ | _,.a=>false
 | .w,_ | _,.w=>true
 | .r,.r | .n,.n | .n,.r | .r,.n=>false
def Zb:AOp->Bool
 | .storeD ..=>true
 | _=>false
def AIns.made (i:AIns):Option Nat:=if Zb i.op then none else i.dest
def QD (l:List AOp):List (Option Nat):=
 go 0 l
where
 go (n:Nat):List AOp->List (Option Nat)
  | []=>[]
  | o::l=>if makes o then some n::go (n+1) l else none::go n l
def Zz (ops:Array Oper):Option (Nat×Bool)->Option (Option (Nat×Bool))
 | none=>some none
 | some (j,b)=>match (ops[j]?).bind (·.dst) with
   | some t=>some (some (t,b))
   | none=>none
def Nmq (b:Bool) (ops:Array Oper) (o:Oper):Option AIns:=do
 let a <-Mm P pureF b o
 let g <-Zz ops o.guard
 pure { dst:=o.dst,guard:=g,op:=a }
def N01 (_:Program) (_:Oper):Option (Operand×Nat):=none
def XJ (ops:Array Oper) (o:Oper):Option AIns:=
 match Nmq P pureF false ops o with
 | some i=>some i
 | none=>do
   let a <-N01 P o
   let g <-Zz ops o.guard
   pure { dst:=o.dst,guard:=g,op:=.mov a.1,dest:=some a.2 }
def AIns.looks (i:AIns):List Nat:=
 (i.op.operands.filterMap fun | .tmp t=>some t | _=>none)++(match i.guard with | some (t,_)=>[t] | none=>[])
def MN (x y:AIns):Bool:=
 (match x.dst with
  | some d=>!y.looks.contains d&&y.dst != some d
  | none=>true) &&
 (match y.dst with
  | some d=>!x.looks.contains d
  | none=>true)
def isL:AOp->Bool
 | .appendL ..=>true
 | _=>false
def isLoad:AOp->Bool
 | .load1 _ | .loadN ..=>true
 | _=>false
def isRead:AOp->Bool
 | .load1 _ | .loadN .. | .lenMap _ | .lookup .. | .b2s _=>true
 | _=>false
def Nyf:AOp->Bool
 | .call .mk ..=>true
 | _=>false
def isMaps:AOp->Bool
 | .call .maps ..=>true
 | _=>false
def Y5:AOp->Bool
 | .loadR ..=>true
 | _=>false
def isRecs:AOp->Bool
 | .call .recs ..=>true
 | _=>false
def calm (a b:AOp):Bool:=!conflict (kind a) (kind b)||(isL a&&isLoad b)||(isRead a&&Nyf b)||(isLoad a&&isMaps b)||(Y5 a&&isRecs b)
def Nkt (ops:Array Oper) (l:List AIns) (i j:Nat):Bool:=
 waits ops ops.size i j ||
  match l[i]?,l[j]? with
  | some a,some b=>MN b a&&calm b.op a.op
  | _,_=>false
def Nm6 (ops:Array Oper):List Nat->List Nat->Bool
 | _,[]=>true
 | A,i::B=>(match ops[i]? with
   | some o=>o.after.toList.all fun e=>!Region.binds .any e||A.contains e.on
   | none=>true)&&Nm6 ops (A++[i]) B
def Na6 (ops:Array Oper) (l:List AIns):List Nat->List Nat->Bool
 | _,[]=>true
 | A,i::B=>(A.all fun j=>Nkt ops l i j)&&Na6 ops l (A++[i]) B
def nodupB:List Nat->Bool
 | []=>true
 | x::l=>!l.contains x&&nodupB l
def Ns3 (n:Nat) (ord:List Nat):Bool:=(ord.all (·<n))&&((List.range n).all fun i=>ord.contains i)&&nodupB ord
def N3v (l:List AIns) (b:List (Option Nat)) (i:AIns):Option Nat:=
 match i.op with
 | .storeD _ (.tmp t) _=>match (List.range l.length).find? fun k=>match l[k]? with
   | some a=>a.dst == some t&&(match a.op with | .alloc _=>true | _=>false)
   | none=>false with
   | some k=>b.getD k none
   | none=>none
 | _=>none
def QS (ops:Array Oper) (b:List (Option Nat)) (j:Nat) (i:AIns):AIns:=
 { i with dest:=b.getD j none,mask:=if kind i.op=.r\/kind i.op=.w\/kind i.op=.n\/kind i.op=.c then
     ((List.range b.length).filterMap fun a=>if a≠j/\!waits ops ops.size j a then b.getD a none else none) else [] }
def Zx:AOp->AOp
 | .append0 e b s x y=>.append e b s x y
 | .appendL e b s x y=>.append e b s x y
 | .storeD n a x=>.store n a x
 | .loadR none x=>.load1 x
 | .loadR (some n) x=>.loadN n x
 | o=>o
def isNone:AOp->Bool
 | .buildSlice 0 _ _=>true
 | _=>false
def fresh (l:List AIns) (i:AIns):AIns:=
 match i.op with
 | .append e b s (.tmp t) y=>if l.any (fun j=>j.dst == some t&&isNone j.op) then { i with op:=.append0 e b s (.tmp t) y } else i
 | _=>i
def late (ops:Array Oper) (l:List AIns):Option Nat:=
 (List.range l.length).find? fun k=>match l[k]? with
  | some a=>(match a.op with | .append ..=>true | _=>false)&&(List.range l.length).any fun j=>j != k&&(match l[j]? with | some b=>isLoad b.op | none=>false)&&!waits ops ops.size j k&&!waits ops ops.size k j
  | none=>false
def toL (i:AIns):AIns:=match i.op with
 | .append e b s x y=>{ i with op:=.appendL e b s x y }
 | _=>i
def toS (l:List AIns) (i:AIns):AIns:=match i.op with
 | .store n (.tmp t) x=>if l.any (fun j=>j.dst == some t&&(match j.op with | .alloc _=>true | _=>false)) then { i with op:=.storeD n (.tmp t) x } else i
 | _=>i
def XT (st:Bool) (l:List AIns) (i:AIns):AIns:=if st then toS l (fresh l i) else fresh l i
def Nb1 (l:List AIns) (a:List (Option Nat)) (i:AIns):AIns:=if Zb i.op then { i with dest:=N3v l a i } else i
def N21 (ops:Array Oper) (L:List AIns):Bool:=
 (List.range L.length).all fun i=>match L[i]? with
  | some x=>!(Zb x.op)||(List.range L.length).all fun j=>i == j||waits ops ops.size i j||waits ops ops.size j i ||
    match x.dest,L[j]? with
    | some r,some y=>y.dest != some r&&(y.mask.contains r||kind y.op == .p||kind y.op == .a||kind y.op == .s)
    | _,_=>true
  | none=>true
def Nvs (L:List AIns) (n:Nat):Bool:=L.all fun x=>!(Zb x.op)||match x.dest with
 | some r=>decide (r<n)
 | none=>false
def Zr (ops:Array Oper) (l:List AIns) (k:Nat):Bool:=
 (List.range l.length).any fun j=>j != k&&(match l[j]? with | some b=>isRead b.op | none=>false)&&!waits ops ops.size j k&&!waits ops ops.size k j
def codeAny (p:Oper->Bool):Code->Bool
 | .region _ ops _=>ops.any p
 | .seq a b=>codeAny p a||codeAny p b
 | .cond _ a b=>codeAny p a||codeAny p b
 | .block _ b=>codeAny p b
 | .loop b=>codeAny p b
 | _=>false
def mapsIn:Nat->FuncId->Bool
 | 0,_=>false
 | n+1,g=>match P.funcs[g]? with
   | some fn=>match fn.body with
     | some b=>codeAny (fun o=>match o.op with
       | .mapUpdate .. | .insert ..=>true
       | .call c=>match c.callee with
         | .value (.func g')=>mapsIn n g'
         | _=>false
       | _=>false) b
     | none=>false
   | none=>false
def Nj6 (i:AIns):AIns:=match i.op with
 | .call .any (.func g) as=>if mapsIn P 3 g then { i with op:=.call .maps (.func g) as } else { i with op:=.call .mk (.func g) as }
 | .call .any f as=>{ i with op:=.call .mk f as }
 | _=>i
def Ndf (ops:Array Oper) (l:List AIns) (k:Nat):Bool:=
 (List.range l.length).any fun j=>j != k&&(match l[j]? with | some b=>(match b.op with | .call .any ..=>true | _=>false) | none=>false)&&!waits ops ops.size j k&&!waits ops ops.size k j
def Nh1 (l:List AIns):Bool:=(l.all fun i=>!makes i.op)&&l.any fun i=>match i.op with | .store ..=>true | _=>false
def Nhh (ops:Array Oper) (l:List AIns) (k:Nat) (i:AIns):AIns:=match i.op with
 | .call .any f as=>if Zr ops l k then { i with op:=.call .recs f as } else i
 | .load1 x=>if Ndf ops l k then { i with op:=.loadR none x } else i
 | .loadN n x=>if Ndf ops l k then { i with op:=.loadR (some n) x } else i
 | _=>i
def mks (l:List AIns):List Nat:=(List.range l.length).filter fun k=>match l[k]? with | some a=>Nyf a.op||isMaps a.op||isRecs a.op | none=>false
def Ni6 (key:Nat->Nat) (j:Nat):List Nat->List Nat
 | []=>[j]
 | i::l=>if key j<key i then j::i::l else i::Ni6 key j l
def Nzx (ops:Array Oper) (n:Nat) (ms:List Nat):Option Nat->List Nat
 | some k=>(List.range n).filter (fun j=>j == k||waits ops ops.size k j)++(List.range n).filter (fun j=>!(j == k||waits ops ops.size k j))
 | none=>match ms with
   | []=>List.range n
   | _=>
     let key:=fun j=>2*(ms.filter fun m=>waits ops ops.size j m).length+(if ms.contains j then 1 else 0)
     (List.range n).foldl (fun l j=>Ni6 key j l) []
def WJ (st:Bool) (ops:Array Oper):Option ACode:=do
 let l0 <-ops.toList.mapM (Nmq P pureF true ops)
 let l1:=l0.map (XT st l0)
 let k:=late ops l1
 let a:=l1.zipIdx.map fun (i,j)=>if k=some j then toL i else i
 let l:=a.zipIdx.map fun (i,j)=>if Nh1 a then Nhh ops a j i else if Zr ops a j then Nj6 P i else i
 let ord:=Nzx ops l.length (mks l) k
 let b:=QD (l.map (·.op))
 let l':=l.zipIdx.map fun (i,j)=>Nb1 l b (QS ops b j i)
 if Ns3 ops.size ord&&Nm6 ops [] ord&&Na6 ops l [] ord&&l0.all (fun i=>!Zb i.op)&&N21 ops l'&&Nvs l' (b.filterMap id).length then
  pure (.drawn (b.filterMap id).length (ord.map fun j=>l'.getD j default))
 else none
def Vw (ops:Array Oper):Option ACode:=match WJ P pureF false ops with
 | some c=>some c
 | none=>WJ P pureF true ops
def WY:Code->Option ACode
 | .skip=>some .skip
 | .region _ ops d=>
   if d then Vw P pureF ops
   else do
    let l <-ops.toList.mapM (XJ P pureF ops)
    pure (.ops l)
 | .seq a b=>do pure (.seq (<-WY a) (<-WY b))
 | .cond c a b=>do if PX c then pure (.cond c (<-WY a) (<-WY b)) else none
 | .block id b=>do pure (.block id (<-WY b))
 | .loop b=>do pure (.loop (<-WY b))
 | .exit id=>some (.exit id)
 | .ret=>some .ret
 | _=>none
def Zy:ResultVar->Option ARes
 | .tmp t=>some (.tmp t)
 | .cell a t=>do
   let n <-PU P t
   let b <-QU P t
   if b then pure (.cellN n a) else pure (.cell1 a)
def TG:Code->Option ACode
 | .skip=>some .skip
 | .region _ ops d=>
   if d then Vw P pureF ops
   else do
    let l <-ops.toList.mapM (XJ P pureF ops)
    pure (.ops l)
 | .seq a b=>do pure (.seq (<-TG a) (<-TG b))
 | .cond c a b=>do if PX c then pure (.cond c (<-TG a) (<-TG b)) else none
 | .block id b=>do pure (.block id (<-TG b))
 | .loop b=>do pure (.loop (<-TG b))
 | .exit id=>some (.exitR id)
 | .ret=>some .retR
 | _=>none
def Uh:Code->Option ACode
 | .skip=>some .skip
 | .region _ ops d=>
   if d then Vw P pureF ops
   else do
    let l <-ops.toList.mapM (XJ P pureF ops)
    pure (.ops l)
 | .seq a b=>do pure (.seq (<-Uh a) (<-Uh b))
 | .cond c a b=>do if PX c then pure (.cond c (<-Uh a) (<-Uh b)) else none
 | .block id b=>do pure (.block id (<-Uh b))
 | .loop b=>do pure (.loop (<-Uh b))
 | .exit id=>some (.exit id)
 | .ret=>some .retM
 | .rangeFunc f ps a b=>do if PX f then pure (.rangeF f ps.toList (<-TG P pureF a) (<-TG P pureF b)) else none
 | _=>none
def Nmr (f:FuncId):Option AFunc:=do
 let fn <-P.funcs[f]?
 let b <-fn.body
 let c <-WY P pureF b
 let rs <-fn.results.toList.mapM (Zy P)
 if fn.name == "runtime.NumGoroutine" then none else
 pure { ntmps:=fn.ntmps,results:=rs,body:=c }
def Nms (f:FuncId):Option AFunc:=do
 let fn <-P.funcs[f]?
 let b <-fn.body
 let c <-Uh P pureF b
 let rs <-fn.results.toList.mapM (Zy P)
 if fn.name == "runtime.NumGoroutine" then none else
 pure { ntmps:=fn.ntmps,results:=rs,body:=.seq c .retM }
def NW (f:FuncId):Option AFunc:=
 match Nmr P pureF f with
 | some a=>some a
 | none=>Nms P pureF f
structure Loc where
 blk:Nat
 base:Nat
 room:Nat
abbrev PT:=Nat->Option Loc
inductive VRel (σ:PT):Value->Value->Prop
 | atom {v} (h:atom v=true):VRel σ v v
 | ptr {i k L} (h:σ i=some L):VRel σ (.pointer (some ⟨i,k,none⟩)) (.pointer (some ⟨L.blk,L.base+k,none⟩))
 | slice {i k L n c} (h:σ i=some L) (hc:c<2 ^ 62):VRel σ (.slice (some ⟨i,k,none⟩) n c) (.slice (some ⟨L.blk,L.base+k,none⟩) n c)
 | lslice {i k L n e c} (h:σ i=some L) (hn:n<=c) (hr:k+c*e<=L.room) :
   VRel σ (.slice (some ⟨i,k,none⟩) n (loose e)) (.slice (some ⟨L.blk,L.base+k,none⟩) n c)
 | eslice {i k L c a} (h:σ i=some L) (hc:c=0\/∃e,c=loose e):VRel σ (.slice (some ⟨i,k,none⟩) 0 c) (.slice (some a) 0 0)
 | map {i L} (h:σ i=some L):VRel σ (.map (some i)) (.map (some L.blk))
 | func {f:FuncId} {a b c d:Array Value} (h1:a.size=c.size) (h2:b.size=d.size)
   (k1:∀i (h:i<a.size) (h':i<c.size),VRel σ a[i] c[i]) (k2:∀i (h:i<b.size) (h':i<d.size),VRel σ b[i] d[i]) :
   VRel σ (.func (.func f) a b) (.func (.func f) c d)
 | yld {i L} (h:σ i=some L):VRel σ (.func (.yield i) #[] #[]) (.func (.yield L.blk) #[] #[])
 | agg {xs ys:Array Value} (h:xs.size=ys.size) (k:∀i (h:i<xs.size) (h':i<ys.size),VRel σ xs[i] ys[i]) (o:∀i (h:i<ys.size),ys[i].oneCell'=true):VRel σ (.agg xs) (.agg ys)
 | tuple {xs ys:Array Value} (h:xs.size=ys.size) (k:∀i (h:i<xs.size) (h':i<ys.size),VRel σ xs[i] ys[i]):VRel σ (.tuple xs) (.tuple ys)
def OV (σ:PT) (xs ys:List Value):Prop:=xs.length=ys.length/\∀(i:Nat) x y,xs[i]? = some x->ys[i]? = some y->VRel σ x y
def PT.le (σ τ:PT):Prop:=∀i L,σ i=some L->τ i=some L
theorem PT.le_refl (σ:PT):PT.le σ σ:=fun _ _ h=>h
theorem PT.le_trans {a b c:PT} (h:PT.le a b) (k:PT.le b c):PT.le a c:=fun i L hi=>k i L (h i L hi)
theorem VRel.mono {σ τ:PT} (a:PT.le σ τ) {v v':Value} (h:VRel σ v v'):VRel τ v v':=by
 induction h with
 | atom h=>exact .atom h
 | ptr h=>exact .ptr (a _ _ h)
 | slice h hc=>exact .slice (a _ _ h) hc
 | lslice h hn hr=>exact .lslice (a _ _ h) hn hr
 | eslice h hc=>exact .eslice (a _ _ h) hc
 | map h=>exact .map (a _ _ h)
 | yld h=>exact .yld (a _ _ h)
 | func h1 h2 _ _ k1 k2=>exact .func h1 h2 k1 k2
 | agg h k o ih=>exact .agg h ih o
 | tuple h k ih=>exact .tuple h ih
theorem OV.mono {σ τ:PT} (a:PT.le σ τ) {v v':List Value} (h:OV σ v v'):OV τ v v':=⟨h.1,fun i x y b c=>(h.2 i x y b c).mono a⟩
theorem OV.nil {σ:PT}:OV σ [] []:=⟨rfl,fun i x y h=>by simp at h⟩
theorem OV.cons {σ:PT} {x y:Value} {xs ys:List Value} (h:VRel σ x y) (k:OV σ xs ys):OV σ (x::xs) (y::ys):=by
 refine ⟨by simp [k.1],fun i a b c d=>?_⟩
 cases i with
 | zero=>simp at c d;subst c d;exact h
 | succ i=>simp at c d;exact k.2 i a b c d
theorem OV.head {σ:PT} {x y:Value} {xs ys:List Value} (h:OV σ (x::xs) (y::ys)):VRel σ x y:=h.2 0 x y rfl rfl
theorem OV.tail {σ:PT} {x y:Value} {xs ys:List Value} (h:OV σ (x::xs) (y::ys)):OV σ xs ys:=
 ⟨by have:=h.1;simp at this;exact this,fun i a b c d=>h.2 (i+1) a b (by simpa using c) (by simpa using d)⟩
theorem OV.append {σ:PT} {a b c d:List Value} (h:OV σ a c) (k:OV σ b d):OV σ (a++b) (c++d):=by
 refine ⟨by simp [h.1,k.1],fun i x y e f=>?_⟩
 by_cases hi:i<a.length
 ·rw [Od hi] at e
  rw [Od (by rw [<-h.1];exact hi)] at f
  exact h.2 i x y e f
 ·rw [Og (by omega)] at e
  rw [Og (by rw [<-h.1];omega),<-h.1] at f
  exact k.2 _ x y e f
theorem OV.drop {σ:PT} {a b:List Value} (h:OV σ a b) (n:Nat):OV σ (a.drop n) (b.drop n):=
 ⟨by simp [h.1],fun i x y c d=>h.2 (n+i) x y (by simpa using c) (by simpa using d)⟩
theorem OV.take {σ:PT} {a b:List Value} (h:OV σ a b) (n:Nat):OV σ (a.take n) (b.take n):=by
 refine ⟨by simp [h.1],fun i x y c d=>?_⟩
 simp only [Q4] at c d
 split at c
 ·rename_i hi;rw [Nk hi] at d;exact h.2 i x y c d
 ·cases c
theorem OV.get {σ:PT} {a b:List Value} (h:OV σ a b) {i:Nat} {x:Value} (d:a[i]? = some x):∃y,b[i]? = some y/\VRel σ x y:=by
 have hi:i<a.length:=(List.getElem?_eq_some_iff.1 d).1
 have c:b[i]? = some (b[i]'(by rw [<-h.1];exact hi)):=Np _
 exact ⟨_,c,h.2 i _ _ d c⟩
theorem OV.refl_of {σ:PT} {a:List Value} (h:∀x∈a,VRel σ x x):OV σ a a:=
 ⟨rfl,fun i x y b c=>by rw [b] at c;cases c;exact h x (Ok b)⟩
theorem OV.set {σ:PT} {a b:List Value} (h:OV σ a b) {x y:Value} (k:VRel σ x y) (n:Nat):OV σ (a.set n x) (b.set n y):=by
 refine ⟨by simp [h.1],fun i u v c d=>?_⟩
 rw [Oh] at c d
 by_cases hn:n=i
 ·subst hn
  rw [Nk rfl] at c d
  split at c
  ·split at d
   ·cases c;cases d;exact k
   ·cases d
  ·cases c
 ·rw [Nf hn] at c d
  exact h.2 i u v c d
theorem OV.map {σ:PT} {α:Type} (l:List α) (f g:α->Value) (h:∀x∈l,VRel σ (f x) (g x)):OV σ (l.map f) (l.map g):=by
 refine ⟨by simp,fun i u v e j=>?_⟩
 simp only [Pw,Nd] at e j
 obtain ⟨a,c,rfl⟩:=e
 obtain ⟨b,d,rfl⟩:=j
 rw [c] at d;cases d
 exact h a (Ok c)
theorem VRel.agg_iff {σ:PT} {xs ys:Array Value}:VRel σ (.agg xs) (.agg ys)↔OV σ xs.toList ys.toList/\∀y∈ys.toList,y.oneCell'=true:=by
 constructor
 ·intro h
  cases h with
  | atom h=>simp [AM.atom] at h
  | agg h k o=>
    refine ⟨⟨by simpa using h,fun i x y b a=>?_⟩,fun y a=>?_⟩
    ·simp only [Array.getElem?_toList] at b a
     obtain ⟨hi,rfl⟩:=Array.getElem?_eq_some_iff.1 b
     obtain ⟨c,rfl⟩:=Array.getElem?_eq_some_iff.1 a
     exact k i hi c
    ·obtain ⟨i,hi,rfl⟩:=Array.mem_iff_getElem.1 (Array.mem_toList_iff.1 a)
     exact o i hi
 ·rintro ⟨h,k⟩
  refine .agg (by simpa using h.1) (fun i h1 h2=>h.2 i _ _ (by simp [h1]) (by simp [h2])) (fun i h1=>k _ (by simp))
theorem VRel.tuple_iff {σ:PT} {xs ys:Array Value}:VRel σ (.tuple xs) (.tuple ys)↔OV σ xs.toList ys.toList:=by
 constructor
 ·intro h
  cases h with
  | atom h=>
    have c:xs=#[]:=by simpa [AM.atom] using h
    subst c
    exact OV.nil
  | tuple h k=>
    refine ⟨by simpa using h,fun i x y a b=>?_⟩
    simp only [Array.getElem?_toList] at a b
    obtain ⟨hi,rfl⟩:=Array.getElem?_eq_some_iff.1 a
    obtain ⟨d,rfl⟩:=Array.getElem?_eq_some_iff.1 b
    exact k i hi d
 ·intro h
  exact .tuple (by simpa using h.1) fun i h1 h2=>h.2 i _ _ (by simp [h1]) (by simp [h2])
theorem VRel.agg_left {σ:PT} {xs:Array Value} {v:Value} (h:VRel σ (.agg xs) v):∃ys,v=.agg ys/\OV σ xs.toList ys.toList/\∀y∈ys.toList,y.oneCell'=true:=by
 cases h with
 | atom h=>simp [AM.atom] at h
 | agg h k o=>exact ⟨_,rfl,VRel.agg_iff.1 (.agg h k o)⟩
theorem VRel.tuple_left {σ:PT} {xs:Array Value} {v:Value} (h:VRel σ (.tuple xs) v):∃ys,v=.tuple ys/\OV σ xs.toList ys.toList:=by
 cases h with
 | atom h=>exact ⟨_,rfl,VRel.tuple_iff.1 (.atom h)⟩
 | tuple h k=>exact ⟨_,rfl,VRel.tuple_iff.1 (.tuple h k)⟩
theorem VRel.int_left {σ:PT} {k:IntKind} {n:Int} {v:Value} (h:VRel σ (.int k n) v):v=.int k n:=by cases h;rfl
theorem VRel.bool_left {σ:PT} {b:Bool} {v:Value} (h:VRel σ (.bool b) v):v=.bool b:=by cases h;rfl
theorem VRel.string_left {σ:PT} {b:ByteArray} {v:Value} (h:VRel σ (.string b) v):v=.string b:=by cases h;rfl
theorem VRel.nilptr_left {σ:PT} {v:Value} (h:VRel σ (.pointer none) v):v=.pointer none:=by cases h;rfl
theorem VRel.nilmap_left {σ:PT} {v:Value} (h:VRel σ (.map none) v):v=.map none:=by cases h;rfl
theorem VRel.nilfunc_left {σ:PT} {v:Value} (h:VRel σ .nilFunc v):v=.nilFunc:=by cases h;rfl
theorem VRel.nilslice_left {σ:PT} {n c:Nat} {v:Value} (h:VRel σ (.slice none n c) v):n=0/\c=0/\v=.slice none 0 0:=by
 cases h with
 | atom h=>
   have a:n=0/\c=0:=by simpa [AM.atom] using h
   obtain ⟨rfl,rfl⟩:=a
   exact ⟨rfl,rfl,rfl⟩
theorem VRel.ptr_left {σ:PT} {p:Addr} {v:Value} (h:VRel σ (.pointer (some p)) v):∃L,σ p.block=some L/\p.spot=none/\v=.pointer (some ⟨L.blk,L.base+p.off,none⟩):=by
 cases h with
 | atom h=>simp [AM.atom] at h
 | ptr h=>exact ⟨_,h,rfl,rfl⟩
theorem VRel.map_left {σ:PT} {r:Nat} {v:Value} (h:VRel σ (.map (some r)) v):∃L,σ r=some L/\v=.map (some L.blk):=by
 cases h with
 | atom h=>simp [AM.atom] at h
 | map h=>exact ⟨_,h,rfl⟩
theorem VRel.func_left {σ:PT} {f:FuncId} {a b:Array Value} {v:Value} (h:VRel σ (.func (.func f) a b) v):∃c d,v=.func (.func f) c d/\OV σ a.toList c.toList/\OV σ b.toList d.toList:=by
 have key:∀{x y:Array Value},x.size=y.size->(∀i (h:i<x.size) (h':i<y.size),VRel σ x[i] y[i])->OV σ x.toList y.toList:=by
  intro x y h k
  exact VRel.tuple_iff.1 (.tuple h k)
 cases h with
 | atom h=>
   have e:a=#[]/\b=#[]:=by simpa [AM.atom] using h
   obtain ⟨rfl,rfl⟩:=e
   exact ⟨_,_,rfl,OV.nil,OV.nil⟩
 | func h1 h2 k1 k2=>exact ⟨_,_,rfl,key h1 k1,key h2 k2⟩
theorem VRel.slice_left {σ:PT} {p:Addr} {n c:Nat} {v:Value} (h:VRel σ (.slice (some p) n c) v):p.spot=none/\∃L,σ p.block=some L/\
  ((c<2 ^ 62/\v=.slice (some ⟨L.blk,L.base+p.off,none⟩) n c)\/
   (∃e,c=loose e/\∃c',n<=c'/\p.off+c'*e<=L.room/\v=.slice (some ⟨L.blk,L.base+p.off,none⟩) n c')\/
   (∃a,(c=0\/∃e,c=loose e)/\n=0/\v=.slice (some a) 0 0)):=by
 cases h with
 | atom h=>simp [AM.atom] at h
 | slice h hc=>exact ⟨rfl,_,h,.inl ⟨hc,rfl⟩⟩
 | lslice h hn hr=>exact ⟨rfl,_,h,.inr (.inl ⟨_,rfl,_,hn,hr,rfl⟩)⟩
 | eslice h hc=>exact ⟨rfl,_,h,.inr (.inr ⟨_,hc,rfl,rfl⟩)⟩
theorem VRel.slice' {σ:PT} {a:Addr} {L:Loc} {n c:Nat} (d:a.spot=none) (e:σ a.block=some L) (hc:c<2 ^ 62):VRel σ (.slice (some a) n c) (.slice (some ⟨L.blk,L.base+a.off,none⟩) n c):=by
 obtain ⟨b,o,s⟩:=a
 simp only at d;subst d
 exact .slice e hc
theorem VRel.eslice' {σ:PT} {a b:Addr} {L:Loc} {c:Nat} (d:a.spot=none) (f:σ a.block=some L) (hc:c=0\/∃e,c=AM.loose e):VRel σ (.slice (some a) 0 c) (.slice (some b) 0 0):=by
 obtain ⟨b,o,s⟩:=a
 simp only at d;subst d
 exact .eslice f hc
theorem VRel.cells {σ:PT} {v v':Value} (h:VRel σ v v'):OV σ v.cells.toList v'.cells.toList:=by
 cases h with
 | agg h k o=>exact (VRel.agg_iff.1 (.agg h k o)).1
 | atom h=>
   cases v<;>first | exact OV.cons (.atom h) OV.nil | (simp [AM.atom] at h)
 | ptr h=>exact OV.cons (.ptr h) OV.nil
 | slice h hc=>exact OV.cons (.slice h hc) OV.nil
 | lslice h hn hr=>exact OV.cons (.lslice h hn hr) OV.nil
 | eslice h hc=>exact OV.cons (.eslice h hc) OV.nil
 | map h=>exact OV.cons (.map h) OV.nil
 | yld h=>exact OV.cons (.yld h) OV.nil
 | func h1 h2 k1 k2=>exact OV.cons (.func h1 h2 k1 k2) OV.nil
 | tuple h k=>exact OV.cons (.tuple h k) OV.nil
theorem VRel.cells_one {σ:PT} {v v':Value} (h:VRel σ v v') (b:NA v=true):∀x∈v'.cells.toList,x.oneCell'=true:=by
 intro x a
 cases h with
 | agg h k o=>exact (VRel.agg_iff.1 (.agg h k o)).2 x a
 | atom h=>cases v<;>first | (simp [NA] at b;done) | (simp [Value.cells] at a;subst a;rfl) | (simp [AM.atom] at h;done)
 | tuple h k=>simp [NA] at b
 | _=>simp [Value.cells] at a;subst a;rfl
def owned:Blk->Bool
 | .dead=>false
 | .cells ro _=>!ro
 | _=>true
def alive:Blk->Bool
 | .dead=>false
 | _=>true
def Nzp (fz:Nat×Nat) (n:Nat):Prop:=fz.1=fz.2\/n<=fz.1
theorem Nzp.ok {fz:Nat×Nat} {n:Nat} (h:Nzp fz n) (o:Nat) (ho:o<n):¬(fz.1<=o/\o<fz.2):=by
 rcases h with h | h<;>omega
structure Prg where
 P:Program
 pf:FuncId->Bool
def N2z:Nat->LoopState
 | 0=>.ready
 | 1=>.busy
 | _=>.done
structure LoopRel (Pg:Prg) (σ:PT) (x:LoopB) (lp:Loop):Prop where
 st:lp.state=N2z x.st
 pend:match x.pend with
  | none=>lp.pending=none
  | some c=>∃C,lp.pending=some C/\Uh Pg.P Pg.pf C=some c
 size:x.N<=lp.tmps.size
 val:∀t,VRel σ (x.fr t) (lp.tmps.getD t undef)
 params:lp.params.toList=x.params
 assign:TG Pg.P Pg.pf lp.assign=some x.assign
 body:TG Pg.P Pg.pf lp.body=some x.body
theorem LoopRel.mono {Pg:Prg} {σ τ:PT} (a:PT.le σ τ) {x:LoopB} {lp:Loop} (h:LoopRel Pg σ x lp):LoopRel Pg τ x lp:=
 ⟨h.st,h.pend,h.size,fun t=>(h.val t).mono a,h.params,h.assign,h.body⟩
def Nmh (n clock:Nat) (ents:Array MapEntry):Prop:=clock=n/\∀(j:Nat) e,ents[j]? = some e->e.born=j
def Nbh (σ:PT) (m a:Option Nat):Prop:=match m with
 | none=>a=none
 | some r=>∃L,σ r=some L/\a=some L.blk
theorem Nbh.mono {σ τ:PT} (a:PT.le σ τ) {m m':Option Nat} (h:Nbh σ m m'):Nbh τ m m':=by
 cases m with
 | none=>exact h
 | some r=>obtain ⟨L,h1,h2⟩:=h;exact ⟨L,a _ _ h1,h2⟩
def UW (Pg:Prg) (σ:PT) (w:World) (L:Loc):Blk->Prop
 | .dead=>True
 | .cells ro c=>∃cs el fz,w.heap[L.blk]? = some (.cells cs el fz)/\
   (∀(j:Nat) v,c[j]? = some v->∃v',cs[L.base+j]? = some v'/\VRel σ v v'/\v'.oneCell'=true)/\
   (ro=false->L.base+L.room<=cs.size/\c.length<=L.room/\Nzp fz cs.size)
 | .map es=>∃ents clock,w.heap[L.blk]? = some (.map ents clock)/\ents.size=es.length/\
   (∀(j:Nat) e a,es[j]? = some e->ents[j]? = some a->e.1=a.key/\VRel σ e.2 a.val)/\Nmh es.length clock ents
 | .iter m n seen=>L.base=0/\∃b,Nbh σ m b/\w.heap[L.blk]? = some (.mapIter b (if m.isSome then n else 0) seen.toArray (if m.isSome then n else 0))/\∀j∈seen,j<n
 | .loop x=>∃lp,w.heap[L.blk]? = some (.loop lp)/\LoopRel Pg σ x lp
 | .dfr=>w.heap[L.blk]? = some (.deferred (some []))
structure Inv (Pg:Prg) (W:Nat->Prop) (lim:Nat) (σ:PT) (H:NB) (w:World):Prop where
 blk:∀(i:Nat) b,H[i]? = some b->alive b=true->∃L,σ i=some L/\UW Pg σ w L b
 inj:∀(i j:Nat) bi bj Li Lj,H[i]? = some bi->H[j]? = some bj->i≠j->owned bi=true->alive bj=true->σ i=some Li->σ j=some Lj->Li.blk≠Lj.blk
 wr:∀(i:Nat) b L,H[i]? = some b->owned b=true->lim<=i->σ i=some L->W L.blk
 fresh:∀b,w.heap.size<=b->W b
 dom:∀i,H.length<=i->σ i=none
structure Stp (W:Nat->Prop) (w w':World):Prop where
 os:w'.os=w.os
 tape:w'.tape=w.tape
 output:w'.output=w.output
 size:w.heap.size<=w'.heap.size
 block:∀b,¬W b->w'.heap[b]? = w.heap[b]?
theorem Stp.refl (W:Nat->Prop) (w:World):Stp W w w:=⟨rfl,rfl,rfl,Ng _,fun _ _=>rfl⟩
theorem Stp.trans {W:Nat->Prop} {a b c:World} (h:Stp W a b) (k:Stp W b c):Stp W a c:=
 ⟨k.os.trans h.os,k.tape.trans h.tape,k.output.trans h.output,Rc h.size k.size,fun i hi=>(k.block i hi).trans (h.block i hi)⟩
theorem PP {b:Blk} (h:owned b=true):alive b=true:=by cases b<;>simp_all [owned,alive]
theorem UW.lt {Pg:Prg} {σ:PT} {w:World} {L:Loc} {b:Blk} (h:UW Pg σ w L b) (d:alive b=true):L.blk<w.heap.size:=by
 have key:∀{o:Obj},w.heap[L.blk]? = some o->L.blk<w.heap.size:=fun h=>(Array.getElem?_eq_some_iff.1 h).1
 cases b with
 | dead=>simp [alive] at d
 | cells ro c=>obtain ⟨_,_,_,a,_⟩:=h;exact key a
 | map es=>obtain ⟨_,_,a,_⟩:=h;exact key a
 | iter m n seen=>obtain ⟨_,_,_,a,_⟩:=h;exact key a
 | loop x=>obtain ⟨_,a,_⟩:=h;exact key a
 | dfr=>exact key h
theorem UW.mono {Pg:Prg} {σ τ:PT} (a:PT.le σ τ) {w w':World} {L:Loc} {b:Blk} (h:UW Pg σ w L b) (hw:alive b=true->w'.heap[L.blk]? = w.heap[L.blk]?):UW Pg τ w' L b:=by
 cases b with
 | dead=>trivial
 | cells ro c=>
   obtain ⟨cs,el,fz,d,hc,ho⟩:=h
   refine ⟨cs,el,fz,by rw [hw rfl];exact d,fun j v q=>?_,ho⟩
   obtain ⟨v',h1,h2,g⟩:=hc j v q
   exact ⟨v',h1,h2.mono a,g⟩
 | map es=>
   obtain ⟨l,cl,d,p,f,i⟩:=h
   exact ⟨l,cl,by rw [hw rfl];exact d,p,fun j e k h1 h2=>⟨(f j e k h1 h2).1,(f j e k h1 h2).2.mono a⟩,i⟩
 | iter m n seen=>
   obtain ⟨o,r,h1,h2,g⟩:=h
   exact ⟨o,r,h1.mono a,by rw [hw rfl];exact h2,g⟩
 | loop x=>
   obtain ⟨lp,d,f⟩:=h
   exact ⟨lp,by rw [hw rfl];exact d,f.mono a⟩
 | dfr=>show w'.heap[L.blk]? = _;rw [hw rfl];exact h
section
variable {Pg:Prg} {W:Nat->Prop} {lim:Nat} {σ:PT} {H:NB} {w:World}
theorem Tj {i:Nat} {b:Blk} (h:NC H i=b) (a:alive b=true):H[i]? = some b:=by
 unfold NC at h
 rw [Nc] at h
 cases hi:H[i]? with
 | none=>rw [hi] at h;simp at h;subst h;simp [alive] at a
 | some x=>rw [hi] at h;simp at h;rw [h]
theorem Inv.lt (h:Inv Pg W lim σ H w) {i:Nat} {L:Loc} (hi:σ i=some L):i<H.length:=by
 rcases Om i H.length with h1 | h1
 ·exact h1
 ·rw [h.dom i h1] at hi;cases hi
theorem Inv.cells (h:Inv Pg W lim σ H w) {i:Nat} {ro:Bool} {c:List Value} (b:NC H i=.cells ro c) {L:Loc} (a:σ i=some L) :
  ∃cs el fz,w.heap[L.blk]? = some (.cells cs el fz)/\(∀(j:Nat) v,c[j]? = some v->∃v',cs[L.base+j]? = some v'/\VRel σ v v'/\v'.oneCell'=true)/\
   (ro=false->L.base+L.room<=cs.size/\c.length<=L.room/\Nzp fz cs.size):=by
 obtain ⟨d,h1,h2⟩:=h.blk i _ (Tj b rfl) rfl
 rw [a] at h1;cases h1
 exact h2
theorem cell_of_heap {b o:Nat} {cs:Array Value} {el:TypeId} {fz:Nat×Nat} {v:Value} (h:w.heap[b]? = some (.cells cs el fz)) (a:cs[o]? = some v):w.cell? ⟨b,o,none⟩=some v:=by
 simp [World.cell?,h,a]
theorem Inv.loadCell (h:Inv Pg W lim σ H w) {p:Addr} {v:Value} {L:Loc} (b:σ p.block=some L) (a:loadCell H p=some v) :
  ∃v',w.cell? ⟨L.blk,L.base+p.off,none⟩=some v'/\VRel σ v v'/\v'.oneCell'=true:=by
 unfold AM.loadCell at a
 split at a
 ·rename_i ro c d
  obtain ⟨cs,el,fz,e,hc,_⟩:=h.cells d b
  obtain ⟨v',h1,h2⟩:=hc _ _ a
  exact ⟨v',cell_of_heap e h1,h2⟩
 ·cases a
theorem Inv.loadCells (h:Inv Pg W lim σ H w) {p:Addr} {n:Nat} {l:List Value} {L:Loc} (o:σ p.block=some L) (a:loadCells H p n=some l) :
  ∃l',OV σ l l'/\l'.length=n/\(∀y∈l',y.oneCell'=true)/\∀(j:Nat) v,l'[j]? = some v->w.cell? ⟨L.blk,L.base+p.off+j,none⟩=some v:=by
 unfold AM.loadCells at a
 split at a
 case h_2=>cases a
 rename_i ro c q
 split at a
 case isFalse=>cases a
 rename_i k
 cases a
 obtain ⟨cs,el,fz,r,hc,_⟩:=h.cells q o
 refine ⟨(List.range n).map fun j=>cs.getD (L.base+p.off+j) undef, ?_,by simp, ?_, ?_⟩
 ·refine ⟨by simp;omega,fun i x y e d=>?_⟩
  simp only [Q4,Q5] at e
  split at e
  case isFalse=>cases e
  rename_i hi
  obtain ⟨v',h1,h2,_⟩:=hc _ _ e
  rw [Pw,List.getElem?_range hi] at d
  simp only [Nz,Option.some.injEq] at d
  subst d
  rw [show L.base+p.off+i=L.base+(p.off+i) by omega,N7,h1]
  exact h2
 ·intro y d
  obtain ⟨j,g,rfl⟩:=List.mem_map.1 d
  have g:=List.mem_range.1 g
  obtain ⟨v',h1,_,m⟩:=hc (p.off+j) _ (Np (by omega))
  rw [show L.base+p.off+j=L.base+(p.off+j) by omega,N7,h1]
  exact m
 ·intro j v a
  rw [Pw] at a
  simp only [Nd] at a
  obtain ⟨j',b,rfl⟩:=a
  have f:j<n:=by
   have:=(List.getElem?_eq_some_iff.1 b).1
   simpa using this
  rw [List.getElem?_range f] at b
  cases b
  obtain ⟨v',h1,_⟩:=hc (p.off+j) _ (Np (by omega))
  refine cell_of_heap r ?_
  rw [show L.base+p.off+j=L.base+(p.off+j) by omega,N7,h1]
  rfl
def PT.put (σ:PT) (i:Nat) (L:Loc):PT:=fun j=>if j=i then some L else σ j
theorem PT.le_put {σ:PT} {i:Nat} {L:Loc} (h:σ i=none):PT.le σ (σ.put i L):=fun j M a=>by
 unfold PT.put
 split
 ·rename_i e;subst e;rw [h] at a;cases a
 ·exact a
theorem PT.put_same {σ:PT} {i:Nat} {L:Loc}:σ.put i L i=some L:=by simp [PT.put]
theorem TR {dest:Option Nat} {b:Blk} {H H':NB} {i:Nat} (h:place dest b H=(i,H')) (hd:∀d,dest=some d->d<H.length) :
  H'[i]? = some b/\(∀j,j≠i->H'[j]? = H[j]?)/\H.length<=H'.length/\(∀j,H'.length<=j->H.length<=j/\j≠i)/\(dest=none->i=H.length)/\(∀d,dest=some d->i=d/\H'.length=H.length)/\i<H'.length:=by
 unfold place at h
 cases dest with
 | none=>
   simp only [Prod.mk.injEq] at h
   obtain ⟨rfl,rfl⟩:=h
   refine ⟨by simp,fun j a=>?_,by simp,fun j a=>?_,fun _=>rfl,fun d hd=>absurd hd (by simp),by simp⟩
   ·rcases Om j H.length with h1 | h1
    ·rw [Od h1]
    ·rw [Og h1,N8 h1,N8]
     simp;omega
   ·simp at a;omega
 | some d=>
   simp only [Prod.mk.injEq] at h
   obtain ⟨rfl,rfl⟩:=h
   have c:=hd d rfl
   refine ⟨by simp [c],fun j a=>by rw [Oh,Nf (fun e=>a e.symm)],by simp,fun j a=>?_,fun h=>absurd h (by simp),(fun x f=>by cases f;exact ⟨rfl,by simp⟩),by simpa using c⟩
   simp at a;omega
theorem Inv.adopt (h:Inv Pg W lim σ H w) {H':NB} {i:Nat} {b:Blk} {L:Loc} (hi:H'[i]? = some b) (q:∀j,j≠i->H'[j]? = H[j]?) (r:∀j,H'.length<=j->H.length<=j/\j≠i)
  (z:σ i=none) (B:UW Pg (σ.put i L) w L b) (ho:owned b=true) (A:W L.blk)
  (n:∀(j:Nat) bj Lj,j≠i->H[j]? = some bj->alive bj=true->σ j=some Lj->Lj.blk≠L.blk):Inv Pg W lim (σ.put i L) H' w:=by
 refine ⟨fun j bj a u=>?_,fun j k bj y Lj s a d l m p c g=>?_,fun j bj Lj a m x c=>?_,h.fresh,fun j v=>?_⟩
 ·by_cases e:j=i
  ·subst e
   rw [hi] at a;cases a
   exact ⟨L,PT.put_same,B⟩
  ·rw [q j e] at a
   obtain ⟨Lj,h1,h2⟩:=h.blk j bj a u
   exact ⟨Lj,PT.le_put z _ _ h1,h2.mono (PT.le_put z) fun _=>rfl⟩
 ·by_cases e:j=i
  ·subst e
   rw [hi] at a;cases a
   rw [PT.put_same] at c;cases c
   rw [q k (Ne.symm l)] at d
   have o:σ k=some s:=by simpa [PT.put,Ne.symm l] using g
   exact fun e=>n k y s (Ne.symm l) d p o e.symm
  ·have f:σ j=some Lj:=by simpa [PT.put,e] using c
   rw [q j e] at a
   by_cases t:k=i
   ·subst t
    rw [PT.put_same] at g;cases g
    exact n j bj Lj e a (PP m) f
   ·have o:σ k=some s:=by simpa [PT.put,t] using g
    rw [q k t] at d
    exact h.inj j k bj y Lj s a d l m p f o
 ·by_cases e:j=i
  ·subst e
   rw [PT.put_same] at c;cases c
   exact A
  ·have f:σ j=some Lj:=by simpa [PT.put,e] using c
   rw [q j e] at a
   exact h.wr j bj Lj a m x f
 ·obtain ⟨h1,h2⟩:=r j v
  simp [PT.put,h2,h.dom j h1]
theorem Inv.world (h:Inv Pg W lim σ H w) {w':World} (e:w.heap.size<=w'.heap.size) (d:∀b,b<w.heap.size->w'.heap[b]? = w.heap[b]?):Inv Pg W lim σ H w':=by
 refine ⟨fun i b c a=>?_,h.inj,h.wr,fun b c=>h.fresh b (by omega),h.dom⟩
 obtain ⟨L,h1,h2⟩:=h.blk i b c a
 exact ⟨L,h1,h2.mono (PT.le_refl σ) fun _=>d _ (h2.lt a)⟩
theorem Uv (w:World) (o:Obj):(w.alloc o).heap=w.heap.push o:=rfl
theorem Stp.alloc (c:∀b,w.heap.size<=b->W b) (o:Obj):Stp W w (w.alloc o):=by
 refine ⟨rfl,rfl,rfl,by simp,fun b a=>?_⟩
 rw [Uv,Qc]
 split
 ·rename_i e;exact absurd (c b (by omega)) a
 ·rfl
theorem Stp.drew:Stp W w w.drew:=⟨rfl,rfl,rfl,Ng _,fun _ _=>rfl⟩
theorem Inv.drew (h:Inv Pg W lim σ H w):Inv Pg W lim σ H w.drew:=h.world (Ng _) fun _ _=>rfl
theorem Inv.alloc (h:Inv Pg W lim σ H w) {dest:Option Nat} {c:List Value} {H':NB} {i:Nat} (hp:place dest (.cells false c) H=(i,H')) (hd:∀d,dest=some d->d<H.length/\σ d=none)
  {cs:Array Value} {el:TypeId} (hc:∀(j:Nat) v,c[j]? = some v->∃v',cs[j]? = some v'/\VRel σ v v'/\v'.oneCell'=true) (hn:c.length<=cs.size) :
  Inv Pg W lim (σ.put i ⟨w.heap.size,0,cs.size⟩) H' (w.alloc (.cells cs el))/\σ i=none:=by
 obtain ⟨g1,l,t,m,n,o,u⟩:=TR hp fun d e=>(hd d e).1
 have g:σ i=none:=by
  cases dest with
  | none=>rw [n rfl];exact h.dom _ (Ng _)
  | some d=>rw [(o d rfl).1];exact (hd d rfl).2
 refine ⟨?_,g⟩
 have hw:Inv Pg W lim σ H (w.alloc (.cells cs el)):=h.world (by simp) fun b x=>by rw [Uv,Qc];rw [Nf (by omega)]
 refine hw.adopt g1 l m g ?_ rfl (h.fresh _ (Ng _)) fun j bj Lj q f k a e=>?_
 ·refine ⟨cs,el,(0,0),by simp [Uv],fun j v r=>?_,fun _=>⟨by simp,by simpa using hn,.inl rfl⟩⟩
  obtain ⟨v',h1,h2,p⟩:=hc j v r
  exact ⟨v',by simpa using h1,h2.mono (PT.le_put g),p⟩
 ·obtain ⟨s,h1,h2⟩:=h.blk j bj f k
  rw [a] at h1;cases h1
  have:=h2.lt k
  simp at e
  omega
theorem Inv.allocMap (h:Inv Pg W lim σ H w) {dest:Option Nat} {H':NB} {i:Nat} (hp:place dest (.map []) H=(i,H')) (hd:∀d,dest=some d->d<H.length/\σ d=none) :
  Inv Pg W lim (σ.put i ⟨w.heap.size,0,0⟩) H' (w.alloc (.map #[] 0))/\σ i=none:=by
 obtain ⟨g1,k,r,l,m,n,s⟩:=TR hp fun d e=>(hd d e).1
 have g:σ i=none:=by
  cases dest with
  | none=>rw [m rfl];exact h.dom _ (Ng _)
  | some d=>rw [(n d rfl).1];exact (hd d rfl).2
 refine ⟨?_,g⟩
 have hw:Inv Pg W lim σ H (w.alloc (.map #[] 0)):=h.world (by simp) fun b t=>by rw [Uv,Qc];rw [Nf (by omega)]
 refine hw.adopt g1 k l g ?_ rfl (h.fresh _ (Ng _)) fun j bj Lj o c f a e=>?_
 ·exact ⟨#[],0,by simp [Uv],by simp,(fun j e q h1 h2=>by simp at h1),rfl,fun j e h1=>by simp at h1⟩
 ·obtain ⟨p,h1,h2⟩:=h.blk j bj c f
  rw [a] at h1;cases h1
  have:=h2.lt f
  simp at e
  omega
end
theorem YH:∀(vs c:List Value) (o:Nat),(RF c o vs).length=c.length
 | [],_,_=>rfl
 | v::vs,c,o=>by simp [RF,YH vs]
theorem YV:∀(vs c:List Value) (o j:Nat),j<o\/o+vs.length<=j->(RF c o vs)[j]? = c[j]?
 | [],_,_,_,_=>rfl
 | v::vs,c,o,j,h=>by
   simp only [Nj] at h
   rw [RF,YV vs _ _ _ (by omega),Oh,Nf (by omega)]
theorem Neq:∀(vs c:List Value) (o j:Nat) v,vs[j]? = some v->o+vs.length<=c.length->(RF c o vs)[o+j]? = some v
 | [],_,_,_,_,h,_=>by simp at h
 | u::vs,c,o,j,v,h,hl=>by
   simp only [Nj] at hl
   cases j with
   | zero=>
     simp at h;subst h
     have:o<c.length:=by omega
     rw [RF,YV vs _ _ _ (by omega)]
     simp [this]
   | succ j=>
     rw [RF,show o+(j+1)=o+1+j by omega]
     exact Neq vs _ (o+1) j v (by simpa using h) (by simp;omega)
theorem heap_setCell {w:World} {b o:Nat} {v:Value} {cs:Array Value} {el:TypeId} {fz:Nat×Nat} (h:w.heap[b]? = some (.cells cs el fz)) :
  (w.setCell ⟨b,o,none⟩ v).heap[b]? = some (.cells (cs.setIfInBounds o v) el fz):=by
 obtain ⟨f1,f2⟩:=fz
 simp [World.setCell,Array.getElem?_modify,h]
theorem Na0 {w:World} {b o k:Nat} {v:Value} (h:k≠b):(w.setCell ⟨b,o,none⟩ v).heap[k]? = w.heap[k]?:=by
 simp [World.setCell,Array.getElem?_modify,Ne.symm h]
structure Wrote (w w':World) (b o:Nat) (vs:List Value) (cs:Array Value) (el:TypeId) (fz:Nat×Nat) (cs':Array Value):Prop where
 heap:w'.heap[b]? = some (.cells cs' el fz)
 size:cs'.size=cs.size
 out:∀j,j<o\/o+vs.length<=j->cs'[j]? = cs[j]?
 inn:∀(j:Nat) v,vs[j]? = some v->cs'[o+j]? = some v
 other:∀k,k≠b->w'.heap[k]? = w.heap[k]?
 len:w'.heap.size=w.heap.size
 os:w'.os=w.os
 tape:w'.tape=w.tape
 output:w'.output=w.output
theorem VF (b:Nat) (el:TypeId) (fz:Nat×Nat):∀(vs:List Value) (o:Nat) (w:World) (cs:Array Value),w.heap[b]? = some (.cells cs el fz)->o+vs.length<=cs.size->
  ∃cs',Wrote w (w.setCells b o vs) b o vs cs el fz cs'
 | [],o,w,cs,h,_=>⟨cs,h,rfl,fun _ _=>rfl,fun j v e=>by simp at e,fun _ _=>rfl,rfl,rfl,rfl,rfl⟩
 | v::vs,o,w,cs,h,hl=>by
   simp only [Nj] at hl
   obtain ⟨cs',k⟩:=VF b el fz vs (o+1) (w.setCell ⟨b,o,none⟩ v) _ (heap_setCell h) (by simp;omega)
   refine ⟨cs',k.heap,by rw [k.size];simp,fun j d=>?_,fun j u a=>?_,fun m c=>by rw [World.setCells,k.other m c,Na0 c], ?_, ?_, ?_, ?_⟩
   ·simp only [Nj] at d
    rw [k.out j (by omega),P5 (by omega)]
   ·cases j with
    | zero=>
      simp at a;subst a
      rw [Oj,k.out o (by omega),Array.getElem?_setIfInBounds_self]
      simp;omega
    | succ j=>
      rw [show o+(j+1)=o+1+j by omega]
      exact k.inn j u (by simpa using a)
   ·rw [World.setCells,k.len];simp
   ·rw [World.setCells,k.os];rfl
   ·rw [World.setCells,k.tape];rfl
   ·rw [World.setCells,k.output];rfl
section
variable {Pg:Prg} {W:Nat->Prop} {lim:Nat} {σ:PT} {H:NB} {w:World}
theorem Inv.rewrite (h:Inv Pg W lim σ H w) {i:Nat} {b b':Blk} {L:Loc} (hi:H[i]? = some b) (ho:owned b=true) (x:σ i=some L) {w':World} (B:w'.heap.size=w.heap.size)
  (y:∀k,k≠L.blk->w'.heap[k]? = w.heap[k]?) (r:UW Pg σ w' L b') (z:alive b'=true->owned b'=true):Inv Pg W lim σ (H.set i b') w':=by
 have s:i<H.length:=(List.getElem?_eq_some_iff.1 hi).1
 have gs:(H.set i b')[i]? = some b':=by rw [Oh,Nk rfl,Nk s]
 have m:∀j,j≠i->(H.set i b')[j]? = H[j]?:=fun j t=>by rw [Oh,Nf (Ne.symm t)]
 refine ⟨fun j bj a q=>?_,fun j k bj u Lj p a d f g n c l=>?_,fun j bj Lj a g o c=>?_,fun b A=>h.fresh b (by omega),fun j t=>h.dom j (by simpa using t)⟩
 ·by_cases e:j=i
  ·subst e
   rw [gs] at a;cases a
   exact ⟨L,x,r⟩
  ·rw [m j e] at a
   obtain ⟨Lj,h1,h2⟩:=h.blk j bj a q
   exact ⟨Lj,h1,h2.mono (PT.le_refl σ) fun q=>y _ (Ne.symm (h.inj i j b bj L Lj hi a (Ne.symm e) ho q x h1))⟩
 ·by_cases e:j=i
  ·subst e
   rw [m k (Ne.symm f)] at d
   exact h.inj j k b u Lj p hi d f ho n c l
  ·rw [m j e] at a
   by_cases v:k=i
   ·subst v
    exact h.inj j k bj b Lj p a hi f g (PP ho) c l
   ·rw [m k v] at d
    exact h.inj j k bj u Lj p a d f g n c l
 ·by_cases e:j=i
  ·subst e;exact h.wr j b Lj hi ho o c
  ·rw [m j e] at a;exact h.wr j bj Lj a g o c
theorem Stp.one {w':World} {blk:Nat} (c:W blk) (f:∀k,k≠blk->w'.heap[k]? = w.heap[k]?) (g:w'.heap.size=w.heap.size) (h1:w'.os=w.os) (h2:w'.tape=w.tape) (a:w'.output=w.output):Stp W w w':=
 ⟨h1,h2,a,Nat.le_of_eq g.symm,fun b d=>f b fun e=>d (e▸c)⟩
theorem Inv.store {P:Program} (h:Inv Pg W lim σ H w) {p:Addr} {vs a:List Value} {H':NB} {L:Loc} (m:σ p.block=some L) (e:storeAt lim H p vs=some H') (hr:OV σ vs a) (h1:∀v∈a,v.oneCell'=true) :
  ∃w',(storeCells ⟨L.blk,L.base+p.off,none⟩ a).run P w=.ok () w'/\Inv Pg W lim σ H' w'/\Stp W w w'/\H'.length=H.length:=by
 unfold storeAt at e
 split at e
 case h_2=>cases e
 rename_i c u
 split at e
 case isFalse=>cases e
 rename_i d
 obtain ⟨g,x⟩:=d
 cases e
 have f:=Tj u rfl
 obtain ⟨cs,el,fz,n,hc,ho⟩:=h.cells u m
 obtain ⟨r,s,i⟩:=ho rfl
 have C:=hr.1
 obtain ⟨cs',k⟩:=VF L.blk el fz a (L.base+p.off) w cs n (by omega)
 refine ⟨_,run_storeCells_cells (P:=P) L.blk (L.base+p.off) a 0 w (fun j o=>?_) (fun j o=>?_) h1, ?_, ?_,by simp⟩
 ·rw [cell_of_heap n (Ol (by omega))];rfl
 ·simp only [World.frozen?,n]
  have:=i.ok (L.base+p.off+0+j) (by omega)
  obtain ⟨f1,f2⟩:=fz
  simp at this⊢
  exact this
 ·refine h.rewrite f rfl m k.len k.other ⟨cs',el,fz,k.heap,fun j v b=>?_,fun _=>⟨by rw [k.size];exact r,by rw [YH];exact s,by rw [k.size];exact i⟩⟩ (fun _=>rfl)
  by_cases o:j<p.off\/p.off+vs.length<=j
  ·rw [YV vs c p.off j o] at b
   obtain ⟨v',g1,A,B⟩:=hc j v b
   exact ⟨v',by rw [k.out _ (by omega)];exact g1,A,B⟩
  ·have q:j=p.off+(j-p.off):=by omega
   have l:vs[j-p.off]? = some (vs[j-p.off]'(by omega)):=Np _
   rw [q,Neq vs c p.off (j-p.off) _ l (by omega)] at b
   cases b
   obtain ⟨y,z,t⟩:=hr.get l
   exact ⟨y,by rw [show L.base+j=L.base+p.off+(j-p.off) by omega];exact k.inn _ _ z,t,h1 y (Ok z)⟩
 ·exact Stp.one (h.wr _ _ _ f rfl g m) k.other k.len k.os k.tape k.output
theorem Inv.killAny (h:Inv Pg W lim σ H w) (i:Nat):Inv Pg W lim σ (H.set i .dead) w:=by
 have f:∀(j:Nat) b,(H.set i .dead)[j]? = some b->alive b=true->H[j]? = some b/\j≠i:=fun j b a g=>by
  rw [Oh] at a
  split at a
  ·split at a
   ·cases a;simp [alive] at g
   ·cases a
  ·rename_i e;exact ⟨a,fun s=>e s.symm⟩
 refine ⟨fun j b a g=>h.blk j b (f j b a g).1 g,fun j k bj q Lj r l m p d c n o=>?_,fun j b L a ho hl t=>h.wr j b L (f j b a (PP ho)).1 ho hl t,h.fresh,fun j u=>h.dom j (by simpa using u)⟩
 exact h.inj j k bj q Lj r (f j bj l (PP d)).1 (f k q m c).1 p d c n o
theorem Inv.appendRoom {P:Program} (h:Inv Pg W lim σ H w) {p:Addr} {a new f:List Value} {c:List Value} {L:Loc} (x:NC H p.block=.cells false c) (q:σ p.block=some L) (m:lim<=p.block)
  (b:AM.loadCells H p a.length=some a) (hr:OV σ new f) (h1:∀v∈f,v.oneCell'=true) (A:p.off+a.length+new.length<=L.room)
  {dest:Option Nat} {H':NB} {i:Nat} (hp:place dest (.cells false (a++new)) (H.set p.block .dead)=(i,H')) (hd:∀d,dest=some d->d<H.length/\σ d=none) :
  ∃w',(storeCells ⟨L.blk,L.base+p.off+a.length,none⟩ f).run P w=.ok () w'/\Inv Pg W lim (σ.put i ⟨L.blk,L.base+p.off,L.room-p.off⟩) H' w'/\Stp W w w'/\σ i=none:=by
 have l:=Tj x rfl
 obtain ⟨cs,el,fz,z,hc,ho⟩:=h.cells x q
 obtain ⟨N,O,s⟩:=ho rfl
 have M:=hr.1
 obtain ⟨cs',k⟩:=VF L.blk el fz f (L.base+p.off+a.length) w cs z (by omega)
 have D:Inv Pg W lim σ (H.set p.block .dead) (w.setCells L.blk (L.base+p.off+a.length) f):=h.rewrite l rfl q k.len k.other trivial (fun h=>by simp [alive] at h)
 obtain ⟨g1,F,Q,G,I,J,R⟩:=TR hp fun d e=>by simpa using (hd d e).1
 have t:σ i=none:=by
  cases dest with
  | none=>rw [I rfl];exact D.dom _ (Ng _)
  | some d=>rw [(J d rfl).1];exact (hd d rfl).2
 have o:∀(j:Nat) v,a[j]? = some v->c[p.off+j]? = some v:=fun j v n=>by
  unfold AM.loadCells at b
  rw [x] at b
  simp only at b
  split at b
  ·have r:=(List.getElem?_eq_some_iff.1 n).1
   have e:(c.drop p.off).take a.length=a:=by simpa using b
   rw [<-e,Q4,Nk r,Q5] at n
   exact n
  ·cases b
 refine ⟨_,run_storeCells_cells (P:=P) L.blk (L.base+p.off+a.length) f 0 w (fun j r=>?_) (fun j r=>?_) h1, ?_, ?_,t⟩
 ·rw [cell_of_heap z (Ol (by omega))];rfl
 ·simp only [World.frozen?,z]
  have:=s.ok (L.base+p.off+a.length+0+j) (by omega)
  obtain ⟨f1,f2⟩:=fz
  simp at this⊢
  exact this
 ·refine D.adopt g1 F G t ⟨cs',el,fz,k.heap,fun j v n=>?_,fun _=>⟨by rw [k.size];simp;omega,by simp;omega,by rw [k.size];exact s⟩⟩ rfl (show W L.blk from h.wr _ _ _ l rfl m q) fun j bj Lj K g C u=>?_
  ·show ∃v',cs'[L.base+p.off+j]? = some v'/\_
   by_cases r:j<a.length
   ·rw [Od r] at n
    obtain ⟨v',e1,e2,e3⟩:=hc _ _ (o j v n)
    exact ⟨v',by rw [k.out _ (by omega),show L.base+p.off+j=L.base+(p.off+j) by omega];exact e1,e2.mono (PT.le_put t),e3⟩
   ·rw [Og (by omega)] at n
    obtain ⟨y,E,B⟩:=hr.get n
    exact ⟨y,by rw [show L.base+p.off+j=L.base+p.off+a.length+(j-a.length) by omega];exact k.inn _ _ E,B.mono (PT.le_put t),h1 y (Ok E)⟩
  ·by_cases e:j=p.block
   ·subst e
    rw [Oh,Nk rfl] at g
    split at g
    ·cases g;simp [alive] at C
    ·cases g
   ·rw [Oh,Nf (Ne.symm e)] at g
    exact Ne.symm (h.inj p.block j _ bj L Lj l g (Ne.symm e) rfl C q u)
 ·exact Stp.one (h.wr _ _ _ l rfl m q) k.other k.len k.os k.tape k.output
end
end Go.AM


namespace Go.AM
open Go.MapKept
def Ngh:Next->Option Value
 | .value v=>some v
 | .skip=>some undef
 | _=>none
def OM (Pg:Prg) (W:Nat->Prop) (lim:Nat) (σ:PT) (dest:Option Nat) (H:NB) (w:World) (run:Result Next) (v:Value) (H':NB):Prop:=
 ∃nx w' a v',run=.ok nx w'/\Ngh nx=some v'/\VRel a v v'/\Inv Pg W lim a H' w'/\Stp W w w'/\PT.le σ a/\
  (∀j,a j≠σ j->dest=some j\/(dest=none/\H.length<=j))/\H.length<=H'.length/\(dest≠none->H'.length=H.length)
section
variable {P:Program} {Pg:Prg} {W:Nat->Prop} {lim:Nat} {σ:PT} {H:NB} {w:World} {dest:Option Nat}
theorem OM.plain (h:Inv Pg W lim σ H w) {run:Result Next} {v v':Value} (hr:run=.ok (.value v') w) (b:VRel σ v v'):OM Pg W lim σ dest H w run v H:=
 ⟨.value v',w,σ,v',hr,rfl,b,h,Stp.refl W w,PT.le_refl σ,fun j a=>absurd rfl a,Ng _,fun _=>rfl⟩
theorem OM.made (h:Inv Pg W lim σ H w) (hd:∀d,dest=some d->d<H.length/\σ d=none) {c:List Value} {H':NB} {i:Nat} (hp:place dest (.cells false c) H=(i,H'))
  {cs:Array Value} {el:TypeId} (hc:∀(j:Nat) v,c[j]? = some v->∃v',cs[j]? = some v'/\VRel σ v v'/\v'.oneCell'=true) (hn:c.length<=cs.size)
  {b:World} (a:Inv Pg W lim σ H b) (g:Stp W w b) {run:Result Next} {v v':Value} (hr:run=.ok (.value v') (b.alloc (.cells cs el)))
  (o:VRel (σ.put i ⟨b.heap.size,0,cs.size⟩) v v'):OM Pg W lim σ dest H w run v H':=by
 obtain ⟨hi,p⟩:=a.alloc (el:=el) hp hd hc hn
 obtain ⟨g1,q,l,r,m,k,s⟩:=TR hp fun d e=>(hd d e).1
 refine ⟨_,_,_,v',hr,rfl,o,hi,g.trans (Stp.alloc a.fresh _),PT.le_put p,fun j n=>?_,l,fun f=>?_⟩
 ·by_cases e:j=i
  ·subst e
   cases dest with
   | none=>exact .inr ⟨rfl,by rw [m rfl];exact Ng _⟩
   | some d=>exact .inl (by rw [(k d rfl).1])
  ·simp [PT.put,e] at n
 ·cases dest with
  | none=>exact absurd rfl f
  | some d=>exact (k d rfl).2
theorem Nna {o:Oper} (h:o.op.operands.toList.all PX=true) {x:Operand} (a:x∈o.op.operands):PX x=true:=
 Oi.1 h x (Array.mem_toList_iff.2 a)
theorem Nn0 (place:Nat->Option (Nat×Nat)) (off:Nat):∀(vs:List Value) (k:Nat) (cs:Array Value),(vs.zipIdx k).foldl (fun cs (x:Value×Nat)=>cs.setIfInBounds (off+x.2) x.1) cs=(RF cs.toList (off+k) vs).toArray
 | [],k,cs=>by simp [RF]
 | v::vs,k,cs=>by
   rw [List.zipIdx_cons,Qe,Nn0 place off vs (k+1),RF]
   simp [P4]
theorem Ui (ρ ρ':Operand->Value) (place:Nat->Option (Nat×Nat)) :
  ∀(src:List (Nat×Operand)) (ps:List (Nat×Nat×Operand)) (z c e:List Value),(src.length=ps.length)->
   (∀(j:Nat) s p,src[j]? = some s->ps[j]? = some p->place s.1=some (p.1,p.2.1)/\p.2.2=s.2/\VRel σ (ρ s.2) (ρ' s.2))->
   Sg ρ ps z=some c->OV σ z e->(∀y∈e,y.oneCell'=true)->
   ∃c',Instr.fill place e.toArray (src.map fun x=>(x.1,ρ' x.2))=some c'.toArray/\OV σ c c'/\(∀y∈c',y.oneCell'=true)
 | [],[],z,c,e,_,_,hf,hz,h1=>by
   simp [Sg] at hf;subst hf
   exact ⟨e,by simp [Instr.fill],hz,h1⟩
 | s::src,p::ps,z,c,e,hl,hp,hf,hz,h1=>by
   obtain ⟨off,size,x⟩:=p
   obtain ⟨i,E⟩:=s
   obtain ⟨e1,e2,e3⟩:=hp 0 _ _ rfl rfl
   simp only at e1 e2 e3
   subst e2
   simp only [Sg] at hf
   split at hf
   case isFalse=>cases hf
   rename_i hc
   obtain ⟨q1,q2,q3⟩:=hc
   have g:=e3.cells
   have m:=e3.cells_one q3
   have D:(ρ x).cells.size=size:=by simpa using q1
   have l:(ρ' x).cells.size=size:=by have:=g.1;simp at this;omega
   have C:=hz.1
   have n:∀(vs d:List Value) (o:Nat) (a b:List Value),OV σ vs d->OV σ a b->OV σ (RF a o vs) (RF b o d):=by
    intro vs
    induction vs with
    | nil=>intro d o a b h k;have:d=[]:=by have:=h.1;simpa using this.symm
           subst this;exact k
    | cons v vs ih=>intro d o a b h k
                    cases d with
                    | nil=>have:=h.1;simp at this
                    | cons v' d=>exact ih d _ _ _ h.tail (k.set h.head o)
   have f:∀(vs:List Value) (o:Nat) (b:List Value),(∀y∈vs,y.oneCell'=true)->(∀y∈b,y.oneCell'=true)->∀y∈RF b o vs,y.oneCell'=true:=by
    intro vs
    induction vs with
    | nil=>intro o b _ q;exact q
    | cons v vs ih=>intro o b u q
                    refine ih _ _ (fun y t=>u y (Nh _ t)) fun y t=>?_
                    rcases Rh t with h | h
                    ·exact q y h
                    ·subst h;exact u _ (Nm)
   obtain ⟨c',g1,w,A⟩:=Ui ρ ρ' place src ps _ c (RF e off (ρ' x).cells.toList) (by simpa using hl) (fun j s p B r=>hp (j+1) s p (by simpa using B) (by simpa using r)) hf (n _ _ off _ _ g hz) (f _ off _ m h1)
   refine ⟨c', ?_,w,A⟩
   simp only [Pi,Instr.fill,e1]
   have:¬((ρ' x).cells.size≠size||off+(ρ' x).cells.size > e.toArray.size)=true:=by simp [l];omega
   rw [Nf this]
   rw [<-g1]
   congr 1
   rw [<-Array.foldl_toList]
   simp only [Array.toList_zipIdx]
   rw [Nn0 (fun _=>none) off (ρ' x).cells.toList 0 e.toArray]
   simp
end
section
variable {P:Program} {Pg:Prg} {W:Nat->Prop} {lim:Nat} {σ:PT} {H H':NB} {w:World} {dest:Option Nat} {ρ ρ':Operand->Value} {v:Value}
theorem QL (P:Program) (w:World) (s:Sem Value) {x:Value} {w':World} (h:s.run P w=.ok x w'):(do pure (Next.value (<-s)):Sem Next).run P w=.ok (.value x) w':=by
 simp [h]
theorem Nb6 (P:Program) (w:World) (s:Sem Unit) {w':World} (h:s.run P w=.ok () w'):(do s;pure Next.skip:Sem Next).run P w=.ok .skip w':=by
 simp [h]
theorem Nav (op:BinOp) (t:TypeId) (x y:Operand) (k k':IntKind) (a b:Int):(eqGuard op t x y (.int k a) (.int k' b)).run P w=.ok () w:=by
 cases op<;>simp [eqGuard]
theorem YX (op:BinOp) (t:TypeId) (x y:Operand) (a b:ByteArray):(eqGuard op t x y (.string a) (.string b)).run P w=.ok () w:=by
 cases op<;>simp [eqGuard]
theorem Nmg (op:BinOp) (t:TypeId) (x y:Operand) {a b r:Value} (h:NF op a b=some r):(do eqGuard op t x y a b;binOp op t a b:Sem Value).run P w=.ok r w:=by
 unfold NF at h
 split at h
 ·rename_i k a k' b
  simp only [Sem.run_bind,Nav,Result.andThen_ok]
  split at h
  ·split at h
   ·cases h
   ·rename_i c
    cases h
    simp [binOp,Op.shift,c]
  ·split at h
   ·cases h
   ·rename_i c
    cases h
    simp [binOp,Op.shift,c]
  ·rename_i d e
   split at h
   case isFalse=>cases h
   rename_i f
   subst f
   cases op<;>simp at h<;>first
    | (exact absurd rfl d) | (exact absurd rfl e)
    | (subst h;simp [binOp,Op.intArith,Op.intBits,Op.intCmp];done)
    | (obtain ⟨c,rfl⟩:=h;simp [binOp,Op.intDiv,c];done)
 ·rename_i a b
  simp only [Sem.run_bind,YX,Result.andThen_ok]
  cases op<;>simp at h<;>first
   | (subst h;simp [binOp,Op.stringOp];done)
   | (obtain ⟨c,rfl⟩:=h
      simp [binOp,Op.stringOp]
      exact c)
 ·cases h
theorem Nrt (op:UnOp) {a r:Value} (h:PW op a=some r):(Op.unary op a).run P w=.ok r w:=by
 unfold PW at h
 split at h
 ·cases h;simp [Op.unary]
 ·cases h;simp [Op.unary,Op.intArith]
 ·cases h;simp [Op.unary,Op.intBits]
 ·cases h
theorem QF (op:BinOp) (t:TypeId) (x y:Operand) {a b:Value} (h1:a≠.nilIface) (h2:∀xs,a≠.agg xs) :
  (eqGuard op t x y a b).run P w=.ok () w:=by
 unfold eqGuard
 cases a<;>first | (exact absurd rfl h1) | (exact absurd rfl (h2 _)) | (cases op<;>simp)
theorem Yy {t:TypeId} {b:Bool} (h:QU P t=some b):(isAgg t).run P w=.ok b w:=by
 unfold QU at h
 cases hd:P.underlying t with
 | none=>simp [hd] at h
 | some d=>
   rw [hd] at h
   cases d<;>simp at h<;>subst h<;>simp [isAgg,run_underlying hd]
theorem Tf {t:TypeId} {n:Nat} (h:PU P t=some n):(sizeOf t).run P w=.ok n w:=by
 unfold PU at h
 cases hi:P.info? t with
 | none=>simp [hi] at h
 | some i=>rw [hi] at h;simp at h;subst h;simp [sizeOf,typeInfo,hi]
theorem Nev {t:TypeId} {cs:Array Value} {off:Nat} {x:Value} (h:QU P t=some false) (a:cs[off]? = some x):(part t cs off).run P w=.ok x w:=by
 simp [part,Yy h,a]
theorem Neu {t:TypeId} {cs:Array Value} {off n:Nat} (h:QU P t=some true) (hn:PU P t=some n):(part t cs off).run P w=.ok (.agg (cs.extract off (off+n))) w:=by
 simp [part,Yy h,Tf hn]
theorem extract_toList (cs:Array Value) (off n:Nat):(cs.extract off (off+n)).toList=(cs.toList.drop off).take n:=by
 rw [Array.toList_extract]
 simp [List.extract]
theorem Nae (h:Inv Pg W lim σ H w) {t:TypeId} (b:QU P t=some false) {p:Addr} {L:Loc} (a:σ p.block=some L) {v:Value} (c:loadCell H p=some v) :
  ∃v',(loadVar t ⟨L.blk,L.base+p.off,none⟩).run P w=.ok v' w/\VRel σ v v':=by
 obtain ⟨v',h1,h2,d⟩:=h.loadCell a c
 exact ⟨v',by simp [loadVar,Yy b,h1],h2⟩
theorem Ne5 (h:Inv Pg W lim σ H w) {p:Addr} {L:Loc} (c:σ p.block=some L) {n:Nat} {l:List Value} (e:AM.loadCells H p n=some l) :
  ∃l',(Go.loadCells ⟨L.blk,L.base+p.off,none⟩ n).run P w=.ok l'.toArray w/\OV σ l l'/\l'.length=n/\∀y∈l',y.oneCell'=true:=by
 obtain ⟨l',h1,h2,a,b⟩:=h.loadCells c e
 have:=run_loadCells_list (P:=P) w ⟨L.blk,L.base+p.off,none⟩ l' fun j v d=>by rw [Addr.add_mid];exact b j v d
 rw [h2] at this
 exact ⟨l',this,h1,h2,a⟩
theorem Nad (h:Inv Pg W lim σ H w) {t:TypeId} (c:QU P t=some true) {n:Nat} (hn:PU P t=some n) {p:Addr} {L:Loc} (b:σ p.block=some L) {l:List Value} (d:AM.loadCells H p n=some l) :
  ∃v',(loadVar t ⟨L.blk,L.base+p.off,none⟩).run P w=.ok v' w/\VRel σ (.agg l.toArray) v':=by
 obtain ⟨l',h1,h2,e,a⟩:=Ne5 (P:=P) h b d
 exact ⟨.agg l'.toArray,by simp [loadVar,Yy c,Tf hn,h1],VRel.agg_iff.2 ⟨by simpa using h2,by simpa using a⟩⟩
theorem SN {x a:Value} {m n:Nat} (h:bound x m=some n) (hr:VRel σ x a) (code:BoundsCode):(Instr.sliceBound a m code).run P w=.ok n w:=by
 unfold bound at h
 split at h
 ·rename_i k i
  split at h
  ·rename_i hi
   cases h
   rw [hr.int_left]
   simp [Instr.sliceBound,asIntOf,hi]
  ·cases h
 ·cases h
theorem U8 {v:Value} {a n:Nat} (b:bound v a=some n):n<=a:=by
 unfold bound at b
 split at b
 ·split at b
  ·cases b;omega
  ·cases b
 ·cases b
theorem Xu {v:Value} {a b n:Nat} (d:a<=b) (c:bound v a=some n):bound v b=some n:=by
 unfold bound at c⊢
 split at c
 ·split at c
  ·rename_i hi;cases c
   exact Nk (by omega)
  ·cases c
 ·cases c
theorem U6 {len cap e:Nat} {lo hi mx:Option Operand} {l h m:Nat} (d:bounds ρ len cap lo hi mx=some (l,h,m)) (f:∀x∈lo.toList++hi.toList++mx.toList,VRel σ (ρ x) (ρ' x))
  (hc:cap<=e) (isSlice:Bool):∃g,(Instr.sliceBounds isSlice len e (lo.map ρ') (hi.map ρ') (mx.map ρ')).run P w=.ok (l,h,g) w/\(mx=none->g=e/\m=cap)/\(mx≠none->g=m)/\
   l<=h/\m<=cap/\(hi=none->mx=none/\h=len)/\(hi≠none->h<=m):=by
 unfold bounds at d
 cases mx with
 | none=>
   simp only at d
   cases hi with
   | none=>
     simp only at d
     cases lo with
     | none=>simp at d;obtain ⟨rfl,rfl,rfl⟩:=d;exact ⟨e,by simp [Instr.sliceBounds],fun _=>⟨rfl,rfl⟩,fun h=>absurd rfl h,Nv _,Ng _,fun _=>⟨rfl,rfl⟩,fun h=>absurd rfl h⟩
     | some x=>
       simp only at d
       cases h1:bound (ρ x) len with
       | none=>simp [h1] at d
       | some a=>
         simp [h1] at d;obtain ⟨rfl,rfl,rfl⟩:=d
         exact ⟨e,by simp [Instr.sliceBounds,SN h1 (f x (by simp))],fun _=>⟨rfl,rfl⟩,fun h=>absurd rfl h,U8 h1,Ng _,fun _=>⟨rfl,rfl⟩,fun h=>absurd rfl h⟩
   | some y=>
     simp only at d
     cases h2:bound (ρ y) cap with
     | none=>simp [h2] at d
     | some b=>
       simp only [h2] at d
       cases lo with
       | none=>
         simp at d;obtain ⟨rfl,rfl,rfl⟩:=d
         exact ⟨e,by simp [Instr.sliceBounds,SN (Xu hc h2) (f y (by simp))],fun _=>⟨rfl,rfl⟩,fun h=>absurd rfl h,Nv _,Ng _,fun h=>by simp at h,fun _=>U8 h2⟩
       | some x=>
         simp only at d
         cases h1:bound (ρ x) b with
         | none=>simp [h1] at d
         | some a=>
           simp [h1] at d;obtain ⟨rfl,rfl,rfl⟩:=d
           exact ⟨e,by simp [Instr.sliceBounds,SN (Xu hc h2) (f y (by simp)),SN h1 (f x (by simp))],fun _=>⟨rfl,rfl⟩,fun h=>absurd rfl h,U8 h1,Ng _,fun h=>by simp at h,fun _=>U8 h2⟩
 | some z=>
   simp only at d
   cases h3:bound (ρ z) cap with
   | none=>simp [h3] at d
   | some c=>
     simp only [h3] at d
     cases hi with
     | none=>simp at d
     | some y=>
       simp only at d
       cases h2:bound (ρ y) c with
       | none=>simp [h2] at d
       | some b=>
         simp only [h2] at d
         cases lo with
         | none=>
           simp at d;obtain ⟨rfl,rfl,rfl⟩:=d
           exact ⟨c,by simp [Instr.sliceBounds,SN (Xu hc h3) (f z (by simp)),SN h2 (f y (by simp))],fun h=>by simp at h,fun _=>rfl,Nv _,U8 h3,fun h=>by simp at h,fun _=>U8 h2⟩
         | some x=>
           simp only at d
           cases h1:bound (ρ x) b with
           | none=>simp [h1] at d
           | some a=>
             simp [h1] at d;obtain ⟨rfl,rfl,rfl⟩:=d
             exact ⟨c,by simp [Instr.sliceBounds,SN (Xu hc h3) (f z (by simp)),SN h2 (f y (by simp)),SN h1 (f x (by simp))],fun h=>by simp at h,fun _=>rfl,U8 h1,U8 h3,fun h=>by simp at h,fun _=>U8 h2⟩
end
end Go.AM


namespace Go.AM
theorem VN:∀{l:List KK} {a c:List Value} {r:Bool},PR l a c=some r->a.length=l.length/\c.length=l.length
 | [],[],[],_,_=>⟨rfl,rfl⟩
 | _::l,_::a,_::c,r,h=>by
   simp only [PR] at h
   split at h
   ·rename_i h2
    have:=VN h2
    simp [this.1,this.2]
   ·cases h
 | [],_::_,_,_,h=>by simp [PR] at h
 | [],[],_::_,_,h=>by simp [PR] at h
 | _::_,[],_,_,h=>by simp [PR] at h
 | _::_,_::_,[],_,h=>by simp [PR] at h
theorem VO:∀{l m:List KK} {a c:List Value} {r:Bool},PR (l++m) a c=some r->
  ∃b d,PR l (a.take l.length) (c.take l.length)=some b/\PR m (a.drop l.length) (c.drop l.length)=some d/\r=(b&&d)
 | [],m,a,c,r,h=>⟨true,r,by simp [PR],by simpa using h,by simp⟩
 | k::l,m,x::a,y::c,r,h=>by
   simp only [Oc,PR] at h
   split at h
   ·rename_i p q h1 h2
    cases h
    obtain ⟨b,d,g1,e,rfl⟩:=VO h2
    exact ⟨p&&b,d,by simp [PR,h1,g1],by simpa using e,by rw [Bool.and_assoc]⟩
   ·cases h
 | k::l,m,[],c,r,h=>by simp [PR] at h
 | k::l,m,_::_,[],r,h=>by simp [PR] at h
theorem Yh {k:KK} {a c:List Value} {r:Bool} (h:PR [k] a c=some r):∃x y,a=[x]/\c=[y]/\U5 k x y=some r:=by
 match a,c,h with
 | [x],[y],h=>
   refine ⟨x,y,rfl,rfl, ?_⟩
   simp only [PR] at h
   split at h
   ·rename_i h1 h2
    cases h2
    cases h
    simpa using h1
   ·cases h
 | [],_,h=>simp [PR] at h
 | [_],[],h=>simp [PR] at h
 | [_],_::_::_,h=>simp [PR] at h
 | _::_::_,[],h=>simp [PR] at h
 | _::_::_,[_],h=>simp [PR] at h
 | _::_::_,_::_::_,h=>simp [PR] at h
section
variable {P:Program} (w:World)
theorem Ni1 {t:TypeId} {k:KK} (h:TH P t=some k):(∃l,k=.ints l)\/(P.underlying t=some .bool/\k=.bool)\/(P.underlying t=some .string/\k=.str)\/∃q,P.underlying t=some (.int q)/\k=.int q:=by
 unfold TH at h
 cases hu:P.underlying t with
 | none=>simp [hu] at h
 | some d=>
   rw [hu] at h
   have wide:(match OZ P 20 t with | some l=>(TI l).map KK.ints | none=>none)=some k->∃l,k=.ints l:=fun h=>by
    split at h
    ·simp only [Nd] at h
     obtain ⟨a,_,rfl⟩:=h
     exact ⟨a,rfl⟩
    ·cases h
   cases d
   case bool=>simp at h;exact .inr (.inl ⟨rfl,h.symm⟩)
   case string=>simp at h;exact .inr (.inr (.inl ⟨rfl,h.symm⟩))
   case int q=>simp at h;exact .inr (.inr (.inr ⟨q,rfl,h.symm⟩))
   case struct fs=>exact .inl (wide h)
   case array n e=>exact .inl (wide h)
   all_goals (simp at h;done)
theorem Nkh (d:Nat) (t:TypeId) {k:KK} {x y:Value} {r:Bool} (h:U5 k x y=some r) (c:TH P t=some k):(Op.equalIn (d+1) t x y).run P w=.ok r w:=by
 rcases Ni1 c with ⟨l,rfl⟩ | ⟨a,rfl⟩ | ⟨a,rfl⟩ | ⟨q,a,rfl⟩
 ·cases x<;>cases y<;>simp [U5] at h
 ·cases x<;>cases y<;>simp [U5] at h
  subst h
  exact run_equalIn_bool w d t _ _ a
 ·cases x<;>cases y<;>simp [U5] at h
  subst h
  exact run_equalIn_string w d t _ _ a
 ·cases x<;>cases y<;>simp only [U5] at h<;>try (cases h;done)
  split at h
  ·rename_i b
   cases h
   obtain ⟨rfl,rfl⟩:=b
   exact run_equalIn_int w d t _ _ _ _ a
  ·cases h
def Nzq (P:Program) (w:World) (d:Nat) (t:TypeId) (l:List KK):Prop:=
 ∀(x y:Value) (r:Bool),(QU P t=some true->(∃xs,x=.agg xs)/\∃ys,y=.agg ys)->(QU P t=some false->x.cells=#[x]/\y.cells=#[y])->
  PR l x.cells.toList y.cells.toList=some r->(Op.equalIn d t x y).run P w=.ok r w
theorem V3 (t:TypeId) {b:Bool} (a:QU P t=some b) {n:Nat} (hn:PU P t=some n) (cs:Array Value) (off:Nat) (c:off+n<=cs.size) (h1:b=false->n=1) :
  ∃v,(part t cs off).run P w=.ok v w/\(QU P t=some true->∃xs,v=.agg xs)/\(b=false->cs[off]? = some v)/\(b=true->v.cells.toList=(cs.toList.drop off).take n):=by
 cases b with
 | true=>exact ⟨_,Neu a hn,fun _=>⟨_,rfl⟩,(fun h=>by cases h),fun _=>extract_toList cs off n⟩
 | false=>
   have:=h1 rfl
   subst this
   exact ⟨cs[off]'(by omega),Nev a (Ol (by omega)),(fun h=>by rw [a] at h;cases h),fun _=>Ol (by omega),(fun h=>by cases h)⟩
theorem Nhm {d:Nat} {t:TypeId} {l:List KK} (p:Nzq P w d t l) {b:Bool} (g:QU P t=some b) (hn:PU P t=some l.length) (h1:b=false->l.length=1) (xs ys:Array Value) (off:Nat)
  {r:Bool} (h:PR l ((xs.toList.drop off).take l.length) ((ys.toList.drop off).take l.length)=some r) (A:off+l.length<=xs.size) (B:off+l.length<=ys.size) :
  ∃a c,(part t xs off).run P w=.ok a w/\(part t ys off).run P w=.ok c w/\(Op.equalIn d t a c).run P w=.ok r w:=by
 obtain ⟨a,q,s,m,a4⟩:=V3 w t g hn xs off A h1
 obtain ⟨c,u,v,n,c4⟩:=V3 w t g hn ys off B h1
 refine ⟨a,c,q,u,p a c r (fun h=>⟨s h,v h⟩) (fun o=>?_) ?_⟩
 ·rw [g] at o;cases o
  have hl:=h1 rfl
  rw [hl] at h
  have one:∀{f:Array Value} {z:Value},f[off]? = some z->(f.toList.drop off).take 1=[z]:=fun {f z} j=>by
   have:=(Array.getElem?_eq_some_iff.1 j)
   obtain ⟨h1,h2⟩:=this
   rw [Pk (by simpa using h1)]
   simp [h2]
  rw [one (m rfl),one (n rfl)] at h
  have i:∃k,l=[k]:=by
   match l,hl with
   | [k],_=>exact ⟨k,rfl⟩
  obtain ⟨k,rfl⟩:=i
  obtain ⟨x,y,e1,e2,e3⟩:=Yh h
  simp only [List.cons.injEq,and_true] at e1 e2
  subst e1 e2
  unfold U5 at e3
  split at e3<;>first | exact ⟨rfl,rfl⟩ | (cases e3;done)
 ·cases b with
  | true=>rw [a4 rfl,c4 rfl];exact h
  | false=>
    have hl:=h1 rfl
    rw [hl] at h
    have one:∀{f:Array Value} {z:Value},f[off]? = some z->(f.toList.drop off).take 1=[z]:=fun {f z} j=>by
     obtain ⟨h1,h2⟩:=(Array.getElem?_eq_some_iff.1 j)
     rw [Pk (by simpa using h1)]
     simp [h2]
    rw [one (m rfl),one (n rfl)] at h
    have i:∃k,l=[k]:=by
     match l,hl with
     | [k],_=>exact ⟨k,rfl⟩
    obtain ⟨k,rfl⟩:=i
    obtain ⟨x,y,e1,e2,e3⟩:=Yh h
    simp only [List.cons.injEq,and_true] at e1 e2
    subst e1 e2
    have e:a.cells=#[a]/\c.cells=#[c]:=by
     unfold U5 at e3
     split at e3<;>first | exact ⟨rfl,rfl⟩ | (cases e3;done)
    rw [e.1,e.2]
    exact h
theorem Nag {d:Nat} {e:TypeId} {l:List KK} (j:Nzq P w d e l) {b:Bool} (k:QU P e=some b) (hn:PU P e=some l.length) (h1:b=false->l.length=1) (xs ys:Array Value) :
  ∀(m s:Nat) (r:Bool),PR (List.replicate m l).flatten (xs.toList.drop (s*l.length)) (ys.toList.drop (s*l.length))=some r->
   (Op.eqItems d e l.length xs ys (List.range' s m)).run P w=.ok r w
 | 0,s,r,h=>by
   simp only [List.replicate_zero,List.flatten_nil] at h
   have:r=true:=by
    generalize xs.toList.drop (s*l.length)=u at h
    generalize ys.toList.drop (s*l.length)=v at h
    cases u<;>cases v<;>simp [PR] at h
    exact h
   subst this
   simp [Op.eqItems]
 | m+1,s,r,h=>by
   simp only [O9,List.flatten_cons] at h
   have f:=VN h
   simp only [Nb,Ps,Array.length_toList] at f
   obtain ⟨t,x,g1,n,rfl⟩:=VO h
   have o:xs.size>=s*l.length\/l.length=0:=by
    by_cases g:l.length=0
    ·exact .inr g
    ·left;omega
   have i:ys.size>=s*l.length\/l.length=0:=by
    by_cases g:l.length=0
    ·exact .inr g
    ·left;omega
   have p:s*l.length+l.length<=xs.size:=by
    rcases o with h | h
    ·omega
    ·rw [h];omega
   have q:s*l.length+l.length<=ys.size:=by
    rcases i with h | h
    ·omega
    ·rw [h];omega
   obtain ⟨a,c,p1,p2,p3⟩:=Nhm w j k hn h1 xs ys (s*l.length) g1 p q
   have ih:=Nag j k hn h1 xs ys m (s+1) x (by
    rw [show (s+1)*l.length=s*l.length+l.length by rw [Qg];omega,<-List.drop_drop,<-List.drop_drop];exact n)
   rw [List.range'_succ]
   simp only [Op.eqItems,Sem.run_bind,p1,p2,p3,Result.andThen_ok]
   cases t
   ·simp
   ·simpa using ih
theorem ZQ (n d:Nat) (IH:∀t l,OZ P n t=some l->Nzq P w d t l) (xs ys:Array Value) :
  ∀(fs:List Field) (off:Nat) (l:List KK) (r:Bool),Y3 P (OZ P n) fs off=some l->PR l (xs.toList.drop off) (ys.toList.drop off)=some r->(l≠[]->off<=xs.size/\off<=ys.size)->
   (Op.eqFields d xs ys fs).run P w=.ok r w
 | [],off,l,r,hl,h,_=>by
   simp [Y3] at hl;subst hl
   have:r=true:=by
    generalize xs.toList.drop off=u at h
    generalize ys.toList.drop off=v at h
    cases u<;>cases v<;>simp [PR] at h
    exact h
   subst this
   simp [Op.eqFields]
 | f::fs,off,l,r,hl,h,ho=>by
   simp only [Y3] at hl
   split at hl
   ·cases hl
   rename_i hf
   split at hl
   case h_2=>cases hl
   rename_i l1 hl1
   split at hl
   case isFalse=>cases hl
   rename_i hc
   simp only [Nd] at hl
   obtain ⟨l2,hl2,rfl⟩:=hl
   obtain ⟨hc,hne⟩:=hc
   have hname:f.name≠ "_":=fun e=>hf (.inl e)
   have hoff:f.offset=off:=Oq fun e=>hf (.inr e)
   have hlen:=VN h
   simp only [Nb,Ps,Array.length_toList] at hlen
   obtain ⟨r1,r2,g1,g2,rfl⟩:=VO h
   have hu:∃dsc,P.underlying f.type=some dsc:=by
    cases hd:P.underlying f.type with
    | some x=>exact ⟨x,rfl⟩
    | none=>cases n<;>simp [OZ,hd] at hl1
   obtain ⟨dsc,hu⟩:=hu
   obtain ⟨i,hi⟩:=info_of_underlying hu
   have hsz:PU P f.type=some l1.length:=by
    rw [hc];simp [PU,Program.cellsOf,hi]
   have hagg:∃b,QU P f.type=some b/\(b=false->l1.length=1):=by
    cases n with
    | zero=>simp [OZ] at hl1
    | succ n=>
      unfold OZ at hl1
      unfold QU
      rw [hu] at hl1⊢
      cases dsc<;>simp at hl1<;>first
       | (subst hl1;exact ⟨false,rfl,fun _=>rfl⟩)
       | exact ⟨true,rfl,fun h=>by cases h⟩
   obtain ⟨b,hb,hb1⟩:=hagg
   have hx:off+l1.length<=xs.size/\off+l1.length<=ys.size:=by
    have:=ho (fun e=>hne (by rw [(List.append_eq_nil_iff.1 e).1];rfl));omega
   obtain ⟨a,c,p1,p2,p3⟩:=Nhm w (IH _ _ hl1) hb hsz hb1 xs ys off g1 hx.1 hx.2
   have ih:=ZQ n d IH xs ys fs (off+l1.length) l2 r2 hl2 (by rw [<-List.drop_drop,<-List.drop_drop];exact g2) (fun _=>hx)
   simp only [Op.eqFields,hname,ne_eq,not_false_eq_true,if_true,Sem.run_bind,hoff,p1,p2,p3,Result.andThen_ok]
   cases r1
   ·simp
   ·simpa using ih
theorem Vy:∀(n:Nat) (t:TypeId) (l:List KK),OZ P n t=some l->∀d,Nzq P w (d+n) t l
 | 0,t,l,h,_=>by simp [OZ] at h
 | n+1,t,l,h,d=>by
   intro x y r m p hr
   unfold OZ at h
   have cell:∀k,TH P t=some k->l=[k]->QU P t=some false->(Op.equalIn (d+(n+1)) t x y).run P w=.ok r w:=by
    intro k B hl A
    subst hl
    obtain ⟨h1,h2⟩:=p A
    rw [h1,h2] at hr
    obtain ⟨a,c,e1,e2,e3⟩:=Yh hr
    simp at e1 e2
    subst e1 e2
    exact Nkh w (d+n) t e3 B
   split at h
   ·rename_i g;cases h
    exact cell .bool (by simp [TH,g]) rfl (by simp [QU,g])
   ·rename_i k g;cases h
    exact cell (.int k) (by simp [TH,g]) rfl (by simp [QU,g])
   ·rename_i g;cases h
    exact cell .str (by simp [TH,g]) rfl (by simp [QU,g])
   ·rename_i len e g
    split at h
    case h_2=>cases h
    rename_i l1 f
    split at h
    case isFalse=>cases h
    rename_i hc
    cases h
    obtain ⟨⟨xs,rfl⟩,⟨ys,rfl⟩⟩:=m (by simp [QU,g])
    have j:∃o,P.underlying e=some o:=by
     cases hd:P.underlying e with
     | some x=>exact ⟨x,rfl⟩
     | none=>cases n<;>simp [OZ,hd] at f
    obtain ⟨o,j⟩:=j
    obtain ⟨i,hi⟩:=info_of_underlying j
    have z:PU P e=some l1.length:=by
     rw [hc];simp [PU,Program.cellsOf,hi]
    have s:∃b,QU P e=some b/\(b=false->l1.length=1):=by
     cases n with
     | zero=>simp [OZ] at f
     | succ n=>
       unfold OZ at f
       unfold QU
       rw [j] at f⊢
       cases o<;>simp at f<;>first
        | (subst f;exact ⟨false,rfl,fun _=>rfl⟩)
        | exact ⟨true,rfl,fun h=>by cases h⟩
    obtain ⟨b,s,u⟩:=s
    rw [show d+(n+1)=(d+n)+1 from rfl,run_equalIn_array w (d+n) xs ys g hi,<-hc,List.range_eq_range']
    exact Nag w (Vy n e l1 f d) s z u xs ys len 0 r (by simpa [Value.cells] using hr)
   ·rename_i fs g
    split at h
    ·cases h
    rename_i v
    obtain ⟨⟨xs,rfl⟩,⟨ys,rfl⟩⟩:=m (by simp [QU,g])
    have q:P.fieldsOf t=fs:=by simp [Program.fieldsOf,g]
    rw [show d+(n+1)=(d+n)+1 from rfl,run_equalIn_struct w (d+n) t xs ys (by rw [q];exact g) (by simpa using v),q]
    exact ZQ w n (d+n) (fun t l hl=>Vy n t l hl d) xs ys fs.toList 0 l r h (by simpa [Value.cells] using hr) (fun _=>⟨Nv _,Nv _⟩)
   ·cases h
theorem run_eqGuard_agg (op:BinOp) (t:TypeId) (x y:Operand) (xs ys:Array Value) (h:P.eqGuardType P.depth t=false):(eqGuard op t x y (.agg xs) (.agg ys)).run P w=.ok () w:=by
 cases op<;>simp [eqGuard,h]
theorem Nv8 (d:Nat) (t e:TypeId) (q:Option Addr) (h:P.underlying t=some (.pointer e)):(Op.equalIn (d+1) t (.pointer none) (.pointer q)).run P w=.ok q.isNone w:=by simp [Op.equalIn,run_underlying h]
theorem Nv7 (d:Nat) (t e:TypeId) (q:Addr) (h:P.underlying t=some (.pointer e)):(Op.equalIn (d+1) t (.pointer (some q)) (.pointer none)).run P w=.ok false w:=by simp [Op.equalIn,run_underlying h]
theorem Nyu (d:Nat) (t e:TypeId) (q:Option Addr) (a b c f:Nat) (h:P.underlying t=some (.slice e)):(Op.equalIn (d+1) t (.slice none a b) (.slice q c f)).run P w=.ok q.isNone w:=by simp [Op.equalIn,run_underlying h]
theorem Nyt (d:Nat) (t e:TypeId) (q:Addr) (a b c f:Nat) (h:P.underlying t=some (.slice e)):(Op.equalIn (d+1) t (.slice (some q) a b) (.slice none c f)).run P w=.ok false w:=by simp [Op.equalIn,run_underlying h]
theorem Nwa (d:Nat) (t e f:TypeId) (q:Option Nat) (h:P.underlying t=some (.map e f)):(Op.equalIn (d+1) t (.map none) (.map q)).run P w=.ok q.isNone w:=by simp [Op.equalIn,run_underlying h]
theorem Nv9 (d:Nat) (t e f:TypeId) (q:Nat) (h:P.underlying t=some (.map e f)):(Op.equalIn (d+1) t (.map (some q)) (.map none)).run P w=.ok false w:=by simp [Op.equalIn,run_underlying h]
theorem Nyx (d:Nat) (t:TypeId) {e f:Array TypeId} {g:Bool} (h:P.underlying t=some (.func e f g)):(Op.equalIn (d+1) t .nilFunc .nilFunc).run P w=.ok true w:=by simp [Op.equalIn,run_underlying h]
theorem Nyw (d:Nat) (t:TypeId) {e f:Array TypeId} {g:Bool} (q:Fn) (i j:Array Value) (h:P.underlying t=some (.func e f g)):(Op.equalIn (d+1) t .nilFunc (.func q i j)).run P w=.ok false w:=by simp [Op.equalIn,run_underlying h]
theorem Nyv (d:Nat) (t:TypeId) {e f:Array TypeId} {g:Bool} (q:Fn) (i j:Array Value) (h:P.underlying t=some (.func e f g)):(Op.equalIn (d+1) t (.func q i j) .nilFunc).run P w=.ok false w:=by simp [Op.equalIn,run_underlying h]
theorem Nrx {σ:PT} (neg:Bool) {k:EqKind} {t:TypeId} (s:Ul P t=some k) (x y:Operand) {a b a' b':Value} (A:VRel σ a a') (u:VRel σ b b') {r:Bool} (h:aEq k a b=some r) :
  (do eqGuard (if neg then .neq else .eql) t x y a' b';binOp (if neg then .neq else .eql) t a' b':Sem Value).run P w=.ok (.bool (if neg then !r else r)) w:=by
 have fin:(eqGuard (if neg then .neq else .eql) t x y a' b').run P w=.ok () w->(Op.equal t a' b').run P w=.ok r w->
   (∀(op:BinOp),op=.eql\/op=.neq->binOp op t a' b'=(if op=.eql then (do pure (.bool (<-Op.equal t a' b'))) else (do pure (.bool (!(<-Op.equal t a' b'))))))->
   (do eqGuard (if neg then .neq else .eql) t x y a' b';binOp (if neg then .neq else .eql) t a' b':Sem Value).run P w=.ok (.bool (if neg then !r else r)) w:=by
  intro h1 h2 J
  cases neg
  ·simp only [Oe,if_false] at h1⊢
   rw [Sem.run_bind,h1,J .eql (.inl rfl)];simp [h2]
  ·simp only [if_true] at h1⊢
   rw [Sem.run_bind,h1,J .neq (.inr rfl)];simp [h2]
 unfold aEq at h
 split at h
 ·
  cases h
  rw [A.bool_left,u.bool_left] at *
  have o:P.underlying t=some .bool:=by unfold Ul at s;split at s<;>simp_all
  exact fin (QF _ _ _ _ (by simp) (by simp)) (run_equalIn_bool w 9999 t _ _ o) (by rintro op (rfl | rfl)<;>simp [binOp])
 ·cases h
  rename_i q
  rw [A.nilptr_left] at *
  have o:∃e,P.underlying t=some (.pointer e):=by unfold Ul at s;split at s<;>simp_all
  obtain ⟨e,o⟩:=o
  have v:∃z,b'=.pointer z/\z.isNone=q.isNone:=by
   cases u with
   | atom u=>exact ⟨_,rfl,rfl⟩
   | ptr u=>exact ⟨_,rfl,rfl⟩
  obtain ⟨z,rfl,C⟩:=v
  refine fin (QF _ _ _ _ (by simp) (by simp)) ?_ (by rintro op (rfl | rfl)<;>cases z<;>simp [binOp])
  rw [<-C]
  exact Nv8 w 9999 t _ _ o
 ·cases h
  obtain ⟨L,h1,h2,rfl⟩:=A.ptr_left
  rw [u.nilptr_left] at *
  have o:∃e,P.underlying t=some (.pointer e):=by unfold Ul at s;split at s<;>simp_all
  obtain ⟨e,o⟩:=o
  refine fin (QF _ _ _ _ (by simp) (by simp)) ?_ (by rintro op (rfl | rfl)<;>simp [binOp])
  exact Nv7 w 9999 t _ _ o
 ·cases h
  rename_i n c q m cc
  obtain ⟨rfl,rfl,rfl⟩:=A.nilslice_left
  have o:∃e,P.underlying t=some (.slice e):=by unfold Ul at s;split at s<;>simp_all
  obtain ⟨e,o⟩:=o
  have v:∃z D c',b'=.slice z D c'/\z.isNone=q.isNone:=by
   cases u<;>exact ⟨_,_,_,rfl,rfl⟩
  obtain ⟨z,D,c',rfl,C⟩:=v
  refine fin (QF _ _ _ _ (by simp) (by simp)) ?_ (by rintro op (rfl | rfl)<;>simp [binOp])
  rw [<-C]
  exact Nyu w 9999 t _ _ _ _ _ _ o
 ·cases h
  rename_i q n c m cc
  obtain ⟨rfl,rfl,rfl⟩:=u.nilslice_left
  have o:∃e,P.underlying t=some (.slice e):=by unfold Ul at s;split at s<;>simp_all
  obtain ⟨e,o⟩:=o
  have B:∃z D c',a'=.slice (some z) D c':=by
   obtain ⟨_,L,_,h | ⟨_,_,_,_,_,h⟩ | ⟨_,_,_,h⟩⟩:=A.slice_left
   ·exact ⟨_,_,_,h.2⟩
   ·exact ⟨_,_,_,h⟩
   ·exact ⟨_,_,_,h⟩
  obtain ⟨z,D,c',rfl⟩:=B
  refine fin (QF _ _ _ _ (by simp) (by simp)) ?_ (by rintro op (rfl | rfl)<;>simp [binOp])
  exact Nyt w 9999 t _ _ _ _ _ _ o
 ·cases h
  rename_i q
  rw [A.nilmap_left] at *
  have o:∃e f,P.underlying t=some (.map e f):=by unfold Ul at s;split at s<;>simp_all
  obtain ⟨e,f,o⟩:=o
  have v:∃z,b'=.map z/\z.isNone=q.isNone:=by
   cases u with
   | atom u=>exact ⟨_,rfl,rfl⟩
   | map u=>exact ⟨_,rfl,rfl⟩
  obtain ⟨z,rfl,C⟩:=v
  refine fin (QF _ _ _ _ (by simp) (by simp)) ?_ (by rintro op (rfl | rfl)<;>simp [binOp])
  rw [<-C]
  exact Nwa w 9999 t _ _ _ o
 ·cases h
  obtain ⟨L,h1,rfl⟩:=A.map_left
  rw [u.nilmap_left] at *
  have o:∃e f,P.underlying t=some (.map e f):=by unfold Ul at s;split at s<;>simp_all
  obtain ⟨e,f,o⟩:=o
  refine fin (QF _ _ _ _ (by simp) (by simp)) ?_ (by rintro op (rfl | rfl)<;>simp [binOp])
  exact Nv9 w 9999 t _ _ _ o
 ·cases h
  rw [A.nilfunc_left,u.nilfunc_left] at *
  have o:∃e f g,P.underlying t=some (.func e f g):=by unfold Ul at s;split at s<;>simp_all
  obtain ⟨e,f,g,o⟩:=o
  refine fin (QF _ _ _ _ (by simp) (by simp)) ?_ (by rintro op (rfl | rfl)<;>simp [binOp])
  exact Nyx w 9999 t o
 ·cases h
  rw [A.nilfunc_left] at *
  have o:∃e f g,P.underlying t=some (.func e f g):=by unfold Ul at s;split at s<;>simp_all
  obtain ⟨e,f,g,o⟩:=o
  have v:∃q i j,b'=.func q i j:=by cases u<;>exact ⟨_,_,_,rfl⟩
  obtain ⟨q,i,j,rfl⟩:=v
  refine fin (QF _ _ _ _ (by simp) (by simp)) ?_ (by rintro op (rfl | rfl)<;>simp [binOp])
  exact Nyw w 9999 t _ _ _ o
 ·cases h
  rw [u.nilfunc_left] at *
  have o:∃e f g,P.underlying t=some (.func e f g):=by unfold Ul at s;split at s<;>simp_all
  obtain ⟨e,f,g,o⟩:=o
  have B:∃q i j,a'=.func q i j:=by cases A<;>exact ⟨_,_,_,rfl⟩
  obtain ⟨q,i,j,rfl⟩:=B
  refine fin (QF _ _ _ _ (by simp) (by simp)) ?_ (by rintro op (rfl | rfl)<;>simp [binOp])
  exact Nyv w 9999 t _ _ _ o
 ·rename_i l xs ys
  obtain ⟨E,rfl,H,_⟩:=A.agg_left
  obtain ⟨F,rfl,I,_⟩:=u.agg_left
  have G:P.eqGuardType P.depth t=false/\OZ P 20 t=some l/\QU P t=some true:=by
   unfold Ul at s
   split at s<;>simp_all [QU]
  have same:∀{l:List KK} {a b c d:List Value} {r:Bool},OV σ a c->OV σ b d->PR l a b=some r->PR l c d=some r:=by
   intro l
   induction l with
   | nil=>
     intro a b c d r h1 h2 h
     cases a<;>cases b<;>simp [PR] at h
     have:=h1.1;have:=h2.1
     cases c<;>cases d<;>simp_all [PR]
   | cons k l ih=>
     intro a b c d r h1 h2 h
     cases a with
     | nil=>simp [PR] at h
     | cons x a=>
       cases b with
       | nil=>simp [PR] at h
       | cons y b=>
         cases c with
         | nil=>have:=h1.1;simp at this
         | cons K c=>
           cases d with
           | nil=>have:=h2.1;simp at this
           | cons M d=>
             simp only [PR] at h⊢
             have hx:U5 k x y=U5 k K M\/U5 k x y=none:=by
              cases k<;>cases hxx:x<;>cases hyy:y<;>first
               | (right;rfl)
               | (left;subst hxx hyy;first | rw [h1.head.int_left,h2.head.int_left] | rw [h1.head.bool_left,h2.head.bool_left] | rw [h1.head.string_left,h2.head.string_left])
             split at h
             ·rename_i p q e1 e2
              cases h
              rcases hx with hx | hx
              ·rw [<-hx,e1,ih h1.tail h2.tail e2]
              ·rw [hx] at e1;cases e1
             ·cases h
  refine fin (run_eqGuard_agg w _ t x y E F G.1) ?_ (by rintro op (rfl | rfl)<;>simp [binOp])
  exact Vy w 20 t l G.2.1 9980 (.agg E) (.agg F) r (fun _=>⟨⟨_,rfl⟩,⟨_,rfl⟩⟩) (fun h=>by rw [G.2.2] at h;cases h) (same H I h)
 ·cases h
end
end Go.AM


namespace Go.AM
open Go.MapKept
section
variable {P:Program} {pureF:FuncId->Bool} {Pg:Prg} {W:Nat->Prop} {lim:Nat} {σ:PT} {H H':NB} {w:World} {dest:Option Nat} {ρ ρ':Operand->Value} {v:Value}
theorem V9 {t:TypeId} {z:List Value} (h:zeroOf P t=some z):∃i a,P.info? t=some i/\i.zero=some a/\z=a.cells.toList/\(∀x∈z,atom x=true/\x.oneCell'=true):=by
 unfold zeroOf at h
 split at h
 ·rename_i i hi
  split at h
  ·rename_i a d
   split at h
   ·rename_i b
    cases h
    refine ⟨i,a,hi,d,rfl,fun x c=>?_⟩
    have:=Oi.1 b x c
    simpa using this
   ·cases h
  ·cases h
 ·cases h
theorem Mq {t:TypeId} {n:Nat} (h:PU P t=some n):∃i,P.info? t=some i/\i.size=n:=by
 simpa [PU] using h
theorem Nc9 {t:TypeId} {n:Nat} (h:WV P t=some n):∃i,P.info? t=some i/\i.bytes=n:=by
 simpa [WV] using h
theorem Njw (a:Inv Pg W lim σ H w) (hd:∀d,dest=some d->d<H.length/\σ d=none) {e:TypeId} {z:List Value} (l:zeroOf P e=some z)
  (f:NJ lim dest (.alloc z) ρ H=some (v,H')) (o:Oper) (ho:o.op=.alloc e):OM Pg W lim σ dest H w ((execOp ρ' o).run P w) v H':=by
 obtain ⟨i,h,hi,g,rfl,b⟩:=V9 l
 simp only [NJ] at f
 cases hp:place dest (.cells false h.cells.toList) H with
 | mk k K=>
 rw [hp] at f
 cases f
 refine OM.made a hd hp (cs:=h.cells) (el:=e) (fun j x c=>⟨x,by simpa using c,.atom (b x (Ok c)).1,(b x (Ok c)).2⟩) (by simp) a (Stp.refl _ _)
  (v':=.pointer (some ⟨w.heap.size,0,none⟩)) ?_ (by simpa using VRel.ptr (σ:=σ.put k ⟨w.heap.size,0,h.cells.size⟩) (i:=k) (k:=0) PT.put_same)
 simp [execOp,ho,Instr.alloc,zeroValue,typeInfo,hi,g,newVar,newRow]
theorem Nrj (a:Inv Pg W lim σ H w) (hd:∀d,dest=some d->d<H.length/\σ d=none) {e:TypeId} {x:Operand} (c:VRel σ (ρ x) (ρ' x))
  (b:NJ lim dest (.box x) ρ H=some (v,H')) (o:Oper) (ho:o.op=.box e x):OM Pg W lim σ dest H w ((execOp ρ' o).run P w) v H':=by
 simp only [NJ] at b
 split at b
 case isFalse=>cases b
 rename_i h
 cases hp:place dest (.cells false (ρ x).cells.toList) H with
 | mk k K=>
 rw [hp] at b
 cases b
 refine OM.made a hd hp (cs:=(ρ' x).cells) (el:=e) (fun j y g=>?_) (by have:=c.cells.1;simp at this;simp;omega) a (Stp.refl _ _)
  (v':=.pointer (some ⟨w.heap.size,0,none⟩)) ?_ (by simpa using VRel.ptr (σ:=σ.put k ⟨w.heap.size,0,(ρ' x).cells.size⟩) (i:=k) (k:=0) PT.put_same)
 ·obtain ⟨f,h1,h2⟩:=c.cells.get g
  exact ⟨f,by simpa using h1,h2,c.cells_one h f (Ok h1)⟩
 ·simp [execOp,ho,Instr.box,newVar,newRow]
theorem Nac (P:Program) (w:World):∀(fs:List Field),(fs.all fun f=>(P.info? f.type).isSome)=true->
  (fs.mapM fun f=>(do pure (f.offset,<-sizeOf f.type):Sem (Nat×Nat))).run P w=.ok (fs.map fun f=>(f.offset,P.cellsOf f.type)) w
 | [],_=>rfl
 | f::fs,h=>by
   simp only [List.all_cons,N9] at h
   obtain ⟨i,hi⟩:=Option.isSome_iff_exists.1 h.1
   have ih:=Nac P w fs h.2
   have h1:(do pure (f.offset,<-sizeOf f.type):Sem (Nat×Nat)).run P w=.ok (f.offset,P.cellsOf f.type) w:=by simp [sizeOf,typeInfo,hi,Program.cellsOf]
   rw [List.mapM_cons,Sem.run_bind,h1]
   simp only [Result.andThen_ok,Sem.run_bind,ih,Sem.run_pure,Pi]
theorem Nbi {z:List Value} (h:∀x∈z,atom x=true/\x.oneCell'=true):OV σ z z:=OV.refl_of fun x a=>.atom (h x a).1
theorem Nb7 (P:Program) (w:World) (fs:Array Field) (h:(fs.toList.all fun f=>(P.info? f.type).isSome)=true) :
  (fs.mapM fun f=>(do pure (f.offset,<-sizeOf f.type):Sem (Nat×Nat))).run P w=.ok (fs.map fun f=>(f.offset,P.cellsOf f.type)) w:=by
 rw [Array.mapM_eq_mapM_toList]
 rw [Sem.run_map,Nac P w fs.toList h]
 simp only [Result.andThen_ok]
 congr 1
 apply Array.ext'
 simp
theorem Zq (m:Inv Pg W lim σ H w) {t:TypeId} {fs:Array Field} (L:P.underlying t=some (.struct fs)) {z:List Value} (G:zeroOf P t=some z) {parts:Array (Nat×Operand)} {ps:List (Nat×Nat×Operand)}
  (b:parts.toList.mapM (Nj5 P fs)=some ps) (g:(fs.toList.all fun f=>(P.info? f.type).isSome)=true) (N:∀x,PX x=true->VRel σ (ρ x) (ρ' x))
  (F:NJ lim dest (.build z ps) ρ H=some (v,H')) (o:Oper) (ho:o.op=.build t parts):OM Pg W lim σ dest H w ((execOp ρ' o).run P w) v H':=by
 obtain ⟨i,r,hi,E,rfl,k⟩:=V9 G
 simp only [NJ,Nd,Prod.mk.injEq] at F
 obtain ⟨c,hc,rfl,rfl⟩:=F
 have key:parts.toList.length=ps.length/\∀(j:Nat) s p,parts.toList[j]? = some s->ps[j]? = some p->((fs.map fun f=>(f.offset,P.cellsOf f.type))[s.1]? = some (p.1,p.2.1))/\p.2.2=s.2/\VRel σ (ρ s.2) (ρ' s.2):=by
  generalize parts.toList=l at b
  clear hc ho G
  induction l generalizing ps with
  | nil=>simp at b;subst b;exact ⟨rfl,fun j s p h=>by simp at h⟩
  | cons a l ih=>
    rw [List.mapM_cons] at b
    simp only [bind,Option.bind_eq_some_iff,pure,Option.some.injEq] at b
    obtain ⟨q,d,Q,C,rfl⟩:=b
    obtain ⟨g1,I⟩:=ih C
    refine ⟨by simp [g1],fun j s p D hp=>?_⟩
    cases j with
    | zero=>
      simp at D hp;subst D hp
      simp only [Nj5,bind,Option.bind_eq_some_iff] at d
      obtain ⟨f,K,n,hn,d⟩:=d
      split at d
      case isFalse=>cases d
      rename_i B
      cases d
      obtain ⟨O,u,A⟩:=Mq hn
      refine ⟨by simp [K,Program.cellsOf,u,A],rfl,N _ B⟩
    | succ j=>exact I j s p (by simpa using D) (by simpa using hp)
 obtain ⟨c',h1,h2,J⟩:=Ui (σ:=σ) ρ ρ' (fun j=>(fs.map fun f=>(f.offset,P.cellsOf f.type))[j]?) parts.toList ps r.cells.toList c r.cells.toList key.1 key.2 hc (Nbi k) (fun y M=>(k y M).2)
 refine OM.plain m (v':=.agg c'.toArray) ?_ (VRel.agg_iff.2 ⟨by simpa using h2,by simpa using J⟩)
 simp only [execOp,ho]
 refine QL P w _ ?_
 simp only [Instr.build,Sem.run_bind,zeroValue,typeInfo,run_program,Result.andThen_ok,hi,E,Sem.run_pure,run_underlying L,Nb7 P w fs g]
 have e:((parts.map fun x=>(x.1,ρ' x.2)).toList)=parts.toList.map fun x=>(x.1,ρ' x.2):=by simp
 rw [e]
 have e2:(r.cells.toList).toArray=r.cells:=by simp
 rw [e2] at h1
 rw [h1]
 simp
theorem ZT (d:Inv Pg W lim σ H w) {t e:TypeId} {n:Nat} (r:P.underlying t=some (.array n e)) {z:List Value} (A:zeroOf P t=some z) {s:Nat} (q:PU P e=some s) {parts:Array (Nat×Operand)}
  (g:∀x∈parts.toList,VRel σ (ρ x.2) (ρ' x.2))
  (l:NJ lim dest (.build z (parts.toList.map fun x=>(x.1*s,s,x.2))) ρ H=some (v,H')) (o:Oper) (ho:o.op=.build t parts):OM Pg W lim σ dest H w ((execOp ρ' o).run P w) v H':=by
 obtain ⟨i,f,hi,h,rfl,b⟩:=V9 A
 simp only [NJ,Nd,Prod.mk.injEq] at l
 obtain ⟨c,hc,rfl,rfl⟩:=l
 obtain ⟨c',h1,h2,m⟩:=Ui (σ:=σ) ρ ρ' (fun j=>some (j*s,s)) parts.toList _ f.cells.toList c f.cells.toList (by simp) (fun j a p k hp=>by
  rw [Pw,k] at hp
  simp at hp;subst hp
  exact ⟨rfl,rfl,g a (Ok k)⟩) hc (Nbi b) (fun y u=>(b y u).2)
 refine OM.plain d (v':=.agg c'.toArray) ?_ (VRel.agg_iff.2 ⟨by simpa using h2,by simpa using m⟩)
 simp only [execOp,ho]
 refine QL P w _ ?_
 simp only [Instr.build,Sem.run_bind,zeroValue,typeInfo,run_program,Result.andThen_ok,hi,h,Sem.run_pure,run_underlying r,Tf q]
 have e:((parts.map fun x=>(x.1,ρ' x.2)).toList)=parts.toList.map fun x=>(x.1,ρ' x.2):=by simp
 rw [e]
 have e2:(f.cells.toList).toArray=f.cells:=by simp
 rw [e2] at h1
 rw [h1]
 simp
theorem MK (g:Inv Pg W lim σ H w) (hd:∀d,dest=some d->d<H.length/\σ d=none) {t e:TypeId} {len:Nat} (O:P.underlying t=some (.slice e)) {z:List Value} (U:zeroOf P e=some z) {s:Nat} (N:PU P e=some s)
  (G:z.length=s) (F:s≠0) (M:len*s<=2 ^ 20) {parts:Array (Nat×Operand)} (E:∀x∈parts.toList,VRel σ (ρ x.2) (ρ' x.2))
  (q:NJ lim dest (.buildSlice len ((List.range (len*s)).map fun j=>z.getD (j % z.length) undef) (parts.toList.map fun x=>(x.1*s,s,x.2))) ρ H=some (v,H')) (o:Oper) (ho:o.op=.buildSlice t len parts) :
  OM Pg W lim σ dest H w ((execOp ρ' o).run P w) v H':=by
 obtain ⟨i,b,hi,I,rfl,C⟩:=V9 U
 simp only [NJ] at q
 split at q
 case h_2=>cases q
 rename_i c hc
 have r:∀j,atom (b.cells.toList.getD (j % b.cells.toList.length) undef)=true/\(b.cells.toList.getD (j % b.cells.toList.length) undef).oneCell'=true:=fun j=>by
  have l:j % b.cells.toList.length<b.cells.toList.length:=Re _ (by omega)
  rw [Nc,Np l]
  exact C _ (Rm l)
 have A:∀x∈((List.range (len*s)).map fun j=>b.cells.toList.getD (j % b.cells.toList.length) undef),atom x=true/\x.oneCell'=true:=fun x q=>by
  obtain ⟨j,_,rfl⟩:=List.mem_map.1 q
  exact r j
 obtain ⟨c',h1,h2,S⟩:=Ui (σ:=σ) ρ ρ' (fun j=>some (j*s,s)) parts.toList _ _ c _ (by simp) (fun j a p L hp=>by
  rw [Pw,L] at hp
  simp at hp;subst hp
  exact ⟨rfl,rfl,E a (Ok L)⟩) hc (Nbi A) (fun y T=>(A y T).2)
 cases hp:place dest (.cells false c) H with
 | mk k K=>
 rw [hp] at q
 cases q
 refine OM.made g hd hp (cs:=c'.toArray) (el:=e) (fun j y l=>?_) (by have:=h2.1;simp;omega) g (Stp.refl _ _)
  (v':=.slice (some ⟨w.heap.size,0,none⟩) len len) ?_ ?_
 ·obtain ⟨Q,g1,R⟩:=h2.get l
  exact ⟨Q,by simpa using g1,R,S Q (Ok g1)⟩
 ·simp only [execOp,ho]
  refine QL P w _ ?_
  have u:¬(len*s > 2 ^ 24):=by omega
  have e:((parts.map fun x=>(x.1,ρ' x.2)).toList)=parts.toList.map fun x=>(x.1,ρ' x.2):=by simp
  have e3:∀m,(Array.map (fun x=>b.cells[x % b.cells.size]!) (Array.range m))=((List.range m).map fun j=>b.cells.toList.getD (j % b.cells.toList.length) undef).toArray:=fun m=>by
   apply Array.ext'
   simp only [Array.toList_map,Array.toList_range,Array.length_toList]
   refine P6 fun j _=>?_
   have l:j % b.cells.size<b.cells.size:=Re _ (by simp at G;omega)
   rw [Nc,Array.getElem?_toList,Ol l]
   simp [l]
  by_cases J:len*s=0
  ·have D:len=0:=by
    rcases Nat.mul_eq_zero.1 J with h | h
    ·exact h
    ·exact absurd h F
   subst D
   simp only [Instr.buildSlice,Sem.run_bind,run_underlying O,Result.andThen_ok,Tf N,Q0,e]
   simp only [Q0,List.range_zero,List.map_nil] at h1
   have:¬(0 > 2 ^ 24):=by omega
   have e0:∀f:Nat->Value,Array.map f (Array.range 0)=#[]:=fun f=>by apply Array.ext';simp
   simp [e0,h1,newRow]
  ·simp only [Instr.buildSlice,Sem.run_bind,run_underlying O,Result.andThen_ok,Tf N,Nf u,Nf J,e,zeroValue,typeInfo,run_program,hi,I,Sem.run_pure,e3,h1]
   simp [newRow]
 ·have B:len<2 ^ 62:=by
   have:len*1<=len*s:=Nat.mul_le_mul_left _ (by omega)
   omega
  simpa using VRel.slice (σ:=σ.put k ⟨w.heap.size,0,c'.toArray.size⟩) (i:=k) (k:=0) (n:=len) PT.put_same B
end
section
variable {P:Program} {Pg:Prg} {W:Nat->Prop} {lim:Nat} {σ:PT} {H H':NB} {w:World} {dest:Option Nat} {ρ ρ':Operand->Value} {v:Value}
theorem U9 (a:Addr) (n:Nat) (c:a.spot=none):a.add n=⟨a.block,a.off+n,none⟩:=by
 obtain ⟨b,o,s⟩:=a
 simp only at c;subst c
 unfold Addr.add
 split
 ·rename_i h;subst h;rfl
 ·rfl
theorem VRel.ptr_add {a:Addr} {L:Loc} (b:σ a.block=some L) (c:a.spot=none) (n:Nat) :
  VRel σ (.pointer (some (a.add n))) (.pointer (some ((⟨L.blk,L.base+a.off,none⟩:Addr).add n))):=by
 rw [U9 a n c,U9 _ n rfl]
 have:=VRel.ptr (σ:=σ) (i:=a.block) (k:=a.off+n) b
 rw [<-P4] at this
 exact this
theorem Nhv {s f:Nat} {fs:Array Field} {fd:Field} {n:Nat} (d:P.underlying s=some (.struct fs)) (c:fs[f]? = some fd) (hn:PU P fd.type=some n) (b:n≠0) (a:Addr) :
  (Instr.fieldAt s (.pointer (some a)) f).run P w=.ok (.pointer (some (a.add fd.offset))) w:=by
 simp [Instr.fieldAt,run_underlying d,c,Instr.sureAddr,fieldPlace,Tf hn,b]
theorem YW {t e:TypeId} {s:Nat} (c:P.underlying t=some (.slice e)) (b:PU P e=some s) (a:Addr) (len cap:Nat) (k:IntKind) (n:Int) (h:0<=n/\n<(len:Int)) :
  (Instr.indexAt t (.slice (some a) len cap) (.int k n)).run P w=.ok (.pointer (some (a.add (n.toNat*s)))) w:=by
 simp [Instr.indexAt,asIntOf,run_underlying c,Tf b,h]
theorem WL {t e:TypeId} {s len:Nat} (b:P.underlying t=some (.array len e)) (a:PU P e=some s) (cs:Array Value) (k:IntKind) (n:Int) (h:0<=n/\n<(len:Int)) :
  (Instr.index t (.agg cs) (.int k n)).run P w=(part e cs (n.toNat*s)).run P w:=by
 simp [Instr.index,asIntOf,run_underlying b,Tf a,h]
theorem Z9 {t:TypeId} (e:P.underlying t=some .string) (s:ByteArray) (k:IntKind) (n:Int) {b:UInt8} (c:0<=n) (h:s.data.toList[n.toNat]? = some b) :
  (Instr.index t (.string s) (.int k n)).run P w=.ok (.int .u8 b.toNat) w:=by
 have h':s[n.toNat]? = some b:=by
  obtain ⟨hl,d⟩:=List.getElem?_eq_some_iff.1 h
  have a:n.toNat<s.size:=by simpa using hl
  show (if h:n.toNat<s.size then some s[n.toNat] else none)=some b
  rw [Rz a,<-d]
  rfl
 simp [Instr.index,asIntOf,run_underlying e,c,h']
theorem Nf2 {t e:TypeId} {s:Nat} (R:P.underlying t=some (.slice e)) (Q:PU P e=some s) {x O:Value} (N:VRel σ x O) {lo hi mx:Option Operand}
  (F:∀y∈lo.toList++hi.toList++mx.toList,VRel σ (ρ y) (ρ' y)) (h:Uj s ρ x lo hi mx=some v) :
  ∃v',(Instr.sliceAt t O (lo.map ρ') (hi.map ρ') (mx.map ρ')).run P w=.ok v' w/\VRel σ v v':=by
 unfold Uj at h
 split at h
 case h_2=>cases h
 rename_i a len cap
 have run:∀(a':Option Addr) (j g l h' b:Nat),(Instr.sliceBounds true j g (lo.map ρ') (hi.map ρ') (mx.map ρ')).run P w=.ok (l,h',b) w->
   (Instr.sliceAt t (.slice a' j g) (lo.map ρ') (hi.map ρ') (mx.map ρ')).run P w=.ok (.slice (if b=l then a' else a'.map (·.add (l*s))) (h'-l) (b-l)) w:=by
  intro a' j g l h' b p
  simp [Instr.sliceAt,Instr.slice,run_underlying R,p,Tf Q]
 cases a with
 | none=>
   obtain ⟨rfl,rfl,rfl⟩:=N.nilslice_left
   have H:¬(0=loose s):=by unfold loose;omega
   rw [Nf H,Nk (by omega)] at h
   split at h
   ·cases h
   ·rename_i l h' m p
    cases h
    obtain ⟨b,q,f,r,r4,G,A,r7⟩:=U6 (P:=P) (w:=w) p F (Ng _) true
    have C:b=m:=by
     by_cases e:mx=none
     ·rw [(f e).1,(f e).2]
     ·exact r e
    subst C
    have E:l=0/\h'=0/\b=0:=by
     by_cases e:hi=none
     ·have:=A e;omega
     ·have:=r7 e;omega
    obtain ⟨rfl,rfl,rfl⟩:=E
    exact ⟨_,run _ _ _ _ _ _ q,by simpa using VRel.atom rfl⟩
 | some a=>
   obtain ⟨d,L,o,hc⟩:=N.slice_left
   split at h
   ·
    rename_i u
    split at h
    ·cases h
    rename_i l h' m p
    rcases hc with ⟨B,_⟩ | ⟨e',he,c',hn,hr,rfl⟩ | ⟨a',he,hn,rfl⟩
    ·rw [u] at B;unfold loose at B;omega
    ·have J:e'=s:=by rw [u] at he;unfold loose at he;omega
     subst J
     obtain ⟨b,q,f,r,r4,G,A,r7⟩:=U6 (P:=P) (w:=w) p F hn true
     have S:h'<=len:=by
      by_cases e:hi=none
      ·have:=A e;omega
      ·have:=r7 e;omega
     refine ⟨_,run _ _ _ _ _ _ q, ?_⟩
     cases mx with
     | none=>
       simp only at h;cases h
       obtain ⟨e1,e2⟩:=f rfl
       subst e1
       by_cases D:b=l
       ·rw [Nk D]
        have:h'-l=0:=by omega
        rw [this,D,Q2]
        simp only [Nz]
        rw [U9 a _ d]
        exact .eslice o (.inr ⟨_,rfl⟩)
       ·rw [Nf D]
        simp only [Nz]
        rw [U9 a _ d,U9 _ _ rfl]
        have key:a.off+l*e'+(b-l)*e'<=L.room:=by
         have:l*e'+(b-l)*e'=b*e':=by rw [<-Qg];congr 1;omega
         omega
        have:=VRel.lslice (σ:=σ) (i:=a.block) (k:=a.off+l*e') (n:=h'-l) (e:=e') (c:=b-l) o (by omega) key
        rw [<-P4] at this
        exact this
     | some z=>
       simp only at h
       split at h
       case isFalse=>cases h
       rename_i M
       cases h
       have K:=r (by simp)
       subst K
       split
       ·exact VRel.slice' d o (by omega)
       ·simp only [Nz]
        rw [U9 a _ d,U9 _ _ rfl]
        have:=VRel.slice (σ:=σ) (i:=a.block) (k:=a.off+l*e') (n:=h'-l) (c:=b-l) o (by omega)
        rw [<-P4] at this
        exact this
    ·subst hn
     obtain ⟨b,q,f,r,r4,G,A,r7⟩:=U6 (P:=P) (w:=w) p F (Ng _) true
     have C:b=m:=by
      by_cases e:mx=none
      ·rw [(f e).1,(f e).2]
      ·exact r e
     subst C
     have E:l=0/\h'=0/\b=0:=by
      by_cases e:hi=none
      ·have:=A e;omega
      ·have:=r7 e;omega
     obtain ⟨rfl,rfl,rfl⟩:=E
     refine ⟨_,run _ _ _ _ _ _ q, ?_⟩
     cases mx with
     | none=>
       simp only at h;cases h
       simp only [Nz,if_true,Q2]
       rw [U9 a _ d]
       exact .eslice o (.inr ⟨_,rfl⟩)
     | some z=>
       simp at h;subst h
       exact VRel.eslice' d o (.inl rfl)
   ·split at h
    case isFalse=>cases h
    rename_i B
    split at h
    ·cases h
    rename_i l h' m p
    cases h
    rcases hc with ⟨_,rfl⟩ | ⟨e',he,_⟩ | ⟨a',he,hn,rfl⟩
    ·obtain ⟨b,q,f,r,r4,G,A,r7⟩:=U6 (P:=P) (w:=w) p F (Ng _) true
     have C:b=m:=by
      by_cases e:mx=none
      ·rw [(f e).1,(f e).2]
      ·exact r e
     subst C
     refine ⟨_,run _ _ _ _ _ _ q, ?_⟩
     split
     ·exact VRel.slice' d o (by omega)
     ·simp only [Nz]
      rw [U9 a _ d,U9 _ _ rfl]
      have:=VRel.slice (σ:=σ) (i:=a.block) (k:=a.off+l*s) (n:=h'-l) (c:=b-l) o (by omega)
      rw [<-P4] at this
      exact this
    ·exact absurd he (by unfold loose at *;omega)
    ·subst hn
     have I:cap=0:=by
      rcases he with h | ⟨e,h⟩
      ·exact h
      ·exact absurd h (by unfold loose at *;omega)
     subst I
     obtain ⟨b,q,f,r,r4,G,A,r7⟩:=U6 (P:=P) (w:=w) p F (Ng _) true
     have C:b=m:=by
      by_cases e:mx=none
      ·rw [(f e).1,(f e).2]
      ·exact r e
     subst C
     have E:l=0/\h'=0/\b=0:=by
      by_cases e:hi=none
      ·have:=A e;omega
      ·have:=r7 e;omega
     obtain ⟨rfl,rfl,rfl⟩:=E
     refine ⟨_,run _ _ _ _ _ _ q, ?_⟩
     simp only [if_true,Q2]
     exact VRel.eslice' d o (.inl rfl)
end
section
variable {P:Program} {Pg:Prg} {W:Nat->Prop} {lim:Nat} {σ:PT} {H H':NB} {w:World} {dest:Option Nat} {v:Value}
theorem No0 (q:Inv Pg W lim σ H w) {t:TypeId} {esz m:Nat} {str:Bool} (f:if str then P.underlying t=some .string/\esz=1 else ∃v,P.underlying t=some (.slice v)) {x r:Value} (z:VRel σ x r)
  {new:List Value} (hn:firstCells H esz str x=some new) (o:lenOf x=some m) :
  ∃news,Src P esz t r m news w/\OV σ new news/\(∀y∈news,y.oneCell'=true)/\new.length=m*esz:=by
 unfold firstCells at hn
 split at hn
 ·rename_i n c
  obtain ⟨rfl,rfl,rfl⟩:=z.nilslice_left
  simp [lenOf] at o;subst o
  split at hn
  ·cases hn
  ·rename_i l
   cases hn
   simp at l
   rw [l] at f
   obtain ⟨v,g⟩:=f
   exact ⟨[],Src.ofNil w g 0,OV.nil,fun y i=>by simp at i,by simp⟩
 ·rename_i a n c
  simp [lenOf] at o;subst o
  split at hn
  ·cases hn
  ·rename_i l
   simp at l
   rw [l] at f
   obtain ⟨v,g⟩:=f
   obtain ⟨E,L,D,hc⟩:=z.slice_left
   have k:∀c',r=.slice (some ⟨L.blk,L.base+a.off,none⟩) n c'->∃news,Src P esz t r n news w/\OV σ new news/\(∀y∈news,y.oneCell'=true)/\new.length=n*esz:=by
    intro c' d
    by_cases p:n=0
    ·subst p
     rw [Nk rfl] at hn;cases hn
     subst d
     exact ⟨[],Src.ofSlice w g _ 0 c' [] (by simp) (fun j u h=>by simp at h) (fun u h=>by simp at h),OV.nil,fun y i=>by simp at i,by simp⟩
    rw [Nf p] at hn
    obtain ⟨l',h1,h2,A,C⟩:=q.loadCells D hn
    subst d
    refine ⟨l',Src.ofSlice w g _ n c' l' h2 (fun j u h=>by rw [Addr.add_mid];exact C j u h) A,h1,A,by rw [h1.1,h2]⟩
   rcases hc with ⟨_,d⟩ | ⟨e,_,c',_,_,d⟩ | ⟨a',_,B,d⟩
   ·exact k _ d
   ·exact k _ d
   ·subst B d
    rw [Nk rfl] at hn;cases hn
    exact ⟨[],Src.ofSlice w g _ 0 0 [] (by simp) (fun j u h=>by simp at h) (fun u h=>by simp at h),OV.nil,fun y i=>by simp at i,by simp⟩
 ·rename_i s
  simp [lenOf] at o;subst o
  split at hn
  case isFalse=>cases hn
  rename_i l
  cases hn
  rw [Nk l] at f
  obtain ⟨f,rfl⟩:=f
  rw [z.string_left]
  refine ⟨byteCells s,Src.ofString w f s,OV.refl_of fun y i=>?_,fun y i=>?_,by simp⟩
  ·obtain ⟨b,_,rfl⟩:=List.mem_map.1 i;exact .atom rfl
  ·obtain ⟨b,_,rfl⟩:=List.mem_map.1 i;rfl
 ·cases hn
theorem ZX (f:Inv Pg W lim σ H w) (hd:∀d,dest=some d->d<H.length/\σ d=none) {st xt ty e:TypeId} (U:P.underlying st=some (.slice e)) {esz bytes:Nat} {str:Bool}
  (bk:if str then P.underlying xt=some .string/\esz=1 else ∃e',P.underlying xt=some (.slice e')) (a6:PU P e=some esz) (a5:WV P e=some bytes) {z:List Value} (hz:zeroOf P e=some z) (bl:z.length=esz)
  {s s' x x':Value} (hs:VRel σ s s') (hx:VRel σ x x') (h:OW lim dest esz bytes str s x H=some (v,H')) {run:Result Next}
  (G:run=((Builtin.append_ #[st,xt] ty #[s',x']).run P w).andThen fun v w'=>.ok (.value v) w'):OM Pg W lim σ dest H w run v H':=by
 obtain ⟨i,hi,ba⟩:=Mq a6
 obtain ⟨i2,am,a8⟩:=Nc9 a5
 rw [hi] at am;cases am
 obtain ⟨i3,zv,an,bo,bp,bq⟩:=V9 hz
 rw [hi] at an;cases an
 have bm:zv.cells.size=esz:=by rw [<-bl,bp];simp
 subst ba a8
 unfold OW at h
 split at h
 case h_2=>cases h
 rename_i base n cap new m aq hm
 obtain ⟨news,I,g,F,R⟩:=No0 f bk hx aq hm
 split at h
 ·cases h
 rename_i D
 have br:i.size≠0:=fun e=>D (.inl e)
 have a1:¬(n+m)*i.bytes > PM:=fun e=>D (.inr (.inl e))
 have bt:¬n+m>=2 ^ 62:=fun e=>D (.inr (.inr (.inl e)))
 have bu:¬cap<n:=fun e=>D (.inr (.inr (.inr e)))
 have V:(n+m)*i.bytes<=140737488355328:=by unfold PM at a1;omega
 split at h
 ·rename_i ap
  subst ap
  have be:news=[]:=by have:=g.1;simp at R;subst R;simpa using this.symm
  subst be
  cases h
  have fin:∀b' A c',s'=.slice b' A c'->A<=c'->OM Pg W lim σ dest H w run (.slice base n cap) H:=fun b' A c' b bb=>by
   refine OM.plain f (v':=s') ?_ hs
   subst b
   rw [G,run_append_nothing w st xt ty e i U hi b' A c' bb x' I]
   rfl
  cases base with
  | none=>obtain ⟨_,_,b⟩:=hs.nilslice_left;exact fin _ _ _ b (Ng _)
  | some a=>
    obtain ⟨_,L,Y,⟨_,b⟩ | ⟨_,_,c',hn,_,b⟩ | ⟨_,_,_,b⟩⟩:=hs.slice_left
    ·exact fin _ _ _ b (by omega)
    ·exact fin _ _ _ b hn
    ·exact fin _ _ _ b (Ng _)
 rename_i ap
 have bc:0<m:=by omega
 have grow:∀(H0:NB) (C:Option Addr) (A c':Nat) (q olds:List Value) (k:Nat) (K:NB),Inv Pg W lim σ H0 w->H0.length=H.length->s'=.slice C A c'->A=n->OV σ q olds->(∀y∈olds,y.oneCell'=true)->q.length=n*i.size->
   (Builtin.firstCells i.size A (.slice C A c')).run P w.drew=.ok olds.toArray w.drew->c'<n+m->place dest (.cells false (q++new)) H0=(k,K)->
   OM Pg W lim σ dest H w run (.slice (some ⟨k,0,none⟩) (n+m) (loose i.size)) K:=by
  intro H0 C A c' q olds k K hI O b bd ay S E r Q hp
  subst b bd
  have hg:=run_append_grow_src w st xt ty e i zv U hi bo C A c' olds r x' m news I Q (by omega) (growslice_fits Q V)
  have ak:=grownCap_ge w (A+m) c' e
  have ai:∀d,dest=some d->d<H0.length/\σ d=none:=fun d e=>by rw [O];exact hd d e
  have ae:(((olds++news).toArray++Builtin.zeroCells zv.cells (grownCap w (A+m) c' e-(A+m))).size)=grownCap w (A+m) c' e*i.size:=by
   simp only [Array.size_append,size_zeroCells,bm,List.size_toArray,Nb,<-ay.1,<-g.1,E,R]
   rw [<-Qg,<-Qg];congr 1;omega
  obtain ⟨q1,q2⟩:=hI.drew.alloc (lim:=lim) (el:=e) hp ai (cs:=(olds++news).toArray++Builtin.zeroCells zv.cells (grownCap w (A+m) c' e-(A+m))) (fun j y N=>by
   obtain ⟨y',h1,h2⟩:=(ay.append g).get N
   refine ⟨y', ?_,h2, ?_⟩
   ·rw [Array.getElem?_append_left (by have:=(List.getElem?_eq_some_iff.1 h1).1;simpa using this)]
    simpa using h1
   ·rcases Nw.1 (Ok h1) with h | h
    ·exact S _ h
    ·exact F _ h) (by rw [ae];simp only [Nb,E,R,<-Qg];exact Pj _ ak)
  obtain ⟨g1,g2,g3,g4,g5,g6,g7⟩:=TR hp fun d e=>(ai d e).1
  refine ⟨_,_,_,_,by rw [G,hg];rfl,rfl, ?_,q1,Stp.drew.trans (Stp.alloc hI.drew.fresh _),PT.le_put q2,fun j N=>?_,by omega,fun Z=>?_⟩
  ·have ac:0+grownCap w (A+m) c' e*i.size<=((olds++news).toArray++Builtin.zeroCells zv.cells (grownCap w (A+m) c' e-(A+m))).size:=by omega
   have:=VRel.lslice (σ:=σ.put k ⟨w.drew.heap.size,0,_⟩) (i:=k) (k:=0) (n:=A+m) (e:=i.size) (c:=grownCap w (A+m) c' e) PT.put_same ak ac
   simpa [P4] using this
  ·by_cases e:j=k
   ·subst e
    cases dest with
    | none=>exact .inr ⟨rfl,by rw [g5 rfl,O];exact Ng _⟩
    | some d=>exact .inl (by rw [(g6 d rfl).1])
   ·simp [PT.put,e] at N
  ·cases dest with
   | none=>exact absurd rfl Z
   | some d=>rw [(g6 d rfl).2,O]
 cases base with
 | none=>
   simp only at h
   split at h
   case isFalse=>cases h
   rename_i h0
   obtain ⟨rfl,rfl⟩:=h0
   obtain ⟨_,_,b⟩:=hs.nilslice_left
   cases hp:place dest (.cells false new) H with
   | mk k K=>
   rw [hp] at h
   cases h
   have:=grow H none 0 0 [] [] k K f rfl b rfl OV.nil (fun y hy=>by simp at hy) (by simp) (run_firstCells_none w.drew i.size 0 0 0) (by omega) (by simpa using hp)
   simpa using this
 | some a=>
   simp only at h
   split at h
   ·cases h
   rename_i q o
   obtain ⟨a0,L,Y,hc⟩:=hs.slice_left
   have E:q.length=n*i.size:=by
    unfold AM.loadCells at o
    split at o
    ·split at o
     ·cases o;simp;omega
     ·cases o
    ·cases o
   obtain ⟨olds,aa,bg,au,bh⟩:=f.loadCells Y o
   have r:∀c',(Builtin.firstCells i.size n (.slice (some ⟨L.blk,L.base+a.off,none⟩) n c')).run P w.drew=.ok olds.toArray w.drew:=fun c'=>
    run_firstCells_some w.drew i.size n _ n c' olds bg fun j u U=>by rw [Addr.add_mid];simpa using bh j u U
   have empty:n=0->q=[]:=fun h0=>by subst h0;simpa using E
   split at h
   ·
    rename_i J
    split at h
    case h_2=>cases h
    rename_i cb hb
    split at h
    case isFalse=>cases h
    rename_i ao
    cases hp:place dest (.cells false (q++new)) (H.set a.block .dead) with
    | mk k K=>
    rw [hp] at h
    cases h
    rcases hc with ⟨Q,_⟩ | ⟨e',he,c',hn,hr,b⟩ | ⟨a',he,hn,b⟩
    ·rw [J] at Q;unfold loose at Q;omega
    ·have aj:e'=i.size:=by rw [J] at he;unfold loose at he;omega
     subst aj
     by_cases l:n+m<=c'
     ·
      have ac:a.off+q.length+new.length<=L.room:=by
       rw [E,R,P4,<-Qg]
       have:(n+m)*i.size<=c'*i.size:=Pj _ l
       omega
      obtain ⟨w',q1,q2,q3,q4⟩:=f.appendRoom (P:=P) hb Y ao (by rw [E];exact o) g F ac hp hd
      obtain ⟨cs,el,fz,hh,a2,ho⟩:=f.cells hb Y
      obtain ⟨av,aw,T⟩:=ho rfl
      have t:∀j,j<news.length->(w.cell? ⟨L.blk,L.base+a.off+n*i.size+j,none⟩).isSome=true:=fun j N=>by
       rw [cell_of_heap hh (Ol (by have:=g.1;omega))];rfl
      have M:∀j,j<news.length->w.frozen? ⟨L.blk,L.base+a.off+n*i.size+j,none⟩=false:=fun j N=>by
       simp only [World.frozen?,hh]
       have:=T.ok (L.base+a.off+n*i.size+j) (by have:=g.1;omega)
       obtain ⟨f1,f2⟩:=fz
       simp at this⊢
       exact this
      have ad:=run_append_room_src w st xt ty e i U hi L.blk (L.base+a.off) n c' x' m news I l t M
      have B:=run_storeCells_cells (P:=P) L.blk (L.base+a.off+n*i.size) news 0 w (by simpa using t) (by simpa using M) F
      rw [E] at q1
      rw [Oj] at B
      have ag:w'=w.setCells L.blk (L.base+a.off+n*i.size) news:=by
       have:=q1.symm.trans B
       simpa using this
      obtain ⟨g1,g2,g3,g4,g5,g6,g7⟩:=TR hp fun d e=>by simpa using (hd d e).1
      subst b
      refine ⟨_,w',_,_,by rw [G,ad,ag];rfl,rfl, ?_,q2,q3,PT.le_put q4,fun j N=>?_,by simpa using g3,fun Z=>?_⟩
      ·have az:0+c'*i.size<=L.room-a.off:=by omega
       have:=VRel.lslice (σ:=σ.put k ⟨L.blk,L.base+a.off,L.room-a.off⟩) (i:=k) (k:=0) (n:=n+m) (e:=i.size) (c:=c') PT.put_same l az
       simpa using this
      ·by_cases e:j=k
       ·subst e
        cases dest with
        | none=>exact .inr ⟨rfl,by rw [g5 rfl];simp⟩
        | some d=>exact .inl (by rw [(g6 d rfl).1])
       ·simp [PT.put,e] at N
      ·cases dest with
       | none=>exact absurd rfl Z
       | some d=>rw [(g6 d rfl).2];simp
     ·exact grow (H.set a.block .dead) _ n c' q olds k K (f.killAny _) (by simp) b rfl aa au E (r c') (by omega) hp
    ·subst hn
     have:=empty rfl
     subst this
     have bf:olds=[]:=by have:=aa.1;simpa using this.symm
     subst bf
     exact grow (H.set a.block .dead) (some a') 0 0 [] [] k K (f.killAny _) (by simp) b rfl OV.nil (fun y hy=>by simp at hy) (by simp) (run_firstCells_some w.drew i.size 0 _ 0 0 [] (by simp) (fun j u U=>by simp at U)) (by omega) hp
   ·split at h
    case isFalse=>cases h
    rename_i J ah
    split at h
    ·
     rename_i l
     split at h
     case h_2=>cases h
     rename_i H2 B
     cases h
     rcases hc with ⟨_,b⟩ | ⟨e',he,_⟩ | ⟨a',he,hn,b⟩
     ·rw [U9 a _ a0] at B
      obtain ⟨w',q1,q2,q3,q4⟩:=f.store (P:=P) (p:=⟨a.block,a.off+n*i.size,none⟩) Y B g F
      unfold storeAt at B
      split at B
      case h_2=>cases B
      rename_i cb hb
      split at B
      case isFalse=>cases B
      rename_i a3
      obtain ⟨cs,el,fz,hh,a2,ho⟩:=f.cells hb Y
      obtain ⟨av,aw,T⟩:=ho rfl
      simp only at a3
      have t:∀j,j<news.length->(w.cell? ⟨L.blk,L.base+a.off+n*i.size+j,none⟩).isSome=true:=fun j N=>by
       rw [cell_of_heap hh (Ol (by have:=g.1;omega))];rfl
      have M:∀j,j<news.length->w.frozen? ⟨L.blk,L.base+a.off+n*i.size+j,none⟩=false:=fun j N=>by
       simp only [World.frozen?,hh]
       have:=T.ok (L.base+a.off+n*i.size+j) (by have:=g.1;omega)
       obtain ⟨f1,f2⟩:=fz
       simp at this⊢
       exact this
      have ad:=run_append_room_src w st xt ty e i U hi L.blk (L.base+a.off) n cap x' m news I l t M
      have X:=run_storeCells_cells (P:=P) L.blk (L.base+a.off+n*i.size) news 0 w (by simpa using t) (by simpa using M) F
      rw [Oj] at X
      rw [show L.base+(a.off+n*i.size)=L.base+a.off+n*i.size by omega] at q1
      have ag:w'=w.setCells L.blk (L.base+a.off+n*i.size) news:=by
       have:=q1.symm.trans X
       simpa using this
      subst b
      exact ⟨_,w',σ,_,by rw [G,ad,ag];rfl,rfl,VRel.slice' a0 Y ah,q2,q3,PT.le_refl σ,fun j N=>absurd rfl N,by omega,fun _=>q4⟩
     ·exact absurd he (by unfold loose at *;omega)
     ·exact absurd he (by unfold loose at *;omega)
    ·rename_i l
     cases hp:place dest (.cells false (q++new)) H with
     | mk k K=>
     rw [hp] at h
     cases h
     rcases hc with ⟨_,b⟩ | ⟨e',he,_⟩ | ⟨a',he,hn,b⟩
     ·exact grow H _ n cap q olds k K f rfl b rfl aa au E (r cap) (by omega) hp
     ·exact absurd he (by unfold loose at *;omega)
     ·subst hn
      have:=empty rfl
      subst this
      exact grow H (some a') 0 0 [] [] k K f rfl b rfl OV.nil (fun y hy=>by simp at hy) (by simp) (run_firstCells_some w.drew i.size 0 _ 0 0 [] (by simp) (fun j u U=>by simp at U)) (by omega) hp
end
section
variable {P:Program} {Pg:Prg} {W:Nat->Prop} {lim:Nat} {σ:PT} {H H':NB} {w:World} {dest:Option Nat} {ρ ρ':Operand->Value} {v:Value}
theorem ZM:∀{l:List KK} {a:List IntKind},TI l=some a->l=a.map .int
 | [],a,h=>by simp [TI] at h;subst h;rfl
 | .int k::l,a,h=>by
   simp only [TI,Nd] at h
   obtain ⟨r,h1,rfl⟩:=h
   rw [ZM h1];rfl
 | .str::l,a,h=>by simp [TI] at h
 | .bool::l,a,h=>by simp [TI] at h
 | .ints _::l,a,h=>by simp [TI] at h
theorem ZL:∀{c:List IntKind} {xs ys:List Value} {r:Bool},Tg c xs=true->UN xs ys=some r->PR (c.map .int) xs ys=some r
 | [],[],ys,r,_,h=>by
   cases ys with
   | nil=>simpa [UN,PR] using h
   | cons y ys=>simp [UN] at h
 | [],x::xs,ys,r,h1,_=>by simp [Tg] at h1
 | k::c,[],ys,r,h1,_=>by simp [Tg] at h1
 | k::c,x::xs,ys,r,h1,h=>by
   cases x<;>simp only [Tg,Oe] at h1
   rename_i k' a
   rw [N9,beq_iff_eq] at h1
   obtain ⟨rfl,h1⟩:=h1
   cases ys with
   | nil=>simp [UN] at h
   | cons y ys=>
     cases y<;>simp only [UN] at h<;>try (cases h;done)
     rename_i k2 b
     split at h
     ·rename_i d
      subst d
      simp only [Nd] at h
      obtain ⟨e,h2,rfl⟩:=h
      have:=ZL h1 h2
      simp only [Pi,PR,U5,this,and_self,if_true]
     ·cases h
theorem YN:∀{a:List IntKind} {xs:List Value},Tg a xs=true->xs.length=a.length
 | [],[],_=>rfl
 | [],x::xs,h=>by simp [Tg] at h
 | k::a,[],h=>by simp [Tg] at h
 | k::a,x::xs,h=>by
   cases x<;>simp only [Tg,Oe] at h
   rw [N9] at h
   simp [YN h.2]
theorem Naj:∀{xs ys:List Value},UN xs ys=some true->ys=xs
 | [],[],_=>rfl
 | [],y::ys,h=>by simp [UN] at h
 | x::xs,[],h=>by cases x<;>simp [UN] at h
 | x::xs,y::ys,h=>by
   cases x<;>cases y<;>simp only [UN] at h<;>try (cases h;done)
   split at h
   ·rename_i a
    subst a
    simp only [Nd,N9,beq_iff_eq] at h
    obtain ⟨r,h1,rfl,rfl⟩:=h
    rw [Naj h1]
   ·cases h
theorem Ncm:∀{a:List IntKind} {xs ys:List Value},Tg a xs=true->OV σ xs ys->ys=xs
 | [],[],ys,_,h=>by
   have:=h.1
   cases ys with
   | nil=>rfl
   | cons y ys=>simp at this
 | [],x::xs,ys,h,_=>by simp [Tg] at h
 | k::a,[],ys,h,_=>by simp [Tg] at h
 | k::a,x::xs,ys,h,hr=>by
   cases ys with
   | nil=>have:=hr.1;simp at this
   | cons y ys=>
     cases x<;>simp only [Tg,Oe] at h
     rw [N9] at h
     rw [Ncm h.2 hr.tail,hr.head.int_left]
theorem Ne8 {n:Nat} {t:TypeId} {l:List KK} (h:OZ P n t=some l):∃b,QU P t=some b/\(b=false->l.length=1):=by
 cases n with
 | zero=>simp [OZ] at h
 | succ n=>
   unfold OZ at h
   unfold QU
   cases hu:P.underlying t with
   | none=>simp [hu] at h
   | some a=>
     rw [hu] at h
     cases a<;>simp at h<;>first
      | (subst h;exact ⟨false,rfl,fun _=>rfl⟩)
      | exact ⟨true,rfl,fun h=>by cases h⟩
theorem Ub (em:Bool) (d:Nat):∀(n:Nat) (t:TypeId) (l:List KK),OZ P n t=some l->∀x,(QU P t=some true->∃xs,x=.agg xs/\l.length<=xs.size)->(Instr.checkKey em (d+n) t x).run P w=.ok () w
 | 0,t,l,h,_,_=>by simp [OZ] at h
 | n+1,t,l,h,x,hx=>by
   rw [show d+(n+1)=(d+n)+1 from rfl]
   unfold OZ at h
   split at h
   ·rename_i hu
    simp only [Instr.checkKey,Sem.run_bind,run_underlying hu,Result.andThen_ok]
    cases x<;>rfl
   ·rename_i k hu
    simp only [Instr.checkKey,Sem.run_bind,run_underlying hu,Result.andThen_ok]
    cases x<;>rfl
   ·rename_i hu
    simp only [Instr.checkKey,Sem.run_bind,run_underlying hu,Result.andThen_ok]
    cases x<;>rfl
   ·rename_i len e hu
    split at h
    case h_2=>cases h
    rename_i l1 hl1
    split at h
    case isFalse=>cases h
    rename_i hc
    cases h
    obtain ⟨xs,rfl,hsz⟩:=hx (by simp [QU,hu])
    have hue:∃dsc,P.underlying e=some dsc:=by
     cases hd:P.underlying e with
     | some x=>exact ⟨x,rfl⟩
     | none=>cases n<;>simp [OZ,hd] at hl1
    obtain ⟨dsc,hue⟩:=hue
    obtain ⟨i,hi⟩:=info_of_underlying hue
    have hsz1:PU P e=some l1.length:=by
     rw [hc];simp [PU,Program.cellsOf,hi]
    have his:i.size=l1.length:=by
     have:=hsz1;simpa [PU,hi] using this
    obtain ⟨b,hb,hb1⟩:=Ne8 hl1
    have hlen:(List.replicate len l1).flatten.length=len*l1.length:=by simp
    rw [hlen] at hsz
    simp only [Instr.checkKey,Sem.run_bind,run_underlying hu,Result.andThen_ok]
    simp only [Std.Legacy.Range.forIn_eq_forIn_range',Std.Legacy.Range.size,Nat.sub_zero,Nat.add_one_sub_one,Nat.div_one]
    have each:∀j∈List.range' 0 len,j<len:=fun j hj=>by simpa using (List.mem_range'_1.1 hj).2
    generalize List.range' 0 len=is at each
    induction is with
    | nil=>simp
    | cons j is ih=>
      have hj:=each j (by simp)
      have hjl:j*l1.length+l1.length<=xs.size:=by
       have:=Pj l1.length (Q1 hj)
       rw [P7] at this
       omega
      obtain ⟨a,p1,p2,p3,p4⟩:=V3 w e hb hsz1 xs (j*l1.length) hjl hb1
      have q:=Ub em d n e l1 hl1 a (fun ht=>by
       obtain ⟨zs,rfl⟩:=p2 ht
       refine ⟨zs,rfl, ?_⟩
       rw [hb] at ht
       cases ht
       have:=Rw List.length (p4 rfl)
       simp only [Value.cells,Array.length_toList,N6,Ps] at this
       omega)
      simp only [List.forIn_cons,Sem.run_bind,run_sizeOf w hi,Result.andThen_ok,<-hc,p1,q,Sem.run_pure]
      exact ih (fun y hy=>each y (by simp [hy]))
   ·rename_i fs hu
    split at h
    ·cases h
    obtain ⟨xs,rfl,hsz⟩:=hx (by simp [QU,hu])
    simp only [Instr.checkKey,Sem.run_bind,run_underlying hu,Result.andThen_ok]
    rw [<-Array.forIn_toList]
    have ho:0+l.length<=xs.size\/l=[]:=.inl (by omega)
    clear hx hsz
    generalize fs.toList=L at h
    generalize (0:Nat)=off at h ho
    induction L generalizing off l with
    | nil=>simp
    | cons f L ih=>
      simp only [Y3] at h
      split at h
      ·cases h
      rename_i hf
      split at h
      case h_2=>cases h
      rename_i l1 hl1
      split at h
      case isFalse=>cases h
      rename_i hc
      simp only [Nd] at h
      obtain ⟨l2,hl2,rfl⟩:=h
      obtain ⟨hc,hne⟩:=hc
      have hname:f.name≠ "_":=fun e=>hf (.inl e)
      have hoff:f.offset=off:=Oq fun e=>hf (.inr e)
      have hsz2:off+(l1.length+l2.length)<=xs.size:=by
       rcases ho with h | h
       ·simpa using h
       ·simp at h;exact absurd (by rw [h.1];rfl) hne
      have hue:∃dsc,P.underlying f.type=some dsc:=by
       cases hd:P.underlying f.type with
       | some x=>exact ⟨x,rfl⟩
       | none=>cases n<;>simp [OZ,hd] at hl1
      obtain ⟨dsc,hue⟩:=hue
      obtain ⟨i,hi⟩:=info_of_underlying hue
      have hsz1:PU P f.type=some l1.length:=by
       rw [hc];simp [PU,Program.cellsOf,hi]
      obtain ⟨b,hb,hb1⟩:=Ne8 hl1
      obtain ⟨a,p1,p2,p3,p4⟩:=V3 w f.type hb hsz1 xs off (by omega) hb1
      have q:=Ub em d n f.type l1 hl1 a (fun ht=>by
       obtain ⟨zs,rfl⟩:=p2 ht
       refine ⟨zs,rfl, ?_⟩
       rw [hb] at ht
       cases ht
       have:=Rw List.length (p4 rfl)
       simp only [Value.cells,Array.length_toList,N6,Ps] at this
       omega)
      simp only [List.forIn_cons,Sem.run_bind,hname,ne_eq,not_false_eq_true,if_true,hoff,p1,q,Result.andThen_ok,Sem.run_pure]
      exact ih l2 (off+l1.length) hl2 (.inl (by omega))
   ·cases h
theorem Xi {t:TypeId} {kk:KK} (h:TH P t=some kk) {x:Value} (g:TW kk x=true) (w:World):(∀e,(Instr.checkKey e 10000 t x).run P w=.ok () w)/\(Instr.keyThatStays x x).run P w=.ok x w/\
  ∃d,P.underlying t=some d/\((IsKey d x/\∀y r,VI x y=some r->Instr.sameNow d x y=some r)\/
   ((∀y,Instr.sameNow d x y=none)/\∀y r,VI x y=some r->(Op.equal t x y).run P w=.ok r w)):=by
 unfold TH at h
 cases hu:P.underlying t with
 | none=>simp [hu] at h
 | some d=>
   rw [hu] at h
   by_cases hw:∃a cs,kk=.ints a/\x=.agg cs
   ·obtain ⟨a,cs,rfl,rfl⟩:=hw
    have f:OZ P 20 t=some (a.map .int)/\QU P t=some true:=by
     cases d<;>simp at h
     all_goals
      split at h
      ·rename_i l hl
       simp only [Nd,KK.ints.injEq,exists_eq_right] at h
       rw [hl,ZM h]
       exact ⟨rfl,by simp [QU,hu]⟩
      ·cases h
    obtain ⟨f,i⟩:=f
    have b:Tg a cs.toList=true:=g
    have c:=YN b
    refine ⟨fun e=>?_, ?_,d,rfl,.inr ⟨fun y=>?_,fun y r hr=>?_⟩⟩
    ·exact Ub (w:=w) e 9980 20 t _ f (.agg cs) (fun _=>⟨cs,rfl,by rw [Ou,<-c];simp⟩)
    ·have m:Instr.sameBits 10000 (.agg cs) (.agg cs)=true:=by
      show Instr.sameBits (9999+1) (.agg cs) (.agg cs)=true
      simp only [Instr.sameBits,beq_self_eq_true,Bool.true_and,Oi]
      intro p hp
      have key:∀(a:List IntKind) (xs:List Value),Tg a xs=true->∀p∈xs.zip xs,Instr.sameBits 9999 p.1 p.2=true:=by
       intro a
       induction a with
       | nil=>
         intro xs h p hp
         cases xs with
         | nil=>simp at hp
         | cons x xs=>simp [Tg] at h
       | cons k a ih=>
         intro xs h p hp
         cases xs with
         | nil=>simp at hp
         | cons x xs=>
           cases x<;>simp only [Tg,Oe] at h
           rw [N9] at h
           rw [List.zip_cons_cons,Nu] at hp
           rcases hp with rfl | hp
           ·simp [Instr.sameBits]
           ·exact ih xs h.2 p hp
      exact key a _ b p hp
     simp [Instr.keyThatStays,m]
    ·cases d<;>rfl
    ·cases y<;>simp only [VI] at hr<;>try (cases hr;done)
     rename_i ys
     have:=Vy w 20 t _ f 9980 (.agg cs) (.agg ys) r (fun _=>⟨⟨_,rfl⟩,⟨_,rfl⟩⟩) (fun n=>by rw [i] at n;cases n) (ZL b hr)
     exact this
   ·have j:IsKey d x/\∀y r,VI x y=some r->Instr.sameNow d x y=some r:=by
     constructor
     ·cases d<;>simp at h<;>first
       | (subst h;cases x<;>simp_all [TW,IsKey];done)
       | (split at h
          ·rename_i l hl
           cases hi:TI l with
           | none=>simp [hi] at h
           | some a=>
             simp [hi] at h
             subst h
             cases x<;>simp [TW] at g
             exact absurd ⟨_,_,rfl,rfl⟩ hw
          ·cases h)
     ·intro y r hr
      cases d<;>simp at h<;>first
       | (subst h;cases x<;>simp [TW] at g<;>cases y<;>simp_all [VI,Instr.sameNow];done)
       | (split at h
          ·rename_i l hl
           cases hi:TI l with
           | none=>simp [hi] at h
           | some a=>
             simp [hi] at h
             subst h
             cases x<;>simp [TW] at g
             exact absurd ⟨_,_,rfl,rfl⟩ hw
          ·cases h)
    exact ⟨fun e=>MapKept.run_checkKey hu j.1 e 9999,run_keyThatStays j.1,d,rfl,.inl j⟩
theorem Ne6 {x:Value} {kk:KK} (a:TW kk x=true) {y:Value} (h:VRel σ x y):y=x:=by
 cases kk<;>cases x<;>simp [TW] at a<;>first
  | exact h.int_left
  | exact h.string_left
  | exact h.bool_left
  | (obtain ⟨ys,rfl,hl,_⟩:=h.agg_left
     have:=Ncm a hl
     congr 1
     exact Array.toList_inj.1 this)
theorem Nlq {a b:Value} (h:VI a b=some true):b=a:=by
 unfold VI at h
 split at h
 ·split at h
  ·rename_i d;subst d
   simp at h;rw [h]
  ·cases h
 ·rename_i a b
  have h2:(a == b)=true:=by simpa using h
  rw [beq_toListBytes,ByteArray.toList_eq,ByteArray.toList_eq] at h2
  have c:a.data.toList=b.data.toList:=by simpa using h2
  obtain ⟨⟨x⟩⟩:=a
  obtain ⟨⟨y⟩⟩:=b
  simp at c
  rw [c]
 ·simp at h;rw [h]
 ·congr 1
  exact Array.toList_inj.1 (Naj h)
 ·cases h
theorem YO {t:TypeId} {kk:KK} (F:TH P t=some kk) {x:Value} (G:TW kk x=true) {es:List (Value×Value)} {ents:Array MapEntry} (u:ents.size=es.length)
  (v:∀(j:Nat) e c,es[j]? = some e->ents[j]? = some c->e.1=c.key/\VRel σ e.2 c.val) {r:Option (Nat×Value)} (h:findKey x es 0=some r) :
  (Instr.findKey t x ents.toList).run P w=.ok (r.map fun p=>(p.1,(ents.getD p.1 default).val)) w/\
   (∀p,r=some p->∃e c,es[p.1]? = some e/\ents[p.1]? = some c/\e.2=p.2/\VI x e.1=some true):=by
 obtain ⟨_,_,d,hd,m⟩:=Xi F G w
 have found:∀(es:List (Value×Value)) (l:List MapEntry) (i:Nat),l.length=es.length->∀r,findKey x es i=some r->∀p,r=some p->i<=p.1/\∃e c,es[p.1-i]? = some e/\l[p.1-i]? = some c/\e.2=p.2/\VI x e.1=some true:=by
  intro es
  induction es with
  | nil=>intro l i _ r hr p hp;simp [findKey] at hr;subst hr;cases hp
  | cons a es ih=>
    intro l i hl r hr p hp
    cases l with
    | nil=>simp at hl
    | cons b l=>
      obtain ⟨k',v'⟩:=a
      simp only [findKey] at hr
      split at hr
      ·rename_i he
       cases hr
       cases hp
       exact ⟨Ng _,(k',v'),b,by simp,by simp,rfl,he⟩
      ·obtain ⟨h1,e,c,h2,A,B,C⟩:=ih l (i+1) (by simpa using hl) r hr p hp
       refine ⟨by omega,e,c, ?_, ?_,B,C⟩
       ·rw [show p.1-i=(p.1-(i+1))+1 by omega];simpa using h2
       ·rw [show p.1-i=(p.1-(i+1))+1 by omega];simpa using A
      ·cases hr
 have s:∀(j:Nat) e c,es[j]? = some e->ents.toList[j]? = some c->e.1=c.key:=fun j e c h1 h2=>(v j e c h1 (by simpa using h2)).1
 have g:ents.toList.length=es.length:=by simpa using u
 refine ⟨?_,fun p hp=>?_⟩
 ·rcases m with ⟨_,k⟩ | ⟨n,o⟩
  ·have key:∀(es:List (Value×Value)) (l:List MapEntry) (i:Nat),l.length=es.length->(∀(j:Nat) e c,es[j]? = some e->l[j]? = some c->e.1=c.key)->∀r,findKey x es i=some r->
     Instr.findNow d x l i=some (r.map fun p=>(p.1,(l.getD (p.1-i) default).val)):=by
    intro es
    induction es with
    | nil=>
      intro l i hl _ r hr
      have:l=[]:=by simpa using hl
      subst this
      simp [findKey] at hr;subst hr
      rfl
    | cons a es ih=>
      intro l i hl q r hr
      cases l with
      | nil=>simp at hl
      | cons b l=>
        have E:=found (a::es) (b::l) i hl r hr
        obtain ⟨k',v'⟩:=a
        have f:k'=b.key:=q 0 (k',v') b rfl rfl
        simp only [findKey] at hr
        split at hr
        ·rename_i he
         cases hr
         have:=k _ _ he
         rw [f] at this
         simp [Instr.findNow,this]
        ·rename_i he
         have y:=k _ _ he
         rw [f] at y
         have g1:=ih l (i+1) (by simpa using hl) (fun j e c h1 h2=>q (j+1) e c (by simpa using h1) (by simpa using h2)) r hr
         have z:=found es l (i+1) (by simpa using hl) r hr
         simp only [Instr.findNow,y,g1]
         cases r with
         | none=>rfl
         | some p=>
           obtain ⟨h1,_⟩:=z p rfl
           simp only [Nz]
           rw [show p.1-i=(p.1-(i+1))+1 by omega]
           rfl
        ·cases hr
   have g1:=key es ents.toList 0 g s r h
   have:=run_findKey (w:=w) (kt:=t) hd g1
   rw [this]
   cases r with
   | none=>rfl
   | some p=>simp
  ·
   have key:∀(es:List (Value×Value)) (l:List MapEntry) (i:Nat),l.length=es.length->(∀(j:Nat) e c,es[j]? = some e->l[j]? = some c->e.1=c.key)->∀r,findKey x es i=some r->
     (Instr.findAsking t x l i).run P w=.ok (r.map fun p=>(p.1,(l.getD (p.1-i) default).val)) w:=by
    intro es
    induction es with
    | nil=>
      intro l i hl _ r hr
      have:l=[]:=by simpa using hl
      subst this
      simp [findKey] at hr;subst hr
      simp [Instr.findAsking]
    | cons a es ih=>
      intro l i hl q r hr
      cases l with
      | nil=>simp at hl
      | cons b l=>
        obtain ⟨k',v'⟩:=a
        have f:k'=b.key:=q 0 (k',v') b rfl rfl
        simp only [findKey] at hr
        split at hr
        ·rename_i he
         cases hr
         have:=o _ _ he
         rw [f] at this
         simp [Instr.findAsking,this]
        ·rename_i he
         have y:=o _ _ he
         rw [f] at y
         have g1:=ih l (i+1) (by simpa using hl) (fun j e c h1 h2=>q (j+1) e c (by simpa using h1) (by simpa using h2)) r hr
         have z:=found es l (i+1) (by simpa using hl) r hr
         simp only [Instr.findAsking,Sem.run_bind,y,Result.andThen_ok,Oe,if_false,g1]
         cases r with
         | none=>rfl
         | some p=>
           obtain ⟨h1,_⟩:=z p rfl
           simp only [Nz]
           rw [show p.1-i=(p.1-(i+1))+1 by omega]
           rfl
        ·cases hr
   have g1:=key es ents.toList 0 g s r h
   have hfn:Instr.findNow d x ents.toList 0=none\/ents.toList=[]:=by
    cases ents.toList with
    | nil=>exact .inr rfl
    | cons b l=>exact .inl (by simp [Instr.findNow,n])
   rcases hfn with hfn | hfn
   ·simp only [Instr.findKey,Sem.run_bind,run_underlying hd,Result.andThen_ok,hfn,g1]
    cases r with
    | none=>rfl
    | some p=>simp
   ·have D:es=[]:=by rw [hfn] at g;simpa using g.symm
    subst D
    simp [findKey] at h
    subst h
    rw [hfn]
    simp [Instr.findKey,run_underlying hd,Instr.findNow]
 ·obtain ⟨_,e,c,h2,A,B,C⟩:=found es ents.toList 0 g r h p hp
  exact ⟨e,c,by simpa using h2,by simpa using A,B,C⟩
theorem Inv.entries (h:Inv Pg W lim σ H w) {m b:Value} (f:VRel σ m b) {es:List (Value×Value)} (he:mapEntries H m=some es) :
  (b=.map none/\es=[])\/∃(r:Nat) (L:Loc) (ents:Array MapEntry) (clock:Nat),m=.map (some r)/\NC H r=.map es/\σ r=some L/\b=.map (some L.blk)/\w.heap[L.blk]? = some (.map ents clock)/\ents.size=es.length/\
   ∀(j:Nat) e a,es[j]? = some e->ents[j]? = some a->e.1=a.key/\VRel σ e.2 a.val:=by
 unfold mapEntries at he
 split at he
 ·cases he;exact .inl ⟨f.nilmap_left,rfl⟩
 ·rename_i r
  split at he
  ·rename_i es' d
   cases he
   obtain ⟨L,c,rfl⟩:=f.map_left
   obtain ⟨k,h1,ents,clock,h2,g,i,_⟩:=h.blk r _ (Tj d rfl) rfl
   rw [c] at h1;cases h1
   exact .inr ⟨r,L,ents,clock,rfl,d,c,rfl,h2,g,i⟩
  ·cases he
 ·cases he
theorem Inv.stamps (h:Inv Pg W lim σ H w) {r:Nat} {L:Loc} {es:List (Value×Value)} {ents:Array MapEntry} {clock:Nat} (e:NC H r=.map es) (d:σ r=some L) (f:w.heap[L.blk]? = some (.map ents clock)):Nmh es.length clock ents:=by
 obtain ⟨g,h1,b,a,h2,i,j,c⟩:=h.blk r _ (Tj e rfl) rfl
 rw [d] at h1;cases h1
 rw [f] at h2;cases h2
 exact c
theorem Nft {t:TypeId} {z:Value} (h:Na3 P t=some z):∃i,P.info? t=some i/\i.zero=some z/\∀τ,VRel τ z z:=by
 unfold Na3 at h
 split at h
 ·rename_i i hi
  split at h
  ·rename_i f e
   split at h
   ·rename_i c
    cases h
    refine ⟨i,hi,e,fun τ=>?_⟩
    have hc:∀x∈z.cells.toList,atom x=true/\x.oneCell'=true:=fun x b=>by
     have:=Oi.1 c x b
     simpa using this
    by_cases a:∃cs,z=.agg cs
    ·obtain ⟨cs,rfl⟩:=a
     exact VRel.agg_iff.2 ⟨OV.refl_of fun x b=>.atom (hc x b).1,fun y d=>(hc y d).2⟩
    ·refine .atom (hc z ?_).1
     cases z<;>first | (exact absurd ⟨_,rfl⟩ a) | simp [Value.cells]
   ·cases h
  ·cases h
 ·cases h
theorem Ngn (f:Inv Pg W lim σ H w) {t kt e:TypeId} (F:P.underlying t=some (.map kt e)) {kk:KK} (J:TH P kt=some kk) {z:Value} (Q:Na3 P e=some z)
  {ok:Bool} {m key:Operand} (M:VRel σ (ρ m) (ρ' m)) (y:VRel σ (ρ key) (ρ' key))
  (g:NJ lim dest (.lookup kk z ok m key) ρ H=some (v,H')) (o:Oper) (ho:o.op=.lookup t m key ok):OM Pg W lim σ dest H w ((execOp ρ' o).run P w) v H':=by
 obtain ⟨i,hi,G,C⟩:=Nft Q
 simp only [NJ] at g
 split at g
 case h_2=>cases g
 rename_i es D
 split at g
 case isFalse=>cases g
 rename_i u
 obtain ⟨q,O,d,hd,_⟩:=Xi J u w
 have s:=Ne6 u y
 have n:(zeroValue e).run P w=.ok z w:=by simp [zeroValue,typeInfo,hi,G]
 have pack:∀{a b:Value} {c:Bool},VRel σ a b->VRel σ (if ok then .tuple #[a,.bool c] else a) (if ok then .tuple #[b,.bool c] else b):=by
  intro a b c h
  cases ok
  ·exact h
  ·exact VRel.tuple_iff.2 (OV.cons h (OV.cons (.atom rfl) OV.nil))
 rcases f.entries M D with ⟨k,rfl⟩ | ⟨r,L,ents,clock,N,S,R,k,I,A,l⟩
 ·simp [findKey] at g
  obtain ⟨rfl,rfl⟩:=g
  refine OM.plain f (v':=if ok then .tuple #[z,.bool false] else z) ?_ (pack (C σ))
  simp only [execOp,ho]
  refine QL P w _ ?_
  rw [k,s]
  simp [Instr.lookup,run_underlying F,q,Instr.findKey,run_underlying hd,Instr.findNow,n]
 ·have E:∃j,findKey (ρ key) es 0=some j:=by
   cases x:findKey (ρ key) es 0 with
   | none=>simp [x] at g
   | some j=>exact ⟨j,rfl⟩
  obtain ⟨j,x⟩:=E
  obtain ⟨g1,K⟩:=YO (P:=P) (w:=w) (σ:=σ) J u A l x
  cases j with
  | none=>
    simp [x] at g
    obtain ⟨rfl,rfl⟩:=g
    refine OM.plain f (v':=if ok then .tuple #[z,.bool false] else z) ?_ (pack (C σ))
    simp only [execOp,ho]
    refine QL P w _ ?_
    rw [k,s]
    simp only [Ov] at g1
    simp [Instr.lookup,run_underlying F,MapKept.run_getObj_map I,q,g1,n]
  | some p=>
    obtain ⟨e1,e2,q1,q2,q3,T⟩:=K p rfl
    obtain ⟨p1,p2⟩:=p
    simp [x] at g
    obtain ⟨rfl,rfl⟩:=g
    simp only at q1 q2 q3
    have B:(ents.getD p1 default).val=e2.val:=by rw [N7,q2];rfl
    refine OM.plain f (v':=if ok then .tuple #[e2.val,.bool true] else e2.val) ?_ (pack (by rw [<-q3];exact (l _ _ _ q1 q2).2))
    simp only [execOp,ho]
    refine QL P w _ ?_
    rw [k,s]
    simp only [Nz,B] at g1
    simp [Instr.lookup,run_underlying F,MapKept.run_getObj_map I,q,g1]
theorem Inv.setMap (h:Inv Pg W lim σ H w) {r:Nat} {L:Loc} {es es':List (Value×Value)} (o:NC H r=.map es) (l:σ r=some L) (c:lim<=r) {ents:Array MapEntry} {clock:Nat} (g:L.blk<w.heap.size) (b:ents.size=es'.length)
  (d:∀(j:Nat) e f,es'[j]? = some e->ents[j]? = some f->e.1=f.key/\VRel σ e.2 f.val) (i:Nmh es'.length clock ents) :
  Inv Pg W lim σ (H.set r (.map es')) { w with heap:=w.heap.setIfInBounds L.blk (.map ents clock) }/\Stp W w { w with heap:=w.heap.setIfInBounds L.blk (.map ents clock) }:=by
 have a:=Tj o rfl
 have n:({ w with heap:=w.heap.setIfInBounds L.blk (.map ents clock) }:World).heap.size=w.heap.size:=by simp
 have m:∀k,k≠L.blk->({ w with heap:=w.heap.setIfInBounds L.blk (.map ents clock) }:World).heap[k]? = w.heap[k]?:=fun k p=>by
  simp [Ne.symm p]
 refine ⟨h.rewrite a rfl l n m ⟨ents,clock, ?_,b,d,i⟩ (fun _=>rfl),Stp.one (h.wr _ _ _ a rfl c l) m n rfl rfl rfl⟩
 simp [g]
theorem YM (f:Inv Pg W lim σ H w) {t kt e:TypeId} (Y:P.underlying t=some (.map kt e)) {kk:KK} (X:TH P kt=some kk) {m key x:Operand} (Q:VRel σ (ρ m) (ρ' m)) (D:VRel σ (ρ key) (ρ' key)) (q:VRel σ (ρ x) (ρ' x))
  (l:NJ lim dest (.mapUpdate kk m key x) ρ H=some (v,H')):∃w',(Instr.mapUpdate t (ρ' m) (ρ' key) (ρ' x)).run P w=.ok () w'/\Inv Pg W lim σ H' w'/\Stp W w w'/\H'.length=H.length/\v=undef:=by
 simp only [NJ] at l
 split at l
 case h_2=>cases l
 rename_i r hr
 split at l
 case h_2=>cases l
 rename_i es A
 split at l
 case isFalse=>cases l
 rename_i s
 obtain ⟨y,o⟩:=s
 obtain ⟨B,S,d,hd,_⟩:=Xi X y w
 have N:=Ne6 y D
 have J:mapEntries H (ρ m)=some es:=by rw [hr];simp [mapEntries,A]
 rcases f.entries Q J with ⟨z,rfl⟩ | ⟨r',L,ents,clock,F,aa,G,z,u,g,k⟩
 ·rw [hr] at Q;obtain ⟨L,_,h2⟩:=Q.map_left;rw [z] at h2;cases h2
 rw [hr] at F;cases F
 have E:L.blk<w.heap.size:=(Array.getElem?_eq_some_iff.1 u).1
 have K:∃n,findKey (ρ key) es 0=some n:=by
  cases C:findKey (ρ key) es 0 with
  | none=>simp [C] at l
  | some n=>exact ⟨n,rfl⟩
 obtain ⟨n,C⟩:=K
 obtain ⟨g1,Z⟩:=YO (P:=P) (w:=w) (σ:=σ) X y g k C
 rw [z,N]
 cases n with
 | none=>
   simp [C] at l
   obtain ⟨rfl,rfl⟩:=l
   obtain ⟨T,U⟩:=f.setMap (es':=es++[(ρ key,ρ x)]) A G o (ents:=ents.push { key:=ρ key,val:=ρ' x,born:=clock }) (clock:=clock+1) E (by simp [g]) (fun j a b i c=>by
    by_cases h:j<es.length
    ·rw [Od h] at i
     rw [Qc,Nf (by omega)] at c
     exact k j a b i c
    ·have M:j=es.length:=by
      have:=(List.getElem?_eq_some_iff.1 i).1
      simp at this;omega
     subst M
     simp at i
     rw [<-g] at c
     simp at c
     subst i c
     exact ⟨rfl,q⟩) (by
    obtain ⟨V,I⟩:=f.stamps A G u
    refine ⟨by simp [V],fun j e h=>?_⟩
    rw [Qc] at h
    split at h
    ·cases h;simp only;omega
    ·exact I j e h)
   simp only [Ov] at g1
   exact ⟨_,by simp [Instr.mapUpdate,run_underlying Y,MapKept.run_getObj_map u,B,g1,MapKept.run_setObj_map _ u],T,U,by simp,rfl⟩
 | some p=>
   obtain ⟨p1,p2⟩:=p
   obtain ⟨e1,e2,q1,q2,q3,q4⟩:=Z _ rfl
   simp only at q1 q2 q3
   simp [C] at l
   obtain ⟨rfl,rfl⟩:=l
   have O:e2.key=ρ key:=by
    rw [<-(k _ _ _ q1 q2).1]
    exact Nlq q4
   have R:p1<ents.size:=(Array.getElem?_eq_some_iff.1 q2).1
   obtain ⟨T,U⟩:=f.setMap (es':=es.set p1 (ρ key,ρ x)) A G o (ents:=ents.modify p1 fun e=>{ e with key:=ρ key,val:=ρ' x }) (clock:=clock) E (by simp [g]) (fun j a b i c=>by
    rw [Oh] at i
    rw [Array.getElem?_modify] at c
    by_cases h:p1=j
    ·subst h
     rw [Nk rfl,Nk (by rw [<-g];exact R)] at i
     rw [Nk rfl,q2] at c
     simp at i c
     subst i c
     exact ⟨rfl,q⟩
    ·rw [Nf h] at i
     rw [Nf h] at c
     exact k j a b i c) (by
    obtain ⟨V,I⟩:=f.stamps A G u
    refine ⟨by simp [V],fun j e h=>?_⟩
    rw [Array.getElem?_modify] at h
    split at h
    ·simp only [Nd] at h
     obtain ⟨a,i,rfl⟩:=h
     exact I j a i
    ·exact I j e h)
   simp only [Nz] at g1
   have hq:((ents[p1]?).map (·.key)).getD (ρ key)=ρ key:=by rw [q2];simp [O]
   refine ⟨_, ?_,T,U,by simp,rfl⟩
   simp only [Instr.mapUpdate,Sem.run_bind,run_underlying Y,Result.andThen_ok,MapKept.run_getObj_map u,B,g1,hq]
   rw [S]
   simp [MapKept.run_setObj_map _ u]
end
section
variable {P:Program} {Pg:Prg} {W:Nat->Prop} {lim:Nat} {σ:PT} {H H':NB} {w:World} {dest:Option Nat} {ρ ρ':Operand->Value} {v:Value}
theorem Ngj (mx:Bool) {x y z:Value} (h:Xx mx x y=some z):(if mx then Builtin.max2 x y else Builtin.min2 x y).run P w=.ok z w/\∃k n,z=.int k n:=by
 unfold Xx at h
 split at h
 ·split at h
  ·rename_i a
   cases h;subst a
   cases mx<;>simp [Builtin.min2,Builtin.max2]
  ·cases h
 ·cases h
theorem Vn (mx:Bool):∀(ys a:List Value) (x b r:Value),VRel σ x b->OV σ ys a->Sq mx x ys=some r->
  ∃d,(a.foldlM (if mx then Builtin.max2 else Builtin.min2) b).run P w=.ok d w/\VRel σ r d
 | [],a,x,b,r,hx,hy,h=>by
   have:a=[]:=by have:=hy.1;simpa using this.symm
   subst this
   simp [Sq] at h;subst h
   exact ⟨b,by simp,hx⟩
 | y::ys,a,x,b,r,hx,hy,h=>by
   cases a with
   | nil=>have:=hy.1;simp at this
   | cons f a=>
     simp only [Sq] at h
     split at h
     case h_2=>cases h
     rename_i z c
     have e:b=x/\f=y:=by
      unfold Xx at c
      split at c
      ·exact ⟨hx.int_left,hy.head.int_left⟩
      ·cases c
     obtain ⟨rfl,rfl⟩:=e
     obtain ⟨h1,k,n,rfl⟩:=Ngj (P:=P) (w:=w) mx c
     obtain ⟨d,h2,g⟩:=Vn mx ys a _ _ r (.atom rfl) hy.tail h
     refine ⟨d, ?_,g⟩
     rw [List.foldlM_cons,Sem.run_bind]
     have:((if mx then Builtin.max2 else Builtin.min2) b f).run P w=.ok (.int k n) w:=by cases mx<;>simpa using h1
     rw [this]
     exact h2
end
section
variable {P:Program} {Pg:Prg} {W:Nat->Prop} {lim:Nat} {σ:PT} {H H':NB} {w:World} {dest:Option Nat} {ρ ρ':Operand->Value} {v:Value}
theorem OM.wrote (a:Inv Pg W lim σ H w) {run:Result Next} {nx:Next} {v':Value} {w':World} (hr:run=.ok nx w') (hn:Ngh nx=some v') (d:VRel σ v v') (hi:Inv Pg W lim σ H' w') (c:Stp W w w') (hl:H'.length=H.length) :
  OM Pg W lim σ dest H w run v H':=⟨nx,w',σ,v',hr,hn,d,hi,c,PT.le_refl σ,fun j b=>absurd rfl b,by omega,fun _=>hl⟩
theorem V5 {l:List Operand} (h:∀x∈l,VRel σ (ρ x) (ρ' x)):OV σ (l.map ρ) (l.map ρ'):=OV.map l ρ ρ' h
theorem Ngp {b:Array TypeId} {ty t:TypeId} {x:Value} (f:b[0]? = some t) :
  (P.underlying t=some .string->∀s,x=.string s->(Builtin.len_ b ty #[x]).run P w=.ok (.int .i64 s.size) w)/\
  ((∃e,P.underlying t=some (.slice e))->∀a n c,x=.slice a n c->(Builtin.len_ b ty #[x]).run P w=.ok (.int .i64 n) w)/\
  (∀n e,P.underlying t=some (.array n e)->(Builtin.len_ b ty #[x]).run P w=.ok (.int .i64 n) w):=by
 refine ⟨fun d s g=>?_,fun ⟨e,d⟩ a n c g=>?_,fun n e d=>?_⟩
 ·subst g;simp [Builtin.len_,f,run_underlying d,goInt]
 ·subst g;simp [Builtin.len_,f,run_underlying d,goInt]
 ·cases x<;>simp [Builtin.len_,f,run_underlying d,goInt]
theorem TN (b:Builtin) (a:Array TypeId) (ty:TypeId) (cs:Array Bool) (args:Array Value) (s:Sem Value) {x:Value} {w':World} (c:builtin b a ty cs args=(do pure (.value (<-s)))) (h:s.run P w=.ok x w') :
  (builtin b a ty cs args).run P w=.ok (.value x) w':=by
 rw [c];simp [h]
theorem Ng4 (o:Oper) (c:Call) (b:Builtin) (ho:o.op=.call c) (hc:c.callee=.builtin b) :
  execOp ρ' o=builtin b c.argTypes o.type (c.args.map fun | .const _=>true | _=>false) (c.args.map ρ'):=by
 simp only [execOp,ho,resolve,hc]
 rfl
theorem ZW {a:Array Operand} {x:Operand} (h:a.toList=[x]):a.map ρ'=#[ρ' x]:=by
 apply Array.ext';simp [h]
theorem Njv {a:Array Operand} {x y:Operand} (h:a.toList=[x,y]):a.map ρ'=#[ρ' x,ρ' y]:=by
 apply Array.ext';simp [h]
theorem Nel {a:Array TypeId} {t:TypeId} {l:List TypeId} (h:a.toList=t::l):a[0]? = some t:=by
 rw [<-Array.getElem?_toList,h];rfl
theorem Nl3 (m:Inv Pg W lim σ H w) {dt e ty:TypeId} {C:Array TypeId} (t:C[0]? = some dt) (N:P.underlying dt=some (.slice e)) {esz:Nat} (z:PU P e=some esz) {d x:Operand} (hd:VRel σ (ρ d) (ρ' d)) (p:VRel σ (ρ x) (ρ' x))
  (j:NJ lim dest (.copy esz d x) ρ H=some (v,H')):∃w' v',(Builtin.copy_ C ty #[ρ' d,ρ' x]).run P w=.ok v' w'/\VRel σ v v'/\Inv Pg W lim σ H' w'/\Stp W w w'/\H'.length=H.length:=by
 simp only [NJ] at j
 split at j
 case h_2=>cases j
 rename_i base dl V sl E i
 have read:∀cs,TC H esz (min sl dl) (ρ x)=some cs->
   ∃cs',(Builtin.lenOf (ρ' x)).run P w=.ok sl w/\(Builtin.firstCells esz (min sl dl) (ρ' x)).run P w=.ok cs'.toArray w/\OV σ cs cs'/\(∀y∈cs',y.oneCell'=true):=by
  intro cs f
  cases hxx:ρ x with
  | slice a n c=>
    rw [hxx] at f p i
    simp [lenOf] at i;subst i
    cases a with
    | none=>
      obtain ⟨rfl,rfl,h2⟩:=p.nilslice_left
      simp [TC] at f;subst f
      rw [h2]
      exact ⟨[],by simp [Builtin.lenOf],by simp [Builtin.firstCells],OV.nil,fun y A=>by simp at A⟩
    | some a=>
      simp only [TC] at f
      obtain ⟨K,L,I,hc⟩:=p.slice_left
      have q:∀c',ρ' x=.slice (some ⟨L.blk,L.base+a.off,none⟩) n c'->∃cs',(Builtin.lenOf (ρ' x)).run P w=.ok n w/\(Builtin.firstCells esz (min n dl) (ρ' x)).run P w=.ok cs'.toArray w/\OV σ cs cs'/\(∀y∈cs',y.oneCell'=true):=by
       intro c' g
       obtain ⟨l',h1,h2,Q,R⟩:=Ne5 (P:=P) m I f
       exact ⟨l',by rw [g];simp [Builtin.lenOf],by rw [g];simpa [Builtin.firstCells] using h1,h2,R⟩
      rcases hc with ⟨_,g⟩ | ⟨X,_,c',_,_,g⟩ | ⟨a',_,r,g⟩
      ·exact q _ g
      ·exact q _ g
      ·subst r
       have F:cs=[]:=by
        unfold AM.loadCells at f
        split at f
        ·split at f
         ·simp at f;exact f
         ·cases f
        ·cases f
       subst F
       have r:(Go.loadCells a' 0).run P w=.ok #[] w:=by simpa using run_loadCells_list (P:=P) w a' [] (by simp)
       exact ⟨[],by rw [g];simp [Builtin.lenOf],by rw [g];simpa [Builtin.firstCells] using r,OV.nil,fun y A=>by simp at A⟩
  | string s=>
    rw [hxx] at f p i
    simp [lenOf] at i;subst i
    simp only [TC] at f
    split at f
    case isFalse=>cases f
    rename_i S
    cases f
    rw [p.string_left]
    refine ⟨_,by simp [Builtin.lenOf], ?_,OV.refl_of fun y A=>?_,fun y A=>?_⟩
    ·simp only [Builtin.firstCells,Sem.run_pure]
     congr 1
     apply Array.ext'
     simp only [Array.toList_map,ByteArray.data_extract,Array.toList_extract]
     simp [List.extract]
    ·obtain ⟨b,_,rfl⟩:=List.mem_map.1 A;exact .atom rfl
    ·obtain ⟨b,_,rfl⟩:=List.mem_map.1 A;rfl
  | _=>rw [hxx] at i;simp [lenOf] at i
 cases f:TC H esz (min sl dl) (ρ x) with
 | none=>rw [f] at j;cases j
 | some cs=>
 rw [f] at j
 cases base with
 | some a=>
   simp only at j
   obtain ⟨cs',G,B,O,r4⟩:=read cs f
   rw [E] at hd
   obtain ⟨K,L,I,hc⟩:=hd.slice_left
   by_cases l:min sl dl=0
   ·rw [Nk l] at j
    cases j
    have D:cs=[]:=by
     rw [l] at f
     unfold TC at f
     split at f
     ·split at f
      ·cases f;rfl
      ·cases f
     ·simp only [Q0] at f
      unfold AM.loadCells at f
      split at f
      ·split at f
       ·simp at f;exact f
       ·cases f
      ·cases f
     ·split at f
      ·simp at f;exact f
      ·cases f
     ·cases f
    subst D
    have u:cs'=[]:=by have:=O.1;simpa using this.symm
    subst u
    have k:∃b' c',ρ' d=.slice (some b') dl c':=by
     rcases hc with ⟨_,h⟩ | ⟨_,_,_,_,_,h⟩ | ⟨_,_,r,h⟩
     ·exact ⟨_,_,h⟩
     ·exact ⟨_,_,h⟩
     ·rw [r];exact ⟨_,_,h⟩
    obtain ⟨b',c',k⟩:=k
    refine ⟨w,.int .i64 0, ?_,.atom rfl,m,Stp.refl _ _,rfl⟩
    rw [k]
    have o:Nat.min sl dl=0:=l
    rw [l] at B
    simp [Builtin.copy_,t,run_underlying N,G,Tf z,o,B,storeCells,goInt]
   ·rw [Nf l] at j
    simp only [Nd,Prod.mk.injEq] at j
    obtain ⟨U,M,rfl,rfl⟩:=j
    obtain ⟨w',q1,q2,q3,T⟩:=m.store (P:=P) I M O r4
    have k:∃c',ρ' d=.slice (some ⟨L.blk,L.base+a.off,none⟩) dl c':=by
     rcases hc with ⟨_,h⟩ | ⟨_,_,_,_,_,h⟩ | ⟨_,_,r,h⟩
     ·exact ⟨_,h⟩
     ·exact ⟨_,h⟩
     ·rw [r] at l;simp at l
    obtain ⟨c',k⟩:=k
    refine ⟨w',.int .i64 (min sl dl:Nat), ?_,.atom rfl,q2,q3,T⟩
    rw [k]
    have o:Nat.min sl dl=min sl dl:=rfl
    simp [Builtin.copy_,t,run_underlying N,G,Tf z,o,B,q1,goInt]
 | none=>
   simp only at j
   split at j
   case isFalse=>cases j
   rename_i J
   cases j
   obtain ⟨cs',G,B,O,r4⟩:=read cs f
   rw [E] at hd
   obtain ⟨h1,h2,Q⟩:=hd.nilslice_left
   refine ⟨w,.int .i64 0, ?_,.atom rfl,m,Stp.refl _ _,rfl⟩
   rw [Q]
   subst J
   have o:Nat.min sl 0=0:=Nat.min_zero sl
   rw [Nat.min_zero] at B
   simp [Builtin.copy_,t,run_underlying N,G,Tf z,B,goInt]
end
end Go.AM


