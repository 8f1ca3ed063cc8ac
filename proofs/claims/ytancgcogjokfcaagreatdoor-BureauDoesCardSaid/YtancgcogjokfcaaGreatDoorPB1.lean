/-
  Joined texts, 1 of 8. A part of the claim that the last text states.
-/
import Derived.Orders
import Derived.Laws.Sem
import Derived.Deep.MidRow
import Derived.Deep.AppendSrc
import Derived.RowKit3
import Derived.Lib.LaidTab
import Derived.Lib.ItoaNum
import Derived.MapKept
import Derived.Laws.StructEq
import Derived.Laws.BytesString
import Derived.Laws.MakeOwn
import Derived.Laws.Pointers
import Derived.Laws.Cover3
import Derived.ChangeKeysEq
import Derived.Deep.Upon
set_option linter.unusedVariables false
set_option linter.unusedSimpArgs false
set_option linter.defProp false
set_option linter.unusedSectionVars false
set_option maxRecDepth 100000
set_option maxHeartbeats 4000000
namespace Go
abbrev Na.{u}:=@List.getD_eq_getElem?_getD.{u}
abbrev Nb.{u}:=@List.append_nil.{u}
abbrev Nc.{u,v}:=@Option.map_eq_some_iff.{u,v}
abbrev Nd:=@Nat.le_refl
abbrev Nf.{u}:=@List.getElem?_eq_getElem.{u}
abbrev Ng.{u}:=@List.mem_singleton.{u}
abbrev Nh.{u}:=@List.mem_cons.{u}
abbrev Ni.{u}:=@if_neg.{u}
abbrev Nj.{u}:=@List.length_append.{u}
abbrev Nk.{u}:=@if_pos.{u}
abbrev Nl.{u}:=@List.append_assoc.{u}
abbrev Nm.{u}:=@List.length_cons.{u}
abbrev Nn.{u}:=@List.length_nil.{u}
abbrev No:=@Bool.false_eq_true
abbrev Np.{u}:=@List.not_mem_nil.{u}
abbrev Nq:=@Bool.and_eq_true
abbrev Nr:=@Nat.zero_add
abbrev Ns.{u,v}:=@Option.map_some.{u,v}
abbrev Nu.{u}:=@Array.getElem?_eq_getElem.{u}
abbrev Nv.{u}:=@List.getElem?_eq_none.{u}
abbrev Nw.{u}:=@Array.getD_eq_getD_getElem?.{u}
abbrev Nx:=@decide_eq_true_eq
abbrev Ny.{u}:=@List.getElem?_append_left.{u}
abbrev Nz.{u,v}:=@List.length_map.{u,v}
abbrev N0.{u}:=@List.getElem?_append_right.{u}
abbrev N1.{u}:=@List.cons_append.{u}
abbrev N2.{u}:=@List.all_eq_true.{u}
abbrev N3.{u}:=@List.getElem?_set.{u}
abbrev N4:=@Int.cast_ofNat_Int
abbrev N5:=@Nat.zero_le
abbrev N6.{u}:=@List.nil_append.{u}
abbrev N7.{u}:=@List.length_take.{u}
abbrev N8:=@Nat.mul_one
abbrev N9.{u}:=@List.take_of_length_le.{u}
abbrev Oa.{u}:=@List.mem_of_getElem?.{u}
abbrev Ob.{u}:=@List.mem_append.{u}
abbrev Oc:=@decide_eq_false
abbrev Od.{u}:=@List.mem_cons_of_mem.{u}
abbrev Oe:=@decide_eq_true
abbrev Of.{u,v}:=@List.map_cons.{u,v}
abbrev Og.{u}:=@List.drop_zero.{u}
abbrev Oh.{u,v}:=@List.flatMap_cons.{u,v}
abbrev Oi:=@Classical.byContradiction
abbrev Oj.{u}:=@Option.getD_some.{u}
abbrev Ok:=@Bool.not_true
abbrev Ol:=@Nat.lt_or_ge
abbrev Om:=@Nat.mul_le_mul_right
abbrev On:=@Nat.add_assoc
abbrev Oo.{u}:=@List.mem_filter.{u}
abbrev Oq:=@Nat.add_zero
abbrev Ou.{u}:=@List.getElem?_cons_succ.{u}
abbrev Ov:=@Nat.zero_mul
abbrev Ow.{u}:=@List.length_drop.{u}
abbrev Ox.{u}:=@List.mem_append_left.{u}
abbrev Oy.{u}:=@List.mem_cons_self.{u}
abbrev O0.{u,v}:=@List.getElem?_map.{u,v}
abbrev O1:=@Int.toNat_natCast
abbrev O3.{u}:=@List.set_append_left.{u}
abbrev O4.{u}:=@List.ext_getElem.{u}
abbrev O5.{u,v}:=@Option.map_none.{u,v}
abbrev O7:=@Nat.le_max_right
abbrev O8:=@of_decide_eq_true
abbrev O9.{u,v}:=@List.foldl_cons.{u,v}
abbrev Pa.{u}:=@List.drop_eq_getElem_cons.{u}
abbrev Pc.{u}:=@Array.getElem?_push.{u}
abbrev Pd:=@Nat.min_eq_left
abbrev Pe.{u}:=@List.take_append_drop.{u}
abbrev Ph.{u}:=@List.length_replicate.{u}
abbrev Pi:=@Nat.add_sub_cancel_left
abbrev Pj.{u}:=@List.getElem?_take.{u}
abbrev Pk.{u}:=@List.getElem?_drop.{u}
abbrev Pn.{u}:=@List.take_length.{u}
abbrev Po:=@Decidable.byContradiction
abbrev Pq.{u}:=@Array.getElem?_setIfInBounds_ne.{u}
abbrev Pr.{u}:=@List.mem_append_right.{u}
abbrev Ps.{u}:=@List.mem_of_mem_take.{u}
abbrev Pt:=@Nat.add_mul
abbrev Pu.{u,v}:=@List.map_append.{u,v}
abbrev Pv.{u}:=@List.drop_eq_nil_of_le.{u}
abbrev Pw.{u}:=@List.set_cons_zero.{u}
abbrev Px:=@Nat.le_max_left
abbrev Py:=@eq_true
abbrev Pz.{u}:=@List.length_set.{u}
abbrev P0.{u}:=@List.getElem?_set_ne.{u}
abbrev P1.{u}:=@List.replicate_append_replicate.{u}
abbrev P2.{u}:=@List.take_succ_cons.{u}
abbrev P3:=@Nat.mod_lt
abbrev P4.{u,v}:=@List.map_congr_left.{u,v}
abbrev P5.{u,v}:=@List.flatMap_append.{u,v}
abbrev P6.{u}:=@List.set_cons_succ.{u}
abbrev P7.{u}:=@List.set_append_right.{u}
abbrev P8:=@Int.tdiv_eq_ediv_of_nonneg
abbrev P9:=@Nat.succ_mul
abbrev Qa:=@Nat.le_trans
abbrev Qc.{u}:=@List.take_zero.{u}
abbrev Qd.{u}:=@List.getElem_mem.{u}
abbrev Qe.{u}:=@List.replicate_succ.{u}
abbrev Qg:=@Nat.sub_self
abbrev Qh:=@Int.toNat_zero
abbrev Qi.{u}:=@List.getElem?_cons_zero.{u}
abbrev Qj.{u}:=@List.nodup_append.{u}
abbrev Qk.{u}:=@List.length_singleton.{u}
abbrev Qn.{u,v}:=@congrArg.{u,v}
abbrev Qo.{u}:=@List.take_append_of_le_length.{u}
abbrev Qp:=@Nat.eq_zero_or_pos
abbrev Qq:=@Nat.add_sub_cancel
abbrev Qr:=@true_and
abbrev Qs:=@Nat.mod_eq_of_lt
abbrev Qt.{u}:=@List.exists_mem_of_ne_nil.{u}
abbrev Qu.{u}:=@List.getElem_append_left.{u}
abbrev Qv.{u}:=@List.getElem?_replicate.{u}
abbrev Qw.{u}:=@List.drop_length.{u}
abbrev Qy.{u}:=@List.getElem?_set_self.{u}
abbrev Qz:=@Nat.succ_le_of_lt
abbrev Q0:=@Int.emod_eq_of_lt
abbrev Q1:=@Bool.eq_iff_iff
abbrev Q2:=@eq_false
abbrev Q3:=@Int.fdiv_eq_ediv_of_nonneg
abbrev Q4:=@Nat.add_comm
abbrev Q5.{u}:=@List.take_take.{u}
abbrev Q6.{u,v}:=@List.getElem_map.{u,v}
abbrev Q7.{u}:=@Option.eq_none_or_eq_some.{u}
abbrev Q8.{u}:=@List.getElem_append_right.{u}
end Go
namespace Go.AM
def loose (e:Nat):Nat:=2 ^ 62+e
inductive KK where
 | int (k:IntKind) | str | bool | ints (l:List IntKind)
 deriving DecidableEq,Inhabited
inductive EqKind where
 | bool | ptr | slice | map | func | iface | agg (l:List KK)
 deriving Inhabited
inductive CM where
 | any | pure | mk | maps | recs (m:Bool)
 deriving DecidableEq,Inhabited
def CM.isPure:CM->Bool
 | .pure=>true
 | _=>false
inductive AOp where
 | mov (x:Operand)
 | pick (c a b:Operand)
 | bin (op:BinOp) (x y:Operand)
 | eqv (neg:Bool) (k:EqKind) (x y:Operand)
 | un (op:UnOp) (x:Operand)
 | conv (k:IntKind) (x:Operand)
 | alloc (zero:List Value)
 | box (x:Operand)
 | build (zero:List Value) (parts:List (Nat×Nat×Operand))
 | buildSlice (len:Nat) (zero:List Value) (parts:List (Nat×Nat×Operand))
 | load1 (a:Operand)
 | loadN (n:Nat) (a:Operand)
 | store (n:Nat) (a x:Operand)
 | storeD (n:Nat) (a x:Operand)
 | nilCheck (x:Operand)
 | fieldAddr (off:Nat) (a:Operand)
 | field1 (off:Nat) (x:Operand)
 | fieldN (off n:Nat) (x:Operand)
 | idxAddrA (len esz:Nat) (x i:Operand)
 | idxAddrS (esz:Nat) (x i:Operand)
 | idxA (len esz:Nat) (agg:Bool) (x i:Operand)
 | idxStr (x i:Operand)
 | sliceS (esz:Nat) (x:Operand) (lo hi mx:Option Operand)
 | sliceA (n esz:Nat) (x:Operand) (lo hi mx:Option Operand)
 | sliceStr (x:Operand) (lo hi:Option Operand)
 | lenStr (x:Operand)
 | lenSlice (x:Operand)
 | capSlice (x:Operand)
 | lenMap (x:Operand)
 | lenK (n:Nat)
 | append (esz bytes:Nat) (str:Bool) (s x:Operand)
 | append0 (esz bytes:Nat) (str:Bool) (s x:Operand)
 | appendL (esz bytes:Nat) (str:Bool) (s x:Operand)
 | copy (esz:Nat) (d x:Operand)
 | minmax (mx:Bool) (xs:List Operand)
 | makeSlice (esz bytes:Nat) (zero:List Value) (len cap:Operand)
 | growNil (esz bytes:Nat) (zero:List Value) (s n:Operand)
 | die (x:Operand)
 | makeMap (hint:Option Operand)
 | lookup (kk:KK) (zero:Value) (ok:Bool) (m key:Operand)
 | mapUpdate (kk:KK) (m key v:Operand)
 | mapEntry (kk:KK) (zero:Value) (m key:Operand)
 | entryStore (m stamp v:Operand)
 | delete (kk:KK) (m key:Operand)
 | clear (zero:List Value) (x:Operand)
 | makeFunc (f:FuncId) (first captured:List Operand)
 | extract (i:Nat) (x:Operand)
 | b2s (x:Operand)
 | strId (x:Operand)
 | rowMark (x:Operand)
 | call (mp:CM) (f:Operand) (args:List Operand)
 | loadR (m:Bool) (n:Option Nat) (x:Operand)
 | loadO (n:Option Nat) (x b:Operand)
 | storeO (n:Nat) (a x b:Operand)
 | storeN (n:Nat) (a x:Operand)
 deriving Inhabited
def AOp.operands:AOp->List Operand
 | .mov x | .un _ x | .conv _ x | .box x | .load1 x | .loadN _ x | .nilCheck x | .fieldAddr _ x | .field1 _ x | .fieldN _ _ x | .lenStr x | .lenSlice x | .capSlice x | .lenMap x | .extract _ x | .b2s x | .strId x | .rowMark x | .die x | .clear _ x | .loadR _ _ x=>[x]
 | .pick c a b | .storeO _ c a b=>[c,a,b]
 | .bin _ x y | .eqv _ _ x y | .store _ x y | .storeN _ x y | .storeD _ x y | .idxAddrA _ _ x y | .idxAddrS _ x y | .idxA _ _ _ x y | .idxStr x y | .append _ _ _ x y | .append0 _ _ _ x y | .appendL _ _ _ x y | .copy _ x y | .makeSlice _ _ _ x y | .growNil _ _ _ x y | .lookup _ _ _ x y | .mapEntry _ _ x y | .delete _ x y | .loadO _ x y=>[x,y]
 | .mapUpdate _ m k v | .entryStore m k v=>[m,k,v]
 | .alloc _ | .lenK _=>[]
 | .build _ ps | .buildSlice _ _ ps=>ps.map (·.2.2)
 | .sliceS _ x lo hi mx | .sliceA _ _ x lo hi mx=>x::(lo.toList++hi.toList++mx.toList)
 | .sliceStr x lo hi=>x::(lo.toList++hi.toList)
 | .minmax _ xs=>xs
 | .makeMap h=>h.toList
 | .makeFunc _ a b=>a++b
 | .call _ f args=>f::args
structure AIns where
 dst:Option Nat
 guard:Option (Nat×Bool)
 op:AOp
 dest:Option Nat:=none
 mask:List Nat:=[]
 deriving Inhabited
inductive ACode where
 | skip
 | ops (l:List AIns)
 | drawn (n:Nat) (l:List AIns)
 | seq (a b:ACode)
 | cond (c:Operand) (thn els:ACode)
 | block (id:Nat) (body:ACode)
 | loop (body:ACode)
 | exit (id:Nat)
 | ret
 | rangeF (f:Operand) (params:List Nat) (assign body:ACode)
 | retM
 | retR
 | exitR (id:Nat)
 deriving Inhabited
inductive ARes where
 | tmp (t:Nat)
 | cell1 (a:Nat)
 | cellN (n a:Nat)
 deriving Inhabited
structure AFunc where
 ntmps:Nat
 results:List ARes
 body:ACode
 deriving Inhabited
structure LoopB where
 st:Nat
 pend:Option ACode
 fr:Nat->Value
 N:Nat
 params:List Nat
 assign:ACode
 body:ACode
inductive Blk where
 | dead
 | cells (ro:Bool) (c:List Value)
 | map (es:List (Value×Value))
 | loop (x:LoopB)
 | dfr
 | iter (m:Option Nat) (n:Nat) (seen:List Nat)
 deriving Inhabited
abbrev NB:=List Blk
def NF (H:NB) (i:Nat):Blk:=H.getD i .dead
def atom:Value->Bool
 | .bool _ | .int _ _ | .string _ | .pointer none | .map none | .nilFunc | .nilIface=>true
 | .slice none n c=>n == 0&&c == 0
 | .func (.func _) a b=>a.isEmpty&&b.isEmpty
 | .tuple a=>a.isEmpty
 | _=>false
def flat:Nat->Value->Bool
 | n+1,.agg cs=>cs.toList.all (flat n)
 | n+1,.tuple cs=>cs.toList.all (flat n)
 | _,v=>atom v
def olds (n:Nat):Nat->Value->Bool
 | d+1,.agg cs=>cs.toList.all (olds n d)
 | d+1,.tuple cs=>cs.toList.all (olds n d)
 | _,.pointer (some a)=>decide (a.block<n)
 | _,.slice (some a) _ _=>decide (a.block<n)
 | _,.map (some r)=>decide (r<n)
 | _,v=>atom v
def NA:Value->Bool
 | .tuple _=>false
 | _=>true
def ev (fr:Nat->Value):Operand->Value
 | .tmp t=>fr t
 | .const v=>v
 | .func f=>.func (.func f) #[] #[]
 | .global _=>undef
def place (dest:Option Nat) (b:Blk) (H:NB):Nat×NB:=
 match dest with
 | none=>(H.length,H++[b])
 | some i=>(i,H.set i b)
def loadCell (H:NB) (a:Addr):Option Value:=
 match NF H a.block with
 | .cells _ c=>c[a.off]?
 | _=>none
def loadCells (H:NB) (a:Addr) (n:Nat):Option (List Value):=
 match NF H a.block with
 | .cells _ c=>if a.off+n<=c.length then some ((c.drop a.off).take n) else none
 | _=>none
def Rk (c:List Value) (off:Nat):List Value->List Value
 | []=>c
 | v::vs=>Rk (c.set off v) (off+1) vs
def storeAt (lim:Nat) (H:NB) (a:Addr) (vs:List Value):Option NB:=
 match NF H a.block with
 | .cells false c=>if lim<=a.block/\a.off+vs.length<=c.length then some (H.set a.block (.cells false (Rk c a.off vs))) else none
 | _=>none
def NG (op:BinOp):Value->Value->Option Value
 | .int k a,.int k' b=>
   match op with
   | .shl=>if b<0 then none else some (.int k (k.wrap (a*2 ^ (min b.toNat k.bits))))
   | .shr=>if b<0 then none else some (.int k (a.fdiv (2 ^ (min b.toNat k.bits))))
   | _=>if k=k' then
     match op with
     | .add=>some (.int k (k.wrap (a+b)))
     | .sub=>some (.int k (k.wrap (a-b)))
     | .mul=>some (.int k (k.wrap (a*b)))
     | .quo=>if b=0 then none else some (.int k (k.wrap (a.tdiv b)))
     | .rem=>if b=0 then none else some (.int k (a.tmod b))
     | .and=>some (.int k (k.wrap (BitVec.ofInt k.bits a &&& BitVec.ofInt k.bits b).toNat))
     | .or=>some (.int k (k.wrap (BitVec.ofInt k.bits a ||| BitVec.ofInt k.bits b).toNat))
     | .xor=>some (.int k (k.wrap (BitVec.ofInt k.bits a ^^^ BitVec.ofInt k.bits b).toNat))
     | .andNot=>some (.int k (k.wrap (BitVec.ofInt k.bits a &&& ~~~ BitVec.ofInt k.bits b).toNat))
     | .eql=>some (.bool (a == b))
     | .neq=>some (.bool (a != b))
     | .lss=>some (.bool (decide (a<b)))
     | .leq=>some (.bool (decide (a<=b)))
     | .gtr=>some (.bool (decide (b<a)))
     | .geq=>some (.bool (decide (b<=a)))
     | _=>none
     else none
 | .string a,.string b=>
   match op with
   | .add=>if ((a.size+b.size:Nat):Int) > IntKind.i64.max then none else some (.string (a++b))
   | .eql=>some (.bool (a.toList == b.toList))
   | .neq=>some (.bool (!(a.toList == b.toList)))
   | .lss=>some (.bool (Op.bytesLess a.toList b.toList))
   | .leq=>some (.bool (Op.bytesLess a.toList b.toList||a.toList == b.toList))
   | .gtr=>some (.bool (!(Op.bytesLess a.toList b.toList||a.toList == b.toList)))
   | .geq=>some (.bool (!(Op.bytesLess a.toList b.toList)))
   | _=>none
 | _,_=>none
def TU:KK->Value->Value->Option Bool
 | .int k,.int k1 a,.int k2 b=>if k1=k/\k2=k then some (a == b) else none
 | .bool,.bool a,.bool b=>some (a == b)
 | .str,.string a,.string b=>some (a.toList == b.toList)
 | _,_,_=>none
def PR:List KK->List Value->List Value->Option Bool
 | [],[],[]=>some true
 | k::ks,x::xs,y::ys=>match TU k x y,PR ks xs ys with
   | some a,some b=>some (a&&b)
   | _,_=>none
 | _,_,_=>none
def VM:EqKind->Value->Value->Option Bool
 | .bool,.bool a,.bool b=>some (a == b)
 | .ptr,.pointer none,.pointer b=>some b.isNone
 | .ptr,.pointer (some _),.pointer none=>some false
 | .slice,.slice none _ _,.slice b _ _=>some b.isNone
 | .slice,.slice (some _) _ _,.slice none _ _=>some false
 | .map,.map none,.map b=>some b.isNone
 | .map,.map (some _),.map none=>some false
 | .func,.nilFunc,.nilFunc=>some true
 | .func,.nilFunc,.func _ _ _=>some false
 | .func,.func _ _ _,.nilFunc=>some false
 | .iface,.nilIface,.nilIface=>some true
 | .iface,.iface _ _,.nilIface=>some false
 | .agg l,.agg xs,.agg ys=>PR l xs.toList ys.toList
 | _,_,_=>none
def NQ:UnOp->Value->Option Value
 | .not,.bool b=>some (.bool !b)
 | .neg,.int k n=>some (.int k (k.wrap (0-n)))
 | .xor,.int k n=>some (.int k (k.wrap (BitVec.ofInt k.bits (if k.signed then -1 else k.max) ^^^ BitVec.ofInt k.bits n).toNat))
 | _,_=>none
def RJ (ρ:Operand->Value):List (Nat×Nat×Operand)->List Value->Option (List Value)
 | [],c=>some c
 | (off,size,x)::rest,c=>
   let vs:=(ρ x).cells.toList
   if vs.length=size/\off+size<=c.length/\NA (ρ x)=true then RJ ρ rest (Rk c off vs) else none
def bound (v:Value) (m:Nat):Option Nat:=
 match v with
 | .int _ i=>if 0<=i/\i<=(m:Int) then some i.toNat else none
 | _=>none
def bounds (ρ:Operand->Value) (len cap:Nat) (lo hi mx:Option Operand):Option (Nat×Nat×Nat):=
 match (match mx with | some x=>bound (ρ x) cap | none=>some cap) with
 | none=>none
 | some m=>
   match (match hi,mx with | some x,some _=>bound (ρ x) m | some x,none=>bound (ρ x) cap | none,none=>some len | none,some _=>none) with
   | none=>none
   | some h=>
     match (match lo with | some x=>bound (ρ x) h | none=>some 0) with
     | none=>none
     | some l=>some (l,h,m)
def U6 (esz:Nat) (ρ:Operand->Value) (v:Value) (lo hi mx:Option Operand):Option Value:=
 match v with
 | .slice a len cap=>
   if cap=loose esz then
    match bounds ρ len len lo hi mx with
    | none=>none
    | some (l,h,m)=>
      match mx with
      | none=>some (.slice (a.map (·.add (l*esz))) (h-l) (loose esz))
      | some _=>if m<2 ^ 62 then some (.slice (if m=l then a else a.map (·.add (l*esz))) (h-l) (m-l)) else none
   else if cap<2 ^ 62 then
    match bounds ρ len cap lo hi mx with
    | none=>none
    | some (l,h,m)=>some (.slice (if m=l then a else a.map (·.add (l*esz))) (h-l) (m-l))
   else none
 | _=>none
def firstCells (H:NB) (size:Nat) (str:Bool):Value->Option (List Value)
 | .slice none n _=>if str\/n≠0 then none else some []
 | .slice (some a) n _=>if str then none else if n=0 then some [] else loadCells H a (n*size)
 | .string s=>if str then some (s.data.toList.map fun b=>.int .u8 b.toNat) else none
 | _=>none
def lenOf:Value->Option Nat
 | .slice _ n _=>some n
 | .string s=>some s.size
 | _=>none
def PS:Nat:=2 ^ 45
def OH (lim:Nat) (dest:Option Nat) (esz bytes:Nat) (str:Bool) (s x:Value) (H:NB):Option (Value×NB):=
 match s,firstCells H esz str x,lenOf x with
 | .slice base n cap,some new,some m=>
   if esz=0\/(n+m)*bytes > PS\/n+m>=2 ^ 62\/cap<n then none
   else if m=0 then some (s,H)
   else match base with
    | none=>
      if n=0/\cap=0 then
       let (i,H'):=place dest (.cells false new) H
       some (.slice (some ⟨i,0,none⟩) m (loose esz),H')
      else none
    | some a=>
      match loadCells H a (n*esz) with
      | none=>none
      | some old=>
        if cap=loose esz then
         match NF H a.block with
         | .cells false _=>
           if lim<=a.block then
            let (i,H'):=place dest (.cells false (old++new)) (H.set a.block .dead)
            some (.slice (some ⟨i,0,none⟩) (n+m) (loose esz),H')
           else none
         | _=>none
        else if cap<2 ^ 62 then
         if n+m<=cap then
          match storeAt lim H (a.add (n*esz)) new with
          | some H'=>some (.slice base (n+m) cap,H')
          | none=>none
         else
          let (i,H'):=place dest (.cells false (old++new)) H
          some (.slice (some ⟨i,0,none⟩) (n+m) (loose esz),H')
        else none
 | _,_,_=>none
def V6 (mx:Bool):Value->Value->Option Value
 | .int k x,.int k' y=>if k=k' then some (.int k (if mx then (if x<y then y else x) else (if y<x then y else x))) else none
 | _,_=>none
def R7 (mx:Bool):Value->List Value->Option Value
 | x,[]=>some x
 | x,y::ys=>match V6 mx x y with
   | some z=>R7 mx z ys
   | none=>none
def Ux:List Value->List Value->Option Bool
 | [],[]=>some true
 | .int k a::xs,.int k' b::ys=>if k=k' then (Ux xs ys).map ((a == b)&&·) else none
 | _,_=>none
def Sr:List IntKind->List Value->Bool
 | [],[]=>true
 | k::ks,.int k' _::xs=>k == k'&&Sr ks xs
 | _,_=>false
def Sq:Value->Value->Option Bool
 | .int k a,.int k' b=>if k=k' then some (a == b) else none
 | .string a,.string b=>some (a == b)
 | .bool a,.bool b=>some (a == b)
 | .agg a,.agg b=>Ux a.toList b.toList
 | _,_=>none
def findKey (k:Value):List (Value×Value)->Nat->Option (Option (Nat×Value))
 | [],_=>some none
 | (k',v)::es,i=>match Sq k k' with
   | some true=>some (some (i,v))
   | some false=>findKey k es (i+1)
   | none=>none
def Sb:KK->Value->Bool
 | .int k,.int k' _=>k == k'
 | .str,.string _=>true
 | .bool,.bool _=>true
 | .ints l,.agg cs=>Sr l cs.toList
 | _,_=>false
def mapEntries (H:NB):Value->Option (List (Value×Value))
 | .map none=>some []
 | .map (some r)=>match NF H r with
   | .map es=>some es
   | _=>none
 | _=>none
def bytesOf:List Value->Option (List UInt8)
 | []=>some []
 | .int .u8 n::l=>match bytesOf l with
   | some bs=>some (UInt8.ofNat n.toNat::bs)
   | none=>none
 | _::_=>none
def RL (H:NB) (esz n:Nat):Value->Option (List Value)
 | .slice none m _=>if m=0 then some [] else none
 | .slice (some a) _ _=>loadCells H a (n*esz)
 | .string s=>if esz=1 then some ((s.data.toList.take n).map fun b=>.int .u8 b.toNat) else none
 | _=>none
def SC (m:Bool):Blk->Bool
 | .cells ro c=>match m with
   | true=>ro
   | false=>c.any fun v=>match v with
     | .int _ _=>false
     | _=>true
 | _=>false
def loadX (n:Option Nat) (H:NB) (p:Addr):Option Value:=match n with
 | none=>loadCell H p
 | some k=>(loadCells H p k).map fun c=>.agg c.toArray
def NH (lim:Nat) (dest:Option Nat) (o:AOp) (ρ:Operand->Value) (H:NB):Option (Value×NB):=
 match o with
 | .mov x=>some (ρ x,H)
 | .pick c a b=>match ρ c with
   | .bool true=>some (ρ a,H)
   | .bool false=>some (ρ b,H)
   | _=>none
 | .bin op x y=>(NG op (ρ x) (ρ y)).map (·,H)
 | .eqv neg k x y=>match VM k (ρ x) (ρ y) with
   | some b=>some (.bool (if neg then !b else b),H)
   | none=>none
 | .un op x=>(NQ op (ρ x)).map (·,H)
 | .conv k x=>match ρ x with
   | .int _ n=>some (.int k (k.wrap n),H)
   | _=>none
 | .alloc zero=>let (i,H'):=place dest (.cells false zero) H;some (.pointer (some ⟨i,0,none⟩),H')
 | .box x=>if NA (ρ x) then
   let (i,H'):=place dest (.cells false (ρ x).cells.toList) H;some (.pointer (some ⟨i,0,none⟩),H')
   else none
 | .build zero parts=>(RJ ρ parts zero).map fun c=>(.agg c.toArray,H)
 | .buildSlice len zero parts=>match RJ ρ parts zero with
   | some c=>let (i,H'):=place dest (.cells false c) H;some (.slice (some ⟨i,0,none⟩) len len,H')
   | none=>none
 | .load1 a=>match ρ a with
   | .pointer (some p)=>(loadCell H p).map (·,H)
   | _=>none
 | .loadN n a=>match ρ a with
   | .pointer (some p)=>(loadCells H p n).map fun c=>(.agg c.toArray,H)
   | _=>none
 | .loadR m n a=>match ρ a with
   | .pointer (some p)=>if SC m (NF H p.block)=true then (loadX n H p).map (·,H) else none
   | _=>none
 | .loadO n a b=>match ρ a,ρ b with
   | .pointer (some p),.pointer (some q)=>if p.block≠q.block then (loadX n H p).map (·,H) else none
   | _,_=>none
 | .storeO n a x b=>match ρ a,ρ b with
   | .pointer (some p),.pointer (some q)=>if p.block=q.block/\(ρ x).cells.size=n/\NA (ρ x)=true then (storeAt lim H p (ρ x).cells.toList).map (undef,·) else none
   | _,_=>none
 | .storeN n a x=>match ρ a with
   | .pointer (some p)=>if SC false (NF H p.block)=false/\(ρ x).cells.size=n/\NA (ρ x)=true then (storeAt lim H p (ρ x).cells.toList).map (undef,·) else none
   | _=>none
 | .store n a x=>match ρ a with
   | .pointer (some p)=>if (ρ x).cells.size=n/\NA (ρ x)=true then (storeAt lim H p (ρ x).cells.toList).map (undef,·) else none
   | _=>none
 | .storeD n a x=>match dest,ρ a with
   | some d,.pointer (some p)=>if p.block=d/\(ρ x).cells.size=n/\NA (ρ x)=true then (storeAt lim H p (ρ x).cells.toList).map (undef,·) else none
   | _,_=>none
 | .nilCheck x=>match ρ x with
   | .pointer (some p)=>some (.pointer (some p),H)
   | .func (.func f) a b=>some (.func (.func f) a b,H)
   | _=>none
 | .fieldAddr off a=>match ρ a with
   | .pointer (some p)=>some (.pointer (some (p.add off)),H)
   | _=>none
 | .field1 off x=>match ρ x with
   | .agg cs=>(cs.toList[off]?).map (·,H)
   | _=>none
 | .fieldN off n x=>match ρ x with
   | .agg cs=>some (.agg ((cs.toList.drop off).take n).toArray,H)
   | _=>none
 | .idxAddrA len esz x i=>match ρ x,ρ i with
   | .pointer (some p),.int _ n=>if 0<=n/\n<(len:Int) then some (.pointer (some (p.add (n.toNat*esz))),H) else none
   | _,_=>none
 | .idxAddrS esz x i=>match ρ x,ρ i with
   | .slice (some p) len _,.int _ n=>if 0<=n/\n<(len:Int) then some (.pointer (some (p.add (n.toNat*esz))),H) else none
   | _,_=>none
 | .idxA len esz agg x i=>match ρ x,ρ i with
   | .agg cs,.int _ n=>if 0<=n/\n<(len:Int) then
     (if agg then some (.agg ((cs.toList.drop (n.toNat*esz)).take esz).toArray,H) else (cs.toList[n.toNat*esz]?).map (·,H))
     else none
   | _,_=>none
 | .idxStr x i=>match ρ x,ρ i with
   | .string s,.int _ n=>if 0<=n then (s.data.toList[n.toNat]?).map fun b=>(.int .u8 b.toNat,H) else none
   | _,_=>none
 | .sliceS esz x lo hi mx=>(U6 esz ρ (ρ x) lo hi mx).map (·,H)
 | .sliceA n esz x lo hi mx=>match ρ x with
   | .pointer (some a)=>match bounds ρ n n lo hi mx with
     | some (l,h,m)=>if m<2 ^ 62 then some (.slice (some (if m=l then a else a.add (l*esz))) (h-l) (m-l),H) else none
     | none=>none
   | _=>none
 | .sliceStr x lo hi=>match ρ x with
   | .string s=>match bounds ρ s.size s.size lo hi none with
     | some (l,h,_)=>some (.string (s.extract l h),H)
     | none=>none
   | _=>none
 | .lenStr x=>match ρ x with
   | .string s=>some (.int .i64 s.size,H)
   | _=>none
 | .lenSlice x=>match ρ x with
   | .slice _ n _=>some (.int .i64 n,H)
   | _=>none
 | .capSlice x=>match ρ x with
   | .slice _ _ c=>if c<2 ^ 62 then some (.int .i64 c,H) else none
   | _=>none
 | .lenMap x=>(mapEntries H (ρ x)).map fun es=>(.int .i64 es.length,H)
 | .lenK n=>some (.int .i64 n,H)
 | .append esz bytes str s x=>OH lim dest esz bytes str (ρ s) (ρ x) H
 | .appendL esz bytes str s x=>match ρ s with
   | .slice none n c=>OH lim dest esz bytes str (.slice none n c) (ρ x) H
   | .slice (some a) n c=>if c=loose esz\/c=n then OH lim dest esz bytes str (.slice (some a) n c) (ρ x) H else none
   | _=>none
 | .append0 esz bytes str s x=>match ρ s with
   | .slice b 0 0=>OH lim dest esz bytes str (.slice b 0 0) (ρ x) H
   | _=>none
 | .copy esz d x=>match ρ d,lenOf (ρ x) with
   | .slice base e _,some sl=>match RL H esz (min sl e) (ρ x) with
     | some cs=>match base with
       | some a=>if min sl e=0 then some (.int .i64 0,H) else (storeAt lim H a cs).map (.int .i64 (min sl e:Nat),·)
       | none=>if e=0 then some (.int .i64 0,H) else none
     | none=>none
   | _,_=>none
 | .minmax mx xs=>match xs with
   | []=>none
   | x::r=>(R7 mx (ρ x) (r.map ρ)).map (·,H)
 | .makeSlice esz bytes zero len cap=>match ρ len,ρ cap with
   | .int _ l,.int _ c=>
     if 0<=l/\l<=c/\c*bytes<=2 ^ 45/\c<2 ^ 62 then
      let (i,H'):=place dest (.cells false ((List.range (c.toNat*esz)).map fun j=>zero.getD (j % zero.length) undef)) H
      some (.slice (some ⟨i,0,none⟩) l.toNat c.toNat,H')
     else none
   | _,_=>none
 | .growNil esz bytes zero s n=>match ρ s,ρ n with
   | .slice none 0 0,.int _ l=>
     if 0<l/\l*bytes<=2 ^ 45/\l<2 ^ 62 then
      let (i,H'):=place dest (.cells false ((List.range (l.toNat*esz)).map fun j=>zero.getD (j % zero.length) undef)) H
      some (.slice (some ⟨i,0,none⟩) l.toNat (loose esz),H')
     else none
   | _,_=>none
 | .die _=>none
 | .makeMap hint=>match (match hint with | none=>true | some x=>match ρ x with | .int _ _=>true | _=>false) with
   | true=>let (i,H'):=place dest (.map []) H;some (.map (some i),H')
   | false=>none
 | .lookup kk zero ok m key=>match mapEntries H (ρ m) with
   | some es=>if Sb kk (ρ key) then
     match findKey (ρ key) es 0 with
     | some (some (_,v))=>some (if ok then .tuple #[v,.bool true] else v,H)
     | some none=>some (if ok then .tuple #[zero,.bool false] else zero,H)
     | none=>none
     else none
   | none=>none
 | .mapUpdate kk m key v=>match ρ m with
   | .map (some r)=>match NF H r with
     | .map es=>if Sb kk (ρ key)/\lim<=r then
       match findKey (ρ key) es 0 with
       | some (some (i,_))=>some (undef,H.set r (.map (es.set i (ρ key,ρ v))))
       | some none=>some (undef,H.set r (.map (es++[(ρ key,ρ v)])))
       | none=>none
       else none
     | _=>none
   | _=>none
 | .mapEntry kk zero m key=>match ρ m with
   | .map (some r)=>match NF H r with
     | .map es=>if Sb kk (ρ key)/\lim<=r then
       match findKey (ρ key) es 0 with
       | some (some (i,v))=>some (.tuple #[v,.int .i64 i],H)
       | some none=>some (.tuple #[zero,.int .i64 es.length],H.set r (.map (es++[(ρ key,zero)])))
       | none=>none
       else none
     | _=>none
   | _=>none
 | .entryStore m stamp v=>match ρ m,ρ stamp with
   | .map (some r),.int .i64 n=>match NF H r with
     | .map es=>if 0<=n/\n.toNat<es.length/\lim<=r then some (undef,H.set r (.map (es.set n.toNat ((es.getD n.toNat (undef,undef)).1,ρ v)))) else none
     | _=>none
   | _,_=>none
 | .delete _ _ _=>none
 | .clear zero x=>match ρ x with
   | .slice (some a) n _=>if n=0 then some (.tuple #[],H) else (storeAt lim H a ((List.range (n*zero.length)).map fun j=>zero.getD (j % zero.length) undef)).map (.tuple #[],·)
   | _=>none
 | .makeFunc f first captured=>some (.func (.func f) (first.map ρ).toArray (captured.map ρ).toArray,H)
 | .extract i x=>match ρ x with
   | .tuple vs=>(vs.toList[i]?).map (·,H)
   | _=>none
 | .b2s x=>match ρ x with
   | .slice none n _=>if n=0 then some (.string .empty,H) else none
   | .slice (some a) n _=>match loadCells H a n with
     | some cs=>match bytesOf cs with
       | some bs=>some (.string ⟨bs.toArray⟩,H)
       | none=>none
     | none=>none
   | _=>none
 | .rowMark x=>match ρ x with
   | .slice (some a) n c=>match NF H a.block with
     | .cells false _=>if lim<=a.block/\n≠0 then some (.slice (some a) n c,H) else none
     | _=>none
   | _=>none
 | .strId x=>match ρ x with
   | .string s=>some (.string s,H)
   | _=>none
 | .call _ _ _=>none
def upd (fr:Nat->Value) (t:Nat) (v:Value):Nat->Value:=fun i=>if i=t then v else fr i
def WQ (N:Nat) (fr:Nat->Value) (dst:Option Nat) (v:Value):Option (Nat->Value):=
 match dst with
 | none=>some fr
 | some d=>if d<N then some (upd fr d v) else none
def RF (N:Nat) (fr:Nat->Value):Option (Nat×Bool)->Option Bool
 | none=>some true
 | some (t,b)=>if t<N then (match fr t with
   | .bool c=>some (c == b)
   | _=>some false) else none
def NN (base:Nat) (l:List Nat) (H:NB):NB:=l.foldl (fun H i=>H.set (base+i) .dead) H
def NL (base:Nat) (l:List Nat) (H0 H:NB):NB:=l.foldl (fun H i=>H.set (base+i) (NF H0 (base+i))) H
def NC (f:Value) (args:List Value):Option ((FuncId ⊕ Nat)×List Value):=
 match f with
 | .func (.func g) first captured=>some (.inl g,first.toList++args++captured.toList)
 | .func (.yield i) first captured=>some (.inr i,first.toList++args++captured.toList)
 | _=>none
def CM.lim:CM->Nat->NB->Nat
 | .mk,_,H=>H.length
 | _,l,_=>l
abbrev TH:=Bool->Nat->(FuncId ⊕ Nat)->List Value->NB->Option (Value×NB)
mutual
def Rw:Value->Value->Bool
 | .bool a,.bool b=>a == b
 | .int k a,.int k' b=>decide (k=k')&&decide (a=b)
 | .float k a,.float k' b=>decide (k=k')&&decide (a=b)
 | .complex k a c,.complex k' b d=>decide (k=k')&&decide (a=b)&&decide (c=d)
 | .string a,.string b=>a.data.toList == b.data.toList
 | .pointer a,.pointer b=>decide (a=b)
 | .slice a n c,.slice b m d=>decide (a=b)&&decide (n=m)&&decide (c=d)
 | .map a,.map b=>decide (a=b)
 | .chan a,.chan b=>decide (a=b)
 | .func f ⟨a⟩ ⟨c⟩,.func g ⟨b⟩ ⟨d⟩=>decide (f=g)&&UJ a b&&UJ c d
 | .nilFunc,.nilFunc=>true
 | .iface t v,.iface u w=>decide (t=u)&&Rw v w
 | .nilIface,.nilIface=>true
 | .agg ⟨a⟩,.agg ⟨b⟩=>UJ a b
 | .tuple ⟨a⟩,.tuple ⟨b⟩=>UJ a b
 | _,_=>false
def UJ:List Value->List Value->Bool
 | [],[]=>true
 | x::xs,y::ys=>Rw x y&&UJ xs ys
 | _,_=>false
end
mutual
theorem XV:∀v:Value,Rw v v=true
 | .bool a=>by simp [Rw]
 | .int k a=>by simp [Rw]
 | .float k a=>by simp [Rw]
 | .complex k a c=>by simp [Rw]
 | .string a=>by simp [Rw]
 | .pointer a=>by simp [Rw]
 | .slice a n c=>by simp [Rw]
 | .map a=>by simp [Rw]
 | .chan a=>by simp [Rw]
 | .func f ⟨a⟩ ⟨c⟩=>by simp [Rw,Tn a,Tn c]
 | .nilFunc=>by simp [Rw]
 | .iface t v=>by simp [Rw,XV v]
 | .nilIface=>by simp [Rw]
 | .agg ⟨a⟩=>by simp [Rw,Tn a]
 | .tuple ⟨a⟩=>by simp [Rw,Tn a]
theorem Tn:∀l:List Value,UJ l l=true
 | []=>by simp [UJ]
 | x::xs=>by simp [UJ,XV x,Tn xs]
end
mutual
theorem MF:∀v w:Value,Rw v w=true->v=w
 | .bool a,w,h=>by cases w<;>simp [Rw] at h;rw [h]
 | .int k a,w,h=>by cases w<;>simp [Rw] at h;rw [h.1,h.2]
 | .float k a,w,h=>by cases w<;>simp [Rw] at h;rw [h.1,h.2]
 | .complex k a c,w,h=>by cases w<;>simp [Rw] at h;rw [h.1.1,h.1.2,h.2]
 | .string a,w,h=>by
   cases w<;>simp [Rw] at h
   rename_i b
   obtain ⟨⟨x⟩⟩:=a
   obtain ⟨⟨y⟩⟩:=b
   simp at h
   rw [h]
 | .pointer a,w,h=>by cases w<;>simp [Rw] at h;rw [h]
 | .slice a n c,w,h=>by cases w<;>simp [Rw] at h;rw [h.1.1,h.1.2,h.2]
 | .map a,w,h=>by cases w<;>simp [Rw] at h;rw [h]
 | .chan a,w,h=>by cases w<;>simp [Rw] at h;rw [h]
 | .func f ⟨a⟩ ⟨c⟩,w,h=>by
   cases w<;>simp [Rw] at h
   rename_i g b d
   obtain ⟨b⟩:=b
   obtain ⟨d⟩:=d
   simp [Rw] at h
   rw [h.1.1,Uq a b h.1.2,Uq c d h.2]
 | .nilFunc,w,h=>by cases w<;>simp [Rw] at h;rfl
 | .iface t v,w,h=>by
   cases w<;>simp [Rw] at h
   rename_i u x
   rw [h.1,MF v x h.2]
 | .nilIface,w,h=>by cases w<;>simp [Rw] at h;rfl
 | .agg ⟨a⟩,w,h=>by
   cases w<;>simp [Rw] at h
   rename_i b
   obtain ⟨b⟩:=b
   simp [Rw] at h
   rw [Uq a b h]
 | .tuple ⟨a⟩,w,h=>by
   cases w<;>simp [Rw] at h
   rename_i b
   obtain ⟨b⟩:=b
   simp [Rw] at h
   rw [Uq a b h]
theorem Uq:∀l m:List Value,UJ l m=true->l=m
 | [],m,h=>by cases m<;>simp [UJ] at h;rfl
 | x::xs,m,h=>by
   cases m<;>simp [UJ] at h
   rename_i y ys
   rw [MF x y h.1,Uq xs ys h.2]
end
def blkSame:Blk->Blk->Bool
 | .cells ro c,.cells ro' c'=>decide (ro=ro')&&UJ c c'
 | .cells _ _,_=>false
 | _,_=>true
def Uz (H H':NB):Bool:=(List.range H.length).all fun j=>blkSame (NF H j) (NF H' j)
theorem Ncc {H H':NB} (h:Uz H H'=true) {j:Nat} {ro:Bool} {c:List Value} (a:NF H j=.cells ro c):NF H' j=.cells ro c:=by
 have b:j<H.length:=by
  rcases Ol j H.length with h1 | h1
  ·exact h1
  ·unfold NF at a
   rw [Na,Nv h1] at a
   cases a
 have:=N2.1 h j (List.mem_range.2 b)
 rw [a] at this
 cases hh:NF H' j with
 | cells d c'=>
   rw [hh] at this
   simp only [blkSame,Nq,Nx] at this
   rw [this.1,Uq _ _ this.2]
 | _=>rw [hh] at this;simp [blkSame] at this
theorem Nel {H H':NB} (h:∀j ro c,NF H j=.cells ro c->NF H' j=.cells ro c):Uz H H'=true:=by
 refine N2.2 fun j _=>?_
 cases hj:NF H j with
 | cells ro c=>rw [h j ro c hj];simp [blkSame,Tn]
 | _=>rfl
def Vj (m:Bool) (H H':NB):Bool:=(List.range H.length).all fun j=>!SC m (NF H j)||blkSame (NF H j) (NF H' j)
theorem Ta {m:Bool} {b:Blk} (h:SC m b=true):∃ro c,b=.cells ro c:=by
 cases b<;>first | exact ⟨_,_,rfl⟩ | cases h
theorem Nds {m:Bool} {H H':NB} (h:Vj m H H'=true) {j:Nat} (b:SC m (NF H j)=true):NF H' j=NF H j:=by
 obtain ⟨ro,c,hc⟩:=Ta b
 have a:j<H.length:=by
  rcases Ol j H.length with hl | hl
  ·exact hl
  ·unfold NF at hc
   rw [Na,Nv hl] at hc
   cases hc
 have:=N2.1 h j (List.mem_range.2 a)
 rw [b,Ok,Bool.false_or,hc] at this
 cases hh:NF H' j with
 | cells d c'=>
   rw [hh] at this
   simp only [blkSame,Nq,Nx] at this
   rw [hc,this.1,Uq _ _ this.2]
 | _=>rw [hh] at this;simp [blkSame] at this
theorem Nfc {m:Bool} {H H':NB} (h:∀j,SC m (NF H j)=true->NF H' j=NF H j):Vj m H H'=true:=by
 refine N2.2 fun j _=>?_
 cases hj:SC m (NF H j) with
 | false=>rfl
 | true=>
   rw [h j hj]
   obtain ⟨ro,c,hc⟩:=Ta hj
   rw [hc];simp [blkSame,Tn]
def UO:CM->NB->Option (Value×NB)->Option (Value×NB)
 | .maps,H,some (v,H')=>if Uz H H'=true then some (v,H') else none
 | .recs m,H,some (v,H')=>if Vj m H H'=true then some (v,H') else none
 | _,_,r=>r
theorem SN {m:CM} {H:NB} {r:Option (Value×NB)} {p:Value×NB} (h:UO m H r=some p):r=some p/\(m=.maps->Uz H p.2=true):=by
 cases m with
 | maps=>
   cases r with
   | none=>simp [UO] at h
   | some q=>
     obtain ⟨v,H'⟩:=q
     simp only [UO] at h
     split at h
     ·rename_i hc;cases h;exact ⟨rfl,fun _=>hc⟩
     ·cases h
 | recs=>
   cases r with
   | none=>simp [UO] at h
   | some q=>
     obtain ⟨v,H'⟩:=q
     simp only [UO] at h
     split at h
     ·cases h;exact ⟨rfl,fun e=>by cases e⟩
     ·cases h
 | _=>exact ⟨by simpa [UO] using h,fun e=>by cases e⟩
theorem Z4 {m:Bool} {H:NB} {r:Option (Value×NB)} {p:Value×NB} (h:UO (.recs m) H r=some p):Vj m H p.2=true:=by
 cases r with
 | none=>simp [UO] at h
 | some q=>
   obtain ⟨v,H'⟩:=q
   simp only [UO] at h
   split at h
   ·rename_i hc;cases h;exact hc
   ·cases h
theorem Nms {m:CM} {H:NB} {r r':Option (Value×NB)} (h:∀p,r=some p->r'=some p) {p:Value×NB} (hp:UO m H r=some p):UO m H r'=some p:=by
 obtain ⟨h1,h2⟩:=SN hp
 rw [h p h1]
 cases m with
 | maps=>obtain ⟨v,H'⟩:=p;simp only [UO,Nk (h2 rfl)]
 | recs=>obtain ⟨v,H'⟩:=p;simp only [UO,Nk (Z4 hp)]
 | _=>rfl
def Rj (C:TH) (lim:Nat) (dest:Option Nat) (o:AOp) (ρ:Operand->Value) (H:NB):Option (Value×NB):=
 match o with
 | .call mp f args=>match NC (ρ f) (args.map ρ) with
   | some (g,as)=>UO mp H (C mp.isPure (mp.lim lim H) g as H)
   | none=>none
 | o=>NH lim dest o ρ H
def SL (C:TH) (N lim:Nat) (base:Option Nat) (i:AIns) (fr:Nat->Value) (H:NB):Option (Value×NB):=
 match RF N fr i.guard with
 | none=>none
 | some false=>some (undef,H)
 | some true=>match base with
   | none=>Rj C lim none i.op (ev fr) H
   | some b=>match Rj C lim (i.dest.map (b+·)) i.op (ev fr) (NN b i.mask H) with
     | some (v,H')=>some (v,NL b i.mask H H')
     | none=>none
def Tv (C:TH) (N lim:Nat) (base:Option Nat) (i:AIns) (fr:Nat->Value) (H:NB):Option ((Nat->Value)×NB):=
 match SL C N lim base i fr H with
 | some (v,H')=>(WQ N fr i.dst v).map (·,H')
 | none=>none
abbrev Tf:=Bool->Nat->(FuncId ⊕ Nat)->List Value->NB->Option (List (Value×NB))
def oneOf {α:Type}:Option (List α)->Option α
 | some [x]=>some x
 | _=>none
def det (C:Tf):TH:=fun mp lim t as H=>oneOf (C mp lim t as H)
def YM {α β:Type} (f:α->Option β):List α->Option (List β)
 | []=>some []
 | x::l=>match f x,YM f l with
   | some y,some r=>some (y::r)
   | _,_=>none
def TG {α β:Type} (f:α->Option (List β)):List α->Option (List β)
 | []=>some []
 | x::l=>match f x,TG f l with
   | some y,some r=>some (y++r)
   | _,_=>none
def YO:Value->Bool
 | .agg cs=>cs.toList.all fun v=>match v with
   | .int _ _=>true
   | _=>false
 | .int _ _ | .string _ | .bool _=>true
 | _=>false
def WE (n:Nat) (seen:List Nat):List Nat:=(List.range n).filter fun j=>!seen.contains j
def VL (v:Value) (H:NB):Option (Value×NB):=match v,mapEntries H v with
 | .map m,some es=>some (.pointer (some ⟨H.length,0,none⟩),H++[.iter m es.length []])
 | _,_=>none
def Nbl (lim:Nat) (v:Value) (H:NB):Option (List (Value×NB)):=match v with
 | .pointer (some ⟨r,0,none⟩)=>match NF H r with
   | .iter m n seen=>if lim<=r then match mapEntries H (.map m) with
     | some es=>if es.length=n then match WE n seen with
       | []=>some [(.tuple #[.bool false],H)]
       | j::l=>YM (fun j=>match es[j]? with
         | some e=>if YO e.1 then some (.tuple #[.bool true,e.1,e.2],H.set r (.iter m n (seen++[j]))) else none
         | none=>none) (j::l)
       else none
     | none=>none
     else none
   | _=>none
 | _=>none
def Nbm (v:Value) (H:NB):Option (Value×NB):=match v with
 | .pointer (some ⟨r,0,none⟩)=>match NF H r with
   | .iter (some m) n seen=>match mapEntries H (.map (some m)),seen.getLast? with
     | some es,some j=>if es.length=n then match es[j]? with
       | some e=>if YO e.1 then some (.tuple #[e.1,e.2],H) else none
       | none=>none
     else none
     | _,_=>none
   | _=>none
 | _=>none
def WI (C:Tf) (lim:Nat) (o:AOp) (ρ:Operand->Value) (H:NB):Option (List (Value×NB)):=
 match o with
 | .call mp f args=>match NC (ρ f) (args.map ρ) with
   | some (g,as)=>match C mp.isPure (mp.lim lim H) g as H with
     | some L=>YM (fun r=>UO mp H (some r)) L
     | none=>none
   | none=>none
 | o=>(NH lim none o ρ H).map fun r=>[r]
def MM (k lim:Nat) (o:AOp) (ρ:Operand->Value) (H:NB):Option (List (Value×NB)):=
 match k,o with
 | 1,.mov x=>(VL (ρ x) H).map fun r=>[r]
 | 2,.mov x=>Nbl lim (ρ x) H
 | 3,.mov x=>(Nbm (ρ x) H).map fun r=>[r]
 | _,_=>none
def Ug (C:Tf) (lim:Nat) (i:AIns) (ρ:Operand->Value) (H:NB):Option (List (Value×NB)):=
 match i.dest with
 | none=>WI C lim i.op ρ H
 | some k=>MM k lim i.op ρ H
def Yg (C:Tf) (N lim:Nat) (i:AIns) (fr:Nat->Value) (H:NB):Option (List ((Nat->Value)×NB)):=
 match RF N fr i.guard with
 | none=>none
 | some false=>(WQ N fr i.dst undef).map fun f=>[(f,H)]
 | some true=>match Ug C lim i (ev fr) H with
   | some L=>YM (fun r=>(WQ N fr i.dst r.1).map (·,r.2)) L
   | none=>none
inductive AItem where
 | code (c:ACode)
 | ops (base:Option Nat) (l:List AIns)
 | inBlock (id:Nat)
 | inLoop (c:ACode)
 | begin (i:Nat)
 | round (i:Nat)
 | mark (i:Nat)
def roundOf:List AItem->Option Nat
 | []=>none
 | .round i::_=>some i
 | _::k=>roundOf k
def marks:List AItem->List Nat
 | []=>[]
 | .mark i::k=>marks k++[i]
 | _::k=>marks k
def shut (lim:Nat):List Nat->NB->Option NB
 | [],H=>some H
 | i::l,H=>match NF H i with
   | .dfr=>if lim<=i then shut lim l (H.set i .dead) else none
   | _=>none
def endRound (i:Nat) (j:Option ACode) (H:NB):Option (Value×NB):=
 match NF H i with
 | .loop x=>some (.bool j.isNone,H.set i (.loop { x with st:=if j.isNone then 0 else 2,pend:=j }))
 | _=>none
def TA (fr:Nat->Value):List Nat->List Value->(Nat->Value)
 | p::ps,v::vs=>TA (fun t=>if t=p then v else fr t) ps vs
 | _,_=>fr
def R9 (id:Nat):List AItem->Option (List AItem)
 | .inBlock id'::k=>if id'=id then some k else R9 id k
 | _::k=>R9 id k
 | []=>none
def NE (fr:Nat->Value) (H:NB):ARes->Option Value
 | .tmp t=>some (fr t)
 | .cell1 a=>match fr a with
   | .pointer (some p)=>loadCell H p
   | _=>none
 | .cellN n a=>match fr a with
   | .pointer (some p)=>(loadCells H p n).map fun c=>.agg c.toArray
   | _=>none
def Us (fr:Nat->Value) (H:NB):List ARes->Option (List Value)
 | []=>some []
 | r::rs=>match NE fr H r,Us fr H rs with
   | some v,some vs=>some (v::vs)
   | _,_=>none
def result (fr:Nat->Value) (H:NB) (a:List ARes):Option Value:=
 match Us fr H a with
 | some [v]=>some v
 | some vs=>some (.tuple vs.toArray)
 | none=>none
def ND (args:List Value):Nat->Value:=fun t=>args.getD t undef
structure Env where
 tr:FuncId->Option AFunc
 pure:FuncId->Bool
 orc:FuncId->List Value->Option Value
 dt:Bool
 eff:FuncId->List Value->NB->Option (Value×List (List Value)×Option (Nat×List Value))
def news (X:List (List Value)):NB:=X.map (Blk.cells false)
def No1 (H:NB):Option (Nat×List Value)->NB
 | none=>H
 | some (R,c)=>H.set R (.cells false c)
def Ncm (lim:Nat) (H:NB):Option (Nat×List Value)->Bool
 | none=>true
 | some (R,c)=>decide (lim<=R)&&match NF H R with
   | .cells false a=>decide (a.length=c.length)
   | _=>false
def Nji (H:NB) (r:List (List Value)×Option (Nat×List Value)):NB:=No1 H r.2++news r.1
variable (E:Env)
def one {α:Type} (r:Option α):Option (List α):=r.map fun x=>[x]
def QN (run:AFunc->Nat->List AItem->(Nat->Value)->NB->Option (List (Value×NB))):Tf:=fun a lim t as H=>
 match t with
 | .inl g=>
   match E.orc g as with
   | some v=>if as.all atom&&flat 4 v then some [(v,H)] else none
   | none=>
     match E.eff g as H with
     | some r=>if a||!Ncm lim H r.2.2 then none else some [(r.1,Nji H r.2)]
     | none=>
     match E.tr g with
     | none=>none
     | some af=>
       if E.pure g then
        match run af H.length [.code af.body] (ND as) H with
        | some ((v,_)::l)=>if l.all (fun r=>Rw v r.1) then (if olds H.length 4 v then some [(v,H)] else none) else none
        | _=>none
       else if a then none
       else run af lim [.code af.body] (ND as) H
 | .inr i=>
   if a then none
   else match NF H i with
    | .loop x=>if lim<=i/\as.length=x.params.length/\x.params.all (·<x.N)=true then run ⟨x.N,[],.skip⟩ lim [.code x.assign,.begin i,.code x.body,.round i] (TA x.fr x.params as) H else none
    | _=>none
def OW:Nat->AFunc->(lim:Nat)->List AItem->(Nat->Value)->NB->Option (List (Value×NB))
 | 0,_,_,_,_,_=>none
 | n+1,af,lim,k,fr,H=>
   match k with
   | []=>one ((result fr H af.results).map (·,H))
   | .inBlock _::k=>OW n af lim k fr H
   | .inLoop c::k=>OW n af lim (.code c::.inLoop c::k) fr H
   | .begin i::k=>match NF H i with
     | .loop x=>if x.st=0/\lim<=i then OW n af lim k fr (H.set i (.loop { x with st:=1 })) else none
     | _=>none
   | .round i::_=>if lim<=i then one (endRound i none H) else none
   | .mark _::_=>none
   | .ops _ []::k=>OW n af lim k fr H
   | .ops none (i::l)::k=>
     match Yg (QN E (OW n)) af.ntmps lim i fr H with
     | some L=>TG (fun r=>OW n af lim (.ops none l::k) r.1 r.2) L
     | none=>none
   | .ops (some b) (i::l)::k=>
     match Tv (det (QN E (OW n))) af.ntmps lim (some b) i fr H with
     | some (fr',H')=>OW n af lim (.ops (some b) l::k) fr' H'
     | none=>none
   | .code c::k=>
     match c with
     | .skip=>OW n af lim k fr H
     | .ops l=>OW n af lim (.ops none l::k) fr H
     | .drawn m l=>OW n af lim (.ops (some H.length) l::k) fr (H++List.replicate m .dead)
     | .seq a b=>OW n af lim (.code a::.code b::k) fr H
     | .cond c a b=>match ev fr c with
       | .bool true=>OW n af lim (.code a::k) fr H
       | .bool false=>OW n af lim (.code b::k) fr H
       | _=>none
     | .block id b=>OW n af lim (.code b::.inBlock id::k) fr H
     | .loop b=>OW n af lim (.code b::.inLoop b::k) fr H
     | .exit id=>match R9 id k with
       | some k'=>OW n af lim k' fr H
       | none=>none
     | .ret=>one ((result fr H af.results).map (·,H))
     | .retM=>match shut lim (marks k) H with
       | some H'=>one ((result fr H' af.results).map (·,H'))
       | none=>none
     | .retR=>match roundOf k with
       | some i=>if lim<=i then one (endRound i (some .retM) H) else none
       | none=>none
     | .exitR id=>match R9 id k with
       | some k'=>OW n af lim k' fr H
       | none=>match roundOf k with
         | some i=>if lim<=i then one (endRound i (some (.exit id)) H) else none
         | none=>none
     | .rangeF f ps assign body=>
       match NC (ev fr f) [.func (.yield (H.length+1)) #[] #[]] with
       | some (.inl g,as)=>
         match QN E (OW n) false lim (.inl g) as (H++[.dfr,.loop ⟨0,none,fr,af.ntmps,ps,assign,body⟩]) with
         | some L=>TG (fun r=>match NF r.2 (H.length+1) with
           | .loop x=>if x.st=1 then none else OW n af lim ((match x.pend with | none=>[] | some c=>[.code c])++(k++[.mark H.length])) fr (r.2.set (H.length+1) .dead)
           | _=>none) L
         | none=>none
       | _=>none
def Rh (n:Nat):Tf:=QN E (OW E n)
variable (P:Program) (pureF:FuncId->Bool)
def QB:Operand->Bool
 | .tmp _=>true
 | .const v=>atom v
 | .func _=>true
 | .global _=>false
def QV (t:TypeId):Option Bool:=
 match P.underlying t with
 | some (.struct _) | some (.array _ _)=>some true
 | some _=>some false
 | none=>none
def zeroOf (t:TypeId):Option (List Value):=
 match P.info? t with
 | some i=>match i.zero with
   | some z=>if z.cells.toList.all (fun v=>atom v&&v.oneCell') then some z.cells.toList else none
   | none=>none
 | none=>none
def Xm (t:TypeId):Option Value:=
 match P.info? t with
 | some i=>match i.zero with
   | some z=>if z.cells.toList.all (fun v=>atom v&&v.oneCell') then some z else none
   | none=>none
 | none=>none
def PH (t:TypeId):Option Nat:=(P.info? t).map (·.size)
def UH (t:TypeId):Option Nat:=(P.info? t).map (·.bytes)
def Xv (f':TypeId->Option (List KK)):List Field->Nat->Option (List KK)
    | [],_=>some []
    | f::fs,off=>if f.name= "_"\/f.offset≠off then none else
      match f' f.type with
      | some l=>if l.length=P.cellsOf f.type/\l.length≠0 then (Xv f' fs (off+l.length)).map (l++·) else none
      | none=>none
def OZ:Nat->TypeId->Option (List KK)
 | 0,_=>none
 | n+1,t=>match P.underlying t with
   | some .bool=>some [.bool]
   | some (.int k)=>some [.int k]
   | some .string=>some [.str]
   | some (.array len e)=>match OZ n e with
     | some l=>if l.length=P.cellsOf e then some (List.replicate len l).flatten else none
     | none=>none
   | some (.struct fs)=>if P.stoodInHeld t then none else Xv P (OZ n) fs.toList 0
   | _=>none
def Tw (t:TypeId):Option EqKind:=
 match P.underlying t with
 | some .bool=>some .bool
 | some (.pointer _)=>some .ptr
 | some (.slice _)=>some .slice
 | some (.map _ _)=>some .map
 | some (.func _ _ _)=>some .func
 | some (.struct _) | some (.array _ _)=>if P.eqGuardType P.depth t then none else (OZ P 20 t).map .agg
 | _=>none
def Tu:List KK->Option (List IntKind)
 | []=>some []
 | .int k::l=>(Tu l).map (k::·)
 | _=>none
def Sm (t:TypeId):Option KK:=
 match P.underlying t with
 | some (.int k)=>some (.int k)
 | some .string=>some .str
 | some .bool=>some .bool
 | some (.struct _) | some (.array _ _)=>match OZ P 20 t with
   | some l=>(Tu l).map .ints
   | none=>none
 | _=>none
def Nhl (a:Array Field) (x:Nat×Operand):Option (Nat×Nat×Operand):=do
 let f <-a[x.1]?
 let s <-PH P f.type
 if QB x.2 then pure (f.offset,s,x.2) else none
def Nrn (t:TypeId):Bool:=match P.underlying t with
 | some .bool=>true
 | some (.int _)=>true
 | some .string=>true
 | _=>false
def Zh (p:Bool) (o:Oper):Option AOp:=
 if !(o.op.operands.toList.all QB) then none else
 match o.op with
 | .move x | .assign x=>some (.mov x)
 | .pick c a b=>some (.pick c a b)
 | .alloc e=>(zeroOf P e).map .alloc
 | .box _ x=>some (.box x)
 | .build t parts=>do
   let z <-zeroOf P t
   match P.underlying t with
   | some (.struct fs)=>do
     let ps <-parts.toList.mapM (Nhl P fs)
     if fs.toList.all (fun f=>(P.info? f.type).isSome) then pure (.build z ps) else none
   | some (.array _ e)=>do
     let s <-PH P e
     pure (.build z (parts.toList.map fun x=>(x.1*s,s,x.2)))
   | _=>none
 | .buildSlice t len parts=>do
   match P.underlying t with
   | some (.slice e)=>do
     let s <-PH P e
     let z <-zeroOf P e
     if z.length≠s\/s=0\/len*s > 2 ^ 20 then none else
     pure (.buildSlice len ((List.range (len*s)).map fun j=>z.getD (j % z.length) undef) (parts.toList.map fun x=>(x.1*s,s,x.2)))
   | _=>none
 | .load t a=>do
   let h <-QV P t
   if h then (PH P t).map (.loadN · a) else some (.load1 a)
 | .store t a x=>(PH P t).map (.store · a x)
 | .nilCheck x=>some (.nilCheck x)
 | .binOp op t x y _=>
   match P.underlying t with
   | some (.int _) | some .string=>some (.bin op x y)
   | some (.interface _)=>match y with
     | .const .nilIface=>match op with
       | .eql=>some (.eqv false .iface x y)
       | .neq=>some (.eqv true .iface x y)
       | _=>none
     | _=>none
   | _=>match op with
     | .eql=>(Tw P t).map (.eqv false · x y)
     | .neq=>(Tw P t).map (.eqv true · x y)
     | _=>none
 | .unOp op _ x=>some (.un op x)
 | .convert s d x=>
   match P.underlying s,P.underlying d with
   | some (.int _),some (.int k)=>some (.conv k x)
   | some .string,some .string=>some (.strId x)
   | some (.slice e),some .string=>match P.underlying e with
     | some (.int .u8)=>some (.b2s x)
     | _=>none
   | some (.slice e),some (.slice _)=>match P.underlying e with
     | some (.int .u8)=>if s=d then some (.rowMark x) else none
     | _=>none
   | _,_=>none
 | .makeFunc (.func f) first captured=>some (.makeFunc f first.toList captured.toList)
 | .makeInterface _ x=>some (.die x)
 | .panic x=>some (.die x)
 | .makeMap t x=>match P.underlying t with
   | some (.map _ _)=>some (.makeMap x)
   | _=>none
 | .makeSlice t l c=>do
   match P.underlying t with
   | some (.slice e)=>do
     let s <-PH P e
     let b <-UH P e
     let z <-zeroOf P e
     if z.length≠s\/s=0 then none else pure (.makeSlice s b z l c)
   | _=>none
 | .slice t x lo hi mx=>do
   match P.underlying t with
   | some (.slice e)=>do
     let s <-PH P e
     if s=0 then none else pure (.sliceS s x lo hi mx)
   | some (.array n e)=>do
     let s <-PH P e
     if s=0 then none else pure (.sliceA n s x lo hi mx)
   | some .string=>if mx.isSome then none else some (.sliceStr x lo hi)
   | _=>none
 | .fieldAddr s x f=>do
   match P.underlying s with
   | some (.struct fs)=>do
     let fd <-fs[f]?
     let n <-PH P fd.type
     if n=0 then none else pure (.fieldAddr fd.offset x)
   | _=>none
 | .field s x f=>do
   match P.underlying s with
   | some (.struct fs)=>do
     let fd <-fs[f]?
     let n <-PH P fd.type
     let h <-QV P fd.type
     if h then pure (.fieldN fd.offset n x) else pure (.field1 fd.offset x)
   | _=>none
 | .indexAddr t x i=>do
   match P.underlying t with
   | some (.slice e)=>do
     let s <-PH P e
     pure (.idxAddrS s x i)
   | some (.array n e)=>do
     let s <-PH P e
     pure (.idxAddrA n s x i)
   | _=>none
 | .index t x i=>do
   match P.underlying t with
   | some (.array n e)=>do
     let s <-PH P e
     let h <-QV P e
     pure (.idxA n s h x i)
   | some .string=>pure (.idxStr x i)
   | _=>none
 | .lookup t m k ok=>do
   match P.underlying t with
   | some (.map kt e)=>do
     let z <-Xm P e
     let kk <-Sm P kt
     pure (.lookup kk z ok m k)
   | _=>none
 | .mapUpdate t m k x | .insert t m k x=>do
   match P.underlying t with
   | some (.map kt _)=>(Sm P kt).map fun kk=>.mapUpdate kk m k x
   | _=>none
 | .mapEntry t m k=>do
   match P.underlying t with
   | some (.map kt e)=>do
     let z <-Xm P e
     let kk <-Sm P kt
     pure (.mapEntry kk z m k)
   | _=>none
 | .entryStore _ m s x=>some (.entryStore m s x)
 | .extract x i=>some (.extract i x)
 | .call c=>do
   match c.callee with
   | .value f=>pure (.call (if p&&(match f with | .func g=>pureF g | _=>Nrn P o.type) then .pure else .any) f c.args.toList)
   | .builtin .len=>match c.args.toList,c.argTypes.toList with
     | [x],[t]=>match P.underlying t with
       | some .string=>some (.lenStr x)
       | some (.slice _)=>some (.lenSlice x)
       | some (.map _ _)=>some (.lenMap x)
       | some (.array n _)=>some (.lenK n)
       | _=>none
     | _,_=>none
   | .builtin .cap=>match c.args.toList,c.argTypes.toList with
     | [x],[t]=>match P.underlying t with
       | some (.slice _)=>some (.capSlice x)
       | _=>none
     | _,_=>none
   | .builtin .append=>match c.args.toList,c.argTypes.toList with
     | [s,x],[st,xt]=>match P.underlying st,P.underlying xt with
       | some (.slice e),some (.slice _)=>do
         let n <-PH P e
         let b <-UH P e
         let z <-zeroOf P e
         if z.length=n then pure (.append n b false s x) else none
       | some (.slice e),some .string=>do
         let n <-PH P e
         let b <-UH P e
         let z <-zeroOf P e
         if z.length=n/\n=1 then pure (.append n b true s x) else none
       | some (.slice e),some (.int _)=>do
         let n <-PH P e
         let b <-UH P e
         let z <-zeroOf P e
         if z.length=n/\n≠0 then pure (.growNil n b z s x) else none
       | _,_=>none
     | _,_=>none
   | .builtin .copy=>match c.args.toList,c.argTypes.toList with
     | [d,x],dt::_=>match P.underlying dt with
       | some (.slice e)=>(PH P e).map (.copy · d x)
       | _=>none
     | _,_=>none
   | .builtin .clear=>match c.args.toList,c.argTypes.toList with
     | [x],t::_=>match P.underlying t with
       | some (.slice e)=>(zeroOf P e).map (.clear · x)
       | _=>none
     | _,_=>none
   | .builtin .min=>some (.minmax false c.args.toList)
   | .builtin .max=>some (.minmax true c.args.toList)
   | .builtin .delete=>match c.args.toList,c.argTypes.toList with
     | [m,k],t::_=>match P.underlying t with
       | some (.map kt _)=>(Sm P kt).map fun kk=>.delete kk m k
       | _=>none
     | _,_=>none
   | _=>none
 | _=>none
inductive Kind where
 | p | r | a | w | c | n | s
 deriving DecidableEq,Inhabited
def kind:AOp->Kind
 | .mov _ | .pick .. | .bin .. | .eqv .. | .un .. | .conv .. | .build .. | .nilCheck _ | .fieldAddr .. | .field1 .. | .fieldN .. | .idxAddrA .. | .idxAddrS ..
 | .idxA .. | .idxStr .. | .sliceS .. | .sliceA .. | .sliceStr .. | .lenStr _ | .lenSlice _ | .capSlice _ | .lenK _ | .minmax .. | .makeFunc .. | .extract .. | .strId _ | .die _=>.p
 | .load1 _ | .loadN .. | .lenMap _ | .lookup .. | .b2s _ | .rowMark _ | .loadR .. | .loadO ..=>.r
 | .alloc _ | .box _ | .buildSlice .. | .makeSlice .. | .growNil .. | .makeMap _=>.a
 | .store .. | .storeO .. | .storeN .. | .append .. | .appendL .. | .copy .. | .mapUpdate .. | .mapEntry .. | .entryStore .. | .delete .. | .clear ..=>.w
 | .append0 ..=>.n
 | .storeD ..=>.s
 | .call mp ..=>if mp.isPure then .r else .c
def makes:AOp->Bool
 | .append .. | .append0 .. | .appendL ..=>true
 | o=>kind o=.a
def waits (ops:Array Oper):Nat->Nat->Nat->Bool
 | 0,_,_=>false
 | n+1,x,a=>match ops[x]? with
   | some o=>o.after.toList.any fun e=>Region.binds .any e&&(e.on == a||waits ops n e.on a)
   | none=>false
def conflict (k l:Kind):Bool:=
 match k,l with
 | .p,_ | _,.p=>false
 | .s,_ | _,.s=>false
 | .c,.a | .a,.c=>false
 | .c,_ | _,.c=>true
 | .a,_ | _,.a=>false
 | .w,_ | _,.w=>true
 | .r,.r | .n,.n | .n,.r | .r,.n=>false
def X8:AOp->Bool
 | .storeD ..=>true
 | _=>false
def AIns.made (i:AIns):Option Nat:=if X8 i.op then none else i.dest
def QG (l:List AOp):List (Option Nat):=
 go 0 l
where
 go (n:Nat):List AOp->List (Option Nat)
  | []=>[]
  | o::l=>if makes o then some n::go (n+1) l else none::go n l
def Y3 (ops:Array Oper):Option (Nat×Bool)->Option (Option (Nat×Bool))
 | none=>some none
 | some (j,b)=>match (ops[j]?).bind (·.dst) with
   | some t=>some (some (t,b))
   | none=>none
def Nj6 (b:Bool) (ops:Array Oper) (o:Oper):Option AIns:=do
 let a <-Zh P pureF b o
 let g <-Y3 ops o.guard
 pure { dst:=o.dst,guard:=g,op:=a }
def Nsk (o:Oper):Option (Operand×Nat):=
 if !(o.op.operands.toList.all QB) then none else
 match o.op with
 | .range t x=>match P.underlying t with
   | some (.map _ _)=>some (x,1)
   | _=>none
 | .next b a=>if a then none else some (b,2)
 | .entry b=>some (b,3)
 | _=>none
def WH (ops:Array Oper) (o:Oper):Option AIns:=
 match Nj6 P pureF false ops o with
 | some i=>some i
 | none=>do
   let a <-Nsk P o
   let g <-Y3 ops o.guard
   pure { dst:=o.dst,guard:=g,op:=.mov a.1,dest:=some a.2 }
def AIns.looks (i:AIns):List Nat:=
 (i.op.operands.filterMap fun | .tmp t=>some t | _=>none)++(match i.guard with | some (t,_)=>[t] | none=>[])
def Z9 (x y:AIns):Bool:=
 (match x.dst with
  | some d=>!y.looks.contains d&&y.dst != some d
  | none=>true) &&
 (match y.dst with
  | some d=>!x.looks.contains d
  | none=>true)
def isL:AOp->Bool
 | .appendL ..=>true
 | _=>false
def isLoad:AOp->Bool
 | .load1 _ | .loadN ..=>true
 | _=>false
def isRead:AOp->Bool
 | .load1 _ | .loadN .. | .lenMap _ | .lookup .. | .b2s _=>true
 | _=>false
def Nth:AOp->Bool
 | .call .mk ..=>true
 | _=>false
def isMaps:AOp->Bool
 | .call .maps ..=>true
 | _=>false
def isRecs:AOp->Bool
 | .call (.recs _) ..=>true
 | _=>false
def YP:AOp->Bool
 | .loadR false ..=>true
 | _=>false
def isLR (a b:AOp):Bool:=match a,b with
 | .loadR m _ _,.call (.recs m') _ _=>m == m'
 | _,_=>false
theorem Nmh {a b:AOp} (h:isLR a b=true):∃m n x f as,a=.loadR m n x/\b=.call (.recs m) f as:=by
 unfold isLR at h
 split at h
 ·rw [beq_iff_eq] at h;subst h;exact ⟨_,_,_,_,_,rfl,rfl⟩
 ·cases h
theorem Nb7 {a:AOp} (h:YP a=true):∃n x,a=.loadR false n x:=by
 unfold YP at h
 split at h
 ·exact ⟨_,_,rfl⟩
 ·cases h
def isO (a b:AOp):Bool:=match a,b with
 | .loadO _ _ (.tmp s),.storeO _ _ _ (.tmp t)=>s == t
 | _,_=>false
def isE (a b:AOp):Bool:=match a,b with
 | .lookup _ (.int k n) false (.tmp x) (.tmp y),.mapEntry _ (.int k' n') (.tmp x') (.tmp y')=>k == k'&&n == n'&&x == x'&&y == y'
 | _,_=>false
def Naq:AOp->Bool
 | .storeN ..=>true
 | _=>false
def calm (a b:AOp):Bool:=isE a b||(YP a&&Naq b)||!conflict (kind a) (kind b)||(isL a&&isLoad b)||(isRead a&&Nth b)||(isLoad a&&isMaps b)||isLR a b||isO a b
def Nh6 (ops:Array Oper) (l:List AIns) (i j:Nat):Bool:=
 waits ops ops.size i j ||
  match l[i]?,l[j]? with
  | some a,some b=>Z9 b a&&calm b.op a.op
  | _,_=>false
def Nkc (ops:Array Oper):List Nat->List Nat->Bool
 | _,[]=>true
 | A,i::B=>(match ops[i]? with
   | some o=>o.after.toList.all fun e=>!Region.binds .any e||A.contains e.on
   | none=>true)&&Nkc ops (A++[i]) B
def M0 (ops:Array Oper) (l:List AIns):List Nat->List Nat->Bool
 | _,[]=>true
 | A,i::B=>(A.all fun j=>Nh6 ops l i j)&&M0 ops l (A++[i]) B
def nodupB:List Nat->Bool
 | []=>true
 | x::l=>!l.contains x&&nodupB l
def Npq (n:Nat) (ord:List Nat):Bool:=(ord.all (·<n))&&((List.range n).all fun i=>ord.contains i)&&nodupB ord
def Nxo (l:List AIns) (b:List (Option Nat)) (i:AIns):Option Nat:=
 match i.op with
 | .storeD _ (.tmp t) _=>match (List.range l.length).find? fun k=>match l[k]? with
   | some a=>a.dst == some t&&(match a.op with | .alloc _=>true | _=>false)
   | none=>false with
   | some k=>b.getD k none
   | none=>none
 | _=>none
def QT (ops:Array Oper) (b:List (Option Nat)) (j:Nat) (i:AIns):AIns:=
 { i with dest:=b.getD j none,mask:=if kind i.op=.r\/kind i.op=.w\/kind i.op=.n\/kind i.op=.c then
     ((List.range b.length).filterMap fun a=>if a≠j/\!waits ops ops.size j a then b.getD a none else none) else [] }
def WG:AOp->AOp
 | .append0 e b s x y=>.append e b s x y
 | .appendL e b s x y=>.append e b s x y
 | .storeD n a x=>.store n a x
 | .loadR _ none x=>.load1 x
 | .loadR _ (some n) x=>.loadN n x
 | .loadO none x _=>.load1 x
 | .loadO (some n) x _=>.loadN n x
 | .storeO n a x _=>.store n a x
 | .storeN n a x=>.store n a x
 | o=>o
def isNone:AOp->Bool
 | .buildSlice 0 _ _=>true
 | _=>false
def fresh (l:List AIns) (i:AIns):AIns:=
 match i.op with
 | .append e b s (.tmp t) y=>if l.any (fun j=>j.dst == some t&&isNone j.op) then { i with op:=.append0 e b s (.tmp t) y } else i
 | _=>i
def late (ops:Array Oper) (l:List AIns):Option Nat:=
 (List.range l.length).find? fun k=>match l[k]? with
  | some a=>(match a.op with | .append ..=>true | _=>false)&&(List.range l.length).any fun j=>j != k&&(match l[j]? with | some b=>isLoad b.op | none=>false)&&!waits ops ops.size j k&&!waits ops ops.size k j
  | none=>false
def toL (i:AIns):AIns:=match i.op with
 | .append e b s x y=>{ i with op:=.appendL e b s x y }
 | _=>i
def toS (l:List AIns) (i:AIns):AIns:=match i.op with
 | .store n (.tmp t) x=>if l.any (fun j=>j.dst == some t&&(match j.op with | .alloc _=>true | _=>false)) then { i with op:=.storeD n (.tmp t) x } else i
 | _=>i
def WR (st:Bool) (l:List AIns) (i:AIns):AIns:=if st then toS l (fresh l i) else fresh l i
def MQ (l:List AIns) (a:List (Option Nat)) (i:AIns):AIns:=if X8 i.op then { i with dest:=Nxo l a i } else i
def Nw1 (ops:Array Oper) (L:List AIns):Bool:=
 (List.range L.length).all fun i=>match L[i]? with
  | some x=>!(X8 x.op)||(List.range L.length).all fun j=>i == j||waits ops ops.size i j||waits ops ops.size j i ||
    match x.dest,L[j]? with
    | some r,some y=>y.dest != some r&&(y.mask.contains r||kind y.op == .p||kind y.op == .a||kind y.op == .s)
    | _,_=>true
  | none=>true
def Nrf (L:List AIns) (n:Nat):Bool:=L.all fun x=>!(X8 x.op)||match x.dest with
 | some r=>decide (r<n)
 | none=>false
def Wq (ops:Array Oper) (l:List AIns) (k:Nat):Bool:=
 (List.range l.length).any fun j=>j != k&&(match l[j]? with | some b=>isRead b.op | none=>false)&&!waits ops ops.size j k&&!waits ops ops.size k j
def codeAny (p:Oper->Bool):Code->Bool
 | .region _ ops _=>ops.any p
 | .seq a b=>codeAny p a||codeAny p b
 | .cond _ a b=>codeAny p a||codeAny p b
 | .block _ b=>codeAny p b
 | .loop b=>codeAny p b
 | _=>false
def mapsIn:Nat->FuncId->Bool
 | 0,_=>false
 | n+1,g=>match P.funcs[g]? with
   | some fn=>match fn.body with
     | some b=>codeAny (fun o=>match o.op with
       | .mapUpdate .. | .insert .. | .mapEntry ..=>true
       | .call c=>match c.callee with
         | .value (.func g')=>mapsIn n g'
         | _=>false
       | _=>false) b
     | none=>false
   | none=>false
def Nhm (i:AIns):AIns:=match i.op with
 | .call .any (.func g) as=>if mapsIn P 3 g then { i with op:=.call .maps (.func g) as } else { i with op:=.call .mk (.func g) as }
 | .call .any f as=>{ i with op:=.call .mk f as }
 | _=>i
def Nbg (ops:Array Oper) (l:List AIns) (k:Nat):Bool:=
 (List.range l.length).any fun j=>j != k&&(match l[j]? with | some b=>(match b.op with | .call .any ..=>true | _=>false) | none=>false)&&!waits ops ops.size j k&&!waits ops ops.size k j
def Nfd (l:List AIns):Bool:=(l.all fun i=>!makes i.op)&&l.any fun i=>match i.op with | .store ..=>true | _=>false
def Njs (l:List AIns):Operand->Option Operand
 | .tmp a=>match l.find? fun j=>j.dst == some a with
   | some j=>match j.op with
     | .fieldAddr _ (.tmp t)=>some (.tmp t)
     | _=>none
   | none=>none
 | _=>none
def Nrl (ops:Array Oper) (j k:Nat):Bool:=j != k&&!waits ops ops.size j k&&!waits ops ops.size k j
def Mj (ops:Array Oper) (l:List AIns) (k:Nat):Option Operand:=
 match (List.range l.length).find? fun j=>(match l[j]? with | some b=>(match b.op with | .store ..=>true | _=>false) | none=>false)&&Nrl ops j k with
 | some j=>match l[j]? with
   | some b=>match b.op with
     | .store _ a _=>Njs l a
     | _=>none
   | none=>none
 | none=>none
def Njr (ops:Array Oper) (l:List AIns) (k:Nat):Bool:=
 (List.range l.length).any fun j=>(match l[j]? with | some b=>(match b.op with | .load1 .. | .loadN ..=>true | _=>false) | none=>false)&&Nrl ops j k
def besideStoreN (ops:Array Oper) (l:List AIns) (k:Nat):Bool:=
 (List.range l.length).any fun j=>(match l[j]? with | some b=>(match b.op with | .store _ a _=>(Njs l a).isNone | _=>false) | none=>false)&&Nrl ops j k
def Ne0 (ops:Array Oper) (l:List AIns) (k:Nat) (i:AIns):AIns:=match i.op with
 | .call .any f as=>if Wq ops l k then { i with op:=.call (.recs false) f as } else i
 | .load1 x=>if Nbg ops l k||besideStoreN ops l k then { i with op:=.loadR false none x } else match Mj ops l k with
   | some b=>{ i with op:=.loadO none x b }
   | none=>i
 | .loadN n x=>if Nbg ops l k||besideStoreN ops l k then { i with op:=.loadR false (some n) x } else match Mj ops l k with
   | some b=>{ i with op:=.loadO (some n) x b }
   | none=>i
 | .store n a x=>if Njr ops l k then match Njs l a with
   | some b=>{ i with op:=.storeO n a x b }
   | none=>{ i with op:=.storeN n a x }
   else i
 | _=>i
def isEl (l:List AIns):AOp->Bool
 | .loadN _ (.tmp a)=>(l.find? fun j=>j.dst == some a).any fun j=>match j.op with
   | .idxAddrS ..=>true
   | _=>false
 | _=>false
def Nei (ops:Array Oper) (l:List AIns) (k:Nat):Bool:=match l[k]? with
 | some i=>(match i.op with | .call .any (.func g) _=>!mapsIn P 3 g | _=>false)&&Wq ops l k&&(List.range l.length).all fun j=>j == k||(match l[j]? with | some b=>!isRead b.op||isEl l b.op | none=>true)||waits ops ops.size j k||waits ops ops.size k j
 | none=>false
def fixLoad (ops:Array Oper) (l:List AIns) (k:Nat):Bool:=match l[k]? with
 | some i=>isEl l i.op&&(List.range l.length).any fun j=>j != k&&Nei P ops l j&&!waits ops ops.size j k&&!waits ops ops.size k j
 | none=>false
def ZF (i:AIns):AIns:=match i.op with
 | .call .any f as=>{ i with op:=.call (.recs true) f as }
 | .loadN n x=>{ i with op:=.loadR true (some n) x }
 | _=>i
def mks (l:List AIns):List Nat:=(List.range l.length).filter fun k=>match l[k]? with | some a=>Nth a.op||isMaps a.op||isRecs a.op | none=>false
def Ngn (key:Nat->Nat) (j:Nat):List Nat->List Nat
 | []=>[j]
 | i::l=>if key j<key i then j::i::l else i::Ngn key j l
def Nuo (ops:Array Oper) (n:Nat) (ms:List Nat):Option Nat->List Nat
 | some k=>(List.range n).filter (fun j=>j == k||waits ops ops.size k j)++(List.range n).filter (fun j=>!(j == k||waits ops ops.size k j))
 | none=>match ms with
   | []=>List.range n
   | _=>
     let key:=fun j=>2*(ms.filter fun m=>waits ops ops.size j m).length+(if ms.contains j then 1 else 0)
     (List.range n).foldl (fun l j=>Ngn key j l) []
def VC (st:Bool) (ops:Array Oper):Option ACode:=do
 let l0 <-ops.toList.mapM (Nj6 P pureF true ops)
 let l1:=l0.map (WR st l0)
 let k:=late ops l1
 let l2:=l1.zipIdx.map fun (i,j)=>if k=some j then toL i else i
 let l:=l2.zipIdx.map fun (i,j)=>if Nfd l2 then Ne0 ops l2 j i else if Nei P ops l2 j||fixLoad P ops l2 j then ZF i else if Wq ops l2 j then Nhm P i else i
 let ord:=Nuo ops l.length (mks l) k
 let a:=QG (l.map (·.op))
 let b:=l.zipIdx.map fun (i,j)=>MQ l a (QT ops a j i)
 if Npq ops.size ord&&Nkc ops [] ord&&M0 ops l [] ord&&l0.all (fun i=>!X8 i.op)&&Nw1 ops b&&Nrf b (a.filterMap id).length then
  pure (.drawn (a.filterMap id).length (ord.map fun j=>b.getD j default))
 else none
def UR (ops:Array Oper):Option ACode:=match VC P pureF false ops with
 | some c=>some c
 | none=>VC P pureF true ops
def VN:Code->Option ACode
 | .skip=>some .skip
 | .region _ ops d=>
   if d then UR P pureF ops
   else do
    let l <-ops.toList.mapM (WH P pureF ops)
    pure (.ops l)
 | .seq a b=>do pure (.seq (<-VN a) (<-VN b))
 | .cond c a b=>do if QB c then pure (.cond c (<-VN a) (<-VN b)) else none
 | .block id b=>do pure (.block id (<-VN b))
 | .loop b=>do pure (.loop (<-VN b))
 | .exit id=>some (.exit id)
 | .ret=>some .ret
 | _=>none
def Y2:ResultVar->Option ARes
 | .tmp t=>some (.tmp t)
 | .cell a t=>do
   let n <-PH P t
   let b <-QV P t
   if b then pure (.cellN n a) else pure (.cell1 a)
def Ti:Code->Option ACode
 | .skip=>some .skip
 | .region _ ops d=>
   if d then UR P pureF ops
   else do
    let l <-ops.toList.mapM (WH P pureF ops)
    pure (.ops l)
 | .seq a b=>do pure (.seq (<-Ti a) (<-Ti b))
 | .cond c a b=>do if QB c then pure (.cond c (<-Ti a) (<-Ti b)) else none
 | .block id b=>do pure (.block id (<-Ti b))
 | .loop b=>do pure (.loop (<-Ti b))
 | .exit id=>some (.exitR id)
 | .ret=>some .retR
 | _=>none
def TP:Code->Option ACode
 | .skip=>some .skip
 | .region _ ops d=>
   if d then UR P pureF ops
   else do
    let l <-ops.toList.mapM (WH P pureF ops)
    pure (.ops l)
 | .seq a b=>do pure (.seq (<-TP a) (<-TP b))
 | .cond c a b=>do if QB c then pure (.cond c (<-TP a) (<-TP b)) else none
 | .block id b=>do pure (.block id (<-TP b))
 | .loop b=>do pure (.loop (<-TP b))
 | .exit id=>some (.exit id)
 | .ret=>some .retM
 | .rangeFunc f ps a b=>do if QB f then pure (.rangeF f ps.toList (<-Ti P pureF a) (<-Ti P pureF b)) else none
 | _=>none
def Nj7 (f:FuncId):Option AFunc:=do
 let fn <-P.funcs[f]?
 let b <-fn.body
 let c <-VN P pureF b
 let rs <-fn.results.toList.mapM (Y2 P)
 if fn.name == "runtime.NumGoroutine" then none else
 pure { ntmps:=fn.ntmps,results:=rs,body:=c }
def Nj8 (f:FuncId):Option AFunc:=do
 let fn <-P.funcs[f]?
 let b <-fn.body
 let c <-TP P pureF b
 let rs <-fn.results.toList.mapM (Y2 P)
 if fn.name == "runtime.NumGoroutine" then none else
 pure { ntmps:=fn.ntmps,results:=rs,body:=.seq c .retM }
def NT (f:FuncId):Option AFunc:=
 match Nj7 P pureF f with
 | some a=>some a
 | none=>Nj8 P pureF f
def Gl (P:Program) (w:World):Prop:=Go.Lib.TabIs P w "internal/strconv.uint64pow10" .u64 Go.Lib.pow10Tab/\(∃t p,w.var? P "strconv.ErrSyntax"=some #[.iface t p])/\∃t p,w.var? P "strconv.ErrRange"=some #[.iface t p]
def Drw (_ _:Nat):Prop:=True
theorem Drw.of {a b:Nat} (_:a<=b):Drw a b:=trivial
theorem Drw.trans {a b c:Nat} (_:Drw a b) (_:Drw b c):Drw a c:=trivial
structure Loc where
 blk:Nat
 base:Nat
 room:Nat
abbrev PQ:=Nat->Option Loc
inductive VRel (σ:PQ):Value->Value->Prop
 | atom {v} (h:atom v=true):VRel σ v v
 | ptr {i k L} (h:σ i=some L):VRel σ (.pointer (some ⟨i,k,none⟩)) (.pointer (some ⟨L.blk,L.base+k,none⟩))
 | slice {i k L n c} (h:σ i=some L) (hc:c<2 ^ 62):VRel σ (.slice (some ⟨i,k,none⟩) n c) (.slice (some ⟨L.blk,L.base+k,none⟩) n c)
 | lslice {i k L n e c} (h:σ i=some L) (hn:n<=c) (hr:k+c*e<=L.room) :
   VRel σ (.slice (some ⟨i,k,none⟩) n (loose e)) (.slice (some ⟨L.blk,L.base+k,none⟩) n c)
 | eslice {i k L c a} (h:σ i=some L) (hc:c=0\/∃e,c=loose e):VRel σ (.slice (some ⟨i,k,none⟩) 0 c) (.slice (some a) 0 0)
 | map {i L} (h:σ i=some L):VRel σ (.map (some i)) (.map (some L.blk))
 | func {f:FuncId} {a b c d:Array Value} (h1:a.size=c.size) (h2:b.size=d.size)
   (k1:∀i (h:i<a.size) (h':i<c.size),VRel σ a[i] c[i]) (k2:∀i (h:i<b.size) (h':i<d.size),VRel σ b[i] d[i]) :
   VRel σ (.func (.func f) a b) (.func (.func f) c d)
 | err {t:TypeId} {v:Value}:VRel σ (.iface 0 .nilIface) (.iface t v)
 | yld {i L} (h:σ i=some L):VRel σ (.func (.yield i) #[] #[]) (.func (.yield L.blk) #[] #[])
 | agg {xs ys:Array Value} (h:xs.size=ys.size) (k:∀i (h:i<xs.size) (h':i<ys.size),VRel σ xs[i] ys[i]) (o:∀i (h:i<ys.size),ys[i].oneCell'=true):VRel σ (.agg xs) (.agg ys)
 | tuple {xs ys:Array Value} (h:xs.size=ys.size) (k:∀i (h:i<xs.size) (h':i<ys.size),VRel σ xs[i] ys[i]):VRel σ (.tuple xs) (.tuple ys)
def OB (σ:PQ) (xs ys:List Value):Prop:=xs.length=ys.length/\∀(i:Nat) x y,xs[i]? = some x->ys[i]? = some y->VRel σ x y
def PQ.le (σ τ:PQ):Prop:=∀i L,σ i=some L->τ i=some L
theorem PQ.le_refl (σ:PQ):PQ.le σ σ:=fun _ _ h=>h
theorem PQ.le_trans {a b c:PQ} (h:PQ.le a b) (k:PQ.le b c):PQ.le a c:=fun i L hi=>k i L (h i L hi)
theorem VRel.mono {σ τ:PQ} (a:PQ.le σ τ) {v v':Value} (h:VRel σ v v'):VRel τ v v':=by
 induction h with
 | atom h=>exact .atom h
 | ptr h=>exact .ptr (a _ _ h)
 | slice h hc=>exact .slice (a _ _ h) hc
 | lslice h hn hr=>exact .lslice (a _ _ h) hn hr
 | eslice h hc=>exact .eslice (a _ _ h) hc
 | map h=>exact .map (a _ _ h)
 | err=>exact .err
 | yld h=>exact .yld (a _ _ h)
 | func h1 h2 _ _ k1 k2=>exact .func h1 h2 k1 k2
 | agg h k o ih=>exact .agg h ih o
 | tuple h k ih=>exact .tuple h ih
theorem OB.mono {σ τ:PQ} (a:PQ.le σ τ) {v v':List Value} (h:OB σ v v'):OB τ v v':=⟨h.1,fun i x y b c=>(h.2 i x y b c).mono a⟩
theorem OB.nil {σ:PQ}:OB σ [] []:=⟨rfl,fun i x y h=>by simp at h⟩
theorem OB.cons {σ:PQ} {x y:Value} {xs ys:List Value} (h:VRel σ x y) (k:OB σ xs ys):OB σ (x::xs) (y::ys):=by
 refine ⟨by simp [k.1],fun i a b c hb=>?_⟩
 cases i with
 | zero=>simp at c hb;subst c hb;exact h
 | succ i=>simp at c hb;exact k.2 i a b c hb
theorem OB.head {σ:PQ} {x y:Value} {xs ys:List Value} (h:OB σ (x::xs) (y::ys)):VRel σ x y:=h.2 0 x y rfl rfl
theorem OB.tail {σ:PQ} {x y:Value} {xs ys:List Value} (h:OB σ (x::xs) (y::ys)):OB σ xs ys:=
 ⟨by have:=h.1;simp at this;exact this,fun i a b c hb=>h.2 (i+1) a b (by simpa using c) (by simpa using hb)⟩
theorem OB.append {σ:PQ} {a b c d:List Value} (h:OB σ a c) (k:OB σ b d):OB σ (a++b) (c++d):=by
 refine ⟨by simp [h.1,k.1],fun i x y e f=>?_⟩
 by_cases hi:i<a.length
 ·rw [Ny hi] at e
  rw [Ny (by rw [<-h.1];exact hi)] at f
  exact h.2 i x y e f
 ·rw [N0 (by omega)] at e
  rw [N0 (by rw [<-h.1];omega),<-h.1] at f
  exact k.2 _ x y e f
theorem OB.drop {σ:PQ} {a b:List Value} (h:OB σ a b) (n:Nat):OB σ (a.drop n) (b.drop n):=
 ⟨by simp [h.1],fun i x y c d=>h.2 (n+i) x y (by simpa using c) (by simpa using d)⟩
theorem OB.take {σ:PQ} {a b:List Value} (h:OB σ a b) (n:Nat):OB σ (a.take n) (b.take n):=by
 refine ⟨by simp [h.1],fun i x y c d=>?_⟩
 simp only [Pj] at c d
 split at c
 ·rename_i hi;rw [Nk hi] at d;exact h.2 i x y c d
 ·cases c
theorem OB.get {σ:PQ} {a b:List Value} (h:OB σ a b) {i:Nat} {x:Value} (c:a[i]? = some x):∃y,b[i]? = some y/\VRel σ x y:=by
 have hi:i<a.length:=(List.getElem?_eq_some_iff.1 c).1
 have hb:b[i]? = some (b[i]'(by rw [<-h.1];exact hi)):=Nf _
 exact ⟨_,hb,h.2 i _ _ c hb⟩
theorem OB.refl_of {σ:PQ} {a:List Value} (h:∀x∈a,VRel σ x x):OB σ a a:=
 ⟨rfl,fun i x y b c=>by rw [b] at c;cases c;exact h x (Oa b)⟩
theorem OB.set {σ:PQ} {a b:List Value} (h:OB σ a b) {x y:Value} (k:VRel σ x y) (n:Nat):OB σ (a.set n x) (b.set n y):=by
 refine ⟨by simp [h.1],fun i u v c d=>?_⟩
 rw [N3] at c d
 by_cases hn:n=i
 ·subst hn
  rw [Nk rfl] at c d
  split at c
  ·split at d
   ·cases c;cases d;exact k
   ·cases d
  ·cases c
 ·rw [Ni hn] at c d
  exact h.2 i u v c d
theorem OB.map {σ:PQ} {α:Type} (l:List α) (f g:α->Value) (h:∀x∈l,VRel σ (f x) (g x)):OB σ (l.map f) (l.map g):=by
 refine ⟨by simp,fun i u v d e=>?_⟩
 simp only [O0,Nc] at d e
 obtain ⟨a,c,rfl⟩:=d
 obtain ⟨b,hb,rfl⟩:=e
 rw [c] at hb;cases hb
 exact h a (Oa c)
theorem VRel.agg_iff {σ:PQ} {xs ys:Array Value}:VRel σ (.agg xs) (.agg ys)↔OB σ xs.toList ys.toList/\∀y∈ys.toList,y.oneCell'=true:=by
 constructor
 ·intro h
  cases h with
  | atom h=>simp [AM.atom] at h
  | agg h k o=>
    refine ⟨⟨by simpa using h,fun i x y b a=>?_⟩,fun y a=>?_⟩
    ·simp only [Array.getElem?_toList] at b a
     obtain ⟨hi,rfl⟩:=Array.getElem?_eq_some_iff.1 b
     obtain ⟨c,rfl⟩:=Array.getElem?_eq_some_iff.1 a
     exact k i hi c
    ·obtain ⟨i,hi,rfl⟩:=Array.mem_iff_getElem.1 (Array.mem_toList_iff.1 a)
     exact o i hi
 ·rintro ⟨h,k⟩
  refine .agg (by simpa using h.1) (fun i h1 h2=>h.2 i _ _ (by simp [h1]) (by simp [h2])) (fun i h1=>k _ (by simp))
theorem VRel.tuple_iff {σ:PQ} {xs ys:Array Value}:VRel σ (.tuple xs) (.tuple ys)↔OB σ xs.toList ys.toList:=by
 constructor
 ·intro h
  cases h with
  | atom h=>
    have h0:xs=#[]:=by simpa [AM.atom] using h
    subst h0
    exact OB.nil
  | tuple h k=>
    refine ⟨by simpa using h,fun i x y a b=>?_⟩
    simp only [Array.getElem?_toList] at a b
    obtain ⟨hi,rfl⟩:=Array.getElem?_eq_some_iff.1 a
    obtain ⟨c,rfl⟩:=Array.getElem?_eq_some_iff.1 b
    exact k i hi c
 ·intro h
  exact .tuple (by simpa using h.1) fun i h1 h2=>h.2 i _ _ (by simp [h1]) (by simp [h2])
theorem VRel.agg_left {σ:PQ} {xs:Array Value} {v:Value} (h:VRel σ (.agg xs) v):∃ys,v=.agg ys/\OB σ xs.toList ys.toList/\∀y∈ys.toList,y.oneCell'=true:=by
 cases h with
 | atom h=>simp [AM.atom] at h
 | agg h k o=>exact ⟨_,rfl,VRel.agg_iff.1 (.agg h k o)⟩
theorem VRel.tuple_left {σ:PQ} {xs:Array Value} {v:Value} (h:VRel σ (.tuple xs) v):∃ys,v=.tuple ys/\OB σ xs.toList ys.toList:=by
 cases h with
 | atom h=>exact ⟨_,rfl,VRel.tuple_iff.1 (.atom h)⟩
 | tuple h k=>exact ⟨_,rfl,VRel.tuple_iff.1 (.tuple h k)⟩
theorem VRel.int_left {σ:PQ} {k:IntKind} {n:Int} {v:Value} (h:VRel σ (.int k n) v):v=.int k n:=by cases h;rfl
theorem VRel.bool_left {σ:PQ} {b:Bool} {v:Value} (h:VRel σ (.bool b) v):v=.bool b:=by cases h;rfl
theorem VRel.string_left {σ:PQ} {b:ByteArray} {v:Value} (h:VRel σ (.string b) v):v=.string b:=by cases h;rfl
theorem VRel.nilptr_left {σ:PQ} {v:Value} (h:VRel σ (.pointer none) v):v=.pointer none:=by cases h;rfl
theorem VRel.nilmap_left {σ:PQ} {v:Value} (h:VRel σ (.map none) v):v=.map none:=by cases h;rfl
theorem VRel.nilfunc_left {σ:PQ} {v:Value} (h:VRel σ .nilFunc v):v=.nilFunc:=by cases h;rfl
theorem VRel.nilIface_left {σ:PQ} {v:Value} (h:VRel σ .nilIface v):v=.nilIface:=by cases h;rfl
theorem VRel.iface_left {σ:PQ} {t:TypeId} {u v:Value} (h:VRel σ (.iface t u) v):∃a u',v=.iface a u':=by
 cases h with
 | atom h=>simp [AM.atom] at h
 | err=>exact ⟨_,_,rfl⟩
theorem VRel.nilslice_left {σ:PQ} {n c:Nat} {v:Value} (h:VRel σ (.slice none n c) v):n=0/\c=0/\v=.slice none 0 0:=by
 cases h with
 | atom h=>
   have h0:n=0/\c=0:=by simpa [AM.atom] using h
   obtain ⟨rfl,rfl⟩:=h0
   exact ⟨rfl,rfl,rfl⟩
theorem VRel.ptr_left {σ:PQ} {p:Addr} {v:Value} (h:VRel σ (.pointer (some p)) v):∃L,σ p.block=some L/\p.spot=none/\v=.pointer (some ⟨L.blk,L.base+p.off,none⟩):=by
 cases h with
 | atom h=>simp [AM.atom] at h
 | ptr h=>exact ⟨_,h,rfl,rfl⟩
theorem VRel.map_left {σ:PQ} {r:Nat} {v:Value} (h:VRel σ (.map (some r)) v):∃L,σ r=some L/\v=.map (some L.blk):=by
 cases h with
 | atom h=>simp [AM.atom] at h
 | map h=>exact ⟨_,h,rfl⟩
theorem VRel.func_left {σ:PQ} {f:FuncId} {a b:Array Value} {v:Value} (h:VRel σ (.func (.func f) a b) v):∃c d,v=.func (.func f) c d/\OB σ a.toList c.toList/\OB σ b.toList d.toList:=by
 have key:∀{x y:Array Value},x.size=y.size->(∀i (h:i<x.size) (h':i<y.size),VRel σ x[i] y[i])->OB σ x.toList y.toList:=by
  intro x y h k
  exact VRel.tuple_iff.1 (.tuple h k)
 cases h with
 | atom h=>
   have h0:a=#[]/\b=#[]:=by simpa [AM.atom] using h
   obtain ⟨rfl,rfl⟩:=h0
   exact ⟨_,_,rfl,OB.nil,OB.nil⟩
 | func h1 h2 k1 k2=>exact ⟨_,_,rfl,key h1 k1,key h2 k2⟩
theorem VRel.slice_left {σ:PQ} {p:Addr} {n c:Nat} {v:Value} (h:VRel σ (.slice (some p) n c) v):p.spot=none/\∃L,σ p.block=some L/\
  ((c<2 ^ 62/\v=.slice (some ⟨L.blk,L.base+p.off,none⟩) n c)\/
   (∃e,c=loose e/\∃c',n<=c'/\p.off+c'*e<=L.room/\v=.slice (some ⟨L.blk,L.base+p.off,none⟩) n c')\/
   (∃a,(c=0\/∃e,c=loose e)/\n=0/\v=.slice (some a) 0 0)):=by
 cases h with
 | atom h=>simp [AM.atom] at h
 | slice h hc=>exact ⟨rfl,_,h,.inl ⟨hc,rfl⟩⟩
 | lslice h hn hr=>exact ⟨rfl,_,h,.inr (.inl ⟨_,rfl,_,hn,hr,rfl⟩)⟩
 | eslice h hc=>exact ⟨rfl,_,h,.inr (.inr ⟨_,hc,rfl,rfl⟩)⟩
theorem VRel.slice' {σ:PQ} {a:Addr} {L:Loc} {n c:Nat} (d:a.spot=none) (e:σ a.block=some L) (hc:c<2 ^ 62):VRel σ (.slice (some a) n c) (.slice (some ⟨L.blk,L.base+a.off,none⟩) n c):=by
 obtain ⟨b,o,s⟩:=a
 simp only at d;subst d
 exact .slice e hc
theorem VRel.eslice' {σ:PQ} {a b:Addr} {L:Loc} {c:Nat} (d:a.spot=none) (f:σ a.block=some L) (hc:c=0\/∃e,c=AM.loose e):VRel σ (.slice (some a) 0 c) (.slice (some b) 0 0):=by
 obtain ⟨b,o,s⟩:=a
 simp only at d;subst d
 exact .eslice f hc
theorem VRel.cells {σ:PQ} {v v':Value} (h:VRel σ v v'):OB σ v.cells.toList v'.cells.toList:=by
 cases h with
 | agg h k o=>exact (VRel.agg_iff.1 (.agg h k o)).1
 | atom h=>
   cases v<;>first | exact OB.cons (.atom h) OB.nil | (simp [AM.atom] at h)
 | ptr h=>exact OB.cons (.ptr h) OB.nil
 | slice h hc=>exact OB.cons (.slice h hc) OB.nil
 | lslice h hn hr=>exact OB.cons (.lslice h hn hr) OB.nil
 | eslice h hc=>exact OB.cons (.eslice h hc) OB.nil
 | map h=>exact OB.cons (.map h) OB.nil
 | err=>exact OB.cons .err OB.nil
 | yld h=>exact OB.cons (.yld h) OB.nil
 | func h1 h2 k1 k2=>exact OB.cons (.func h1 h2 k1 k2) OB.nil
 | tuple h k=>exact OB.cons (.tuple h k) OB.nil
theorem VRel.cells_one {σ:PQ} {v v':Value} (h:VRel σ v v') (b:NA v=true):∀x∈v'.cells.toList,x.oneCell'=true:=by
 intro x a
 cases h with
 | agg h k o=>exact (VRel.agg_iff.1 (.agg h k o)).2 x a
 | atom h=>cases v<;>first | (simp [NA] at b;done) | (simp [Value.cells] at a;subst a;rfl) | (simp [AM.atom] at h;done)
 | tuple h k=>simp [NA] at b
 | _=>simp [Value.cells] at a;subst a;rfl
def owned:Blk->Bool
 | .dead=>false
 | .cells ro _=>!ro
 | _=>true
def alive:Blk->Bool
 | .dead=>false
 | _=>true
def Nok (fz:Nat×Nat) (n:Nat):Prop:=fz.1=fz.2\/n<=fz.1
theorem Nok.ok {fz:Nat×Nat} {n:Nat} (h:Nok fz n) (o:Nat) (ho:o<n):¬(fz.1<=o/\o<fz.2):=by
 rcases h with h | h<;>omega
structure Prg where
 P:Program
 pf:FuncId->Bool
def Nwz:Nat->LoopState
 | 0=>.ready
 | 1=>.busy
 | _=>.done
structure LoopRel (Pg:Prg) (σ:PQ) (x:LoopB) (lp:Loop):Prop where
 st:lp.state=Nwz x.st
 pend:match x.pend with
  | none=>lp.pending=none
  | some c=>∃C,lp.pending=some C/\TP Pg.P Pg.pf C=some c
 size:x.N<=lp.tmps.size
 val:∀t,VRel σ (x.fr t) (lp.tmps.getD t undef)
 params:lp.params.toList=x.params
 assign:Ti Pg.P Pg.pf lp.assign=some x.assign
 body:Ti Pg.P Pg.pf lp.body=some x.body
theorem LoopRel.mono {Pg:Prg} {σ τ:PQ} (a:PQ.le σ τ) {x:LoopB} {lp:Loop} (h:LoopRel Pg σ x lp):LoopRel Pg τ x lp:=
 ⟨h.st,h.pend,h.size,fun t=>(h.val t).mono a,h.params,h.assign,h.body⟩
def Njy (n clock:Nat) (ents:Array MapEntry):Prop:=clock=n/\∀(j:Nat) e,ents[j]? = some e->e.born=j
def MB (σ:PQ) (m m':Option Nat):Prop:=match m with
 | none=>m'=none
 | some r=>∃L,σ r=some L/\m'=some L.blk
theorem MB.mono {σ τ:PQ} (a:PQ.le σ τ) {m m':Option Nat} (h:MB σ m m'):MB τ m m':=by
 cases m with
 | none=>exact h
 | some r=>obtain ⟨L,h1,h2⟩:=h;exact ⟨L,a _ _ h1,h2⟩
def U2 (Pg:Prg) (σ:PQ) (w:World) (L:Loc):Blk->Prop
 | .dead=>True
 | .cells ro c=>∃cs el fz,w.heap[L.blk]? = some (.cells cs el fz)/\
   (∀(j:Nat) v,c[j]? = some v->∃v',cs[L.base+j]? = some v'/\VRel σ v v'/\v'.oneCell'=true)/\
   (ro=false->L.base+L.room<=cs.size/\c.length<=L.room/\Nok fz cs.size)
 | .map es=>∃ents clock,w.heap[L.blk]? = some (.map ents clock)/\ents.size=es.length/\
   (∀(j:Nat) e a,es[j]? = some e->ents[j]? = some a->e.1=a.key/\VRel σ e.2 a.val)/\Njy es.length clock ents
 | .iter m n seen=>L.base=0/\∃m',MB σ m m'/\w.heap[L.blk]? = some (.mapIter m' (if m.isSome then n else 0) seen.toArray (if m.isSome then n else 0))/\∀j∈seen,j<n
 | .loop x=>∃lp,w.heap[L.blk]? = some (.loop lp)/\LoopRel Pg σ x lp
 | .dfr=>w.heap[L.blk]? = some (.deferred (some []))
def Nol (Pg:Prg) (w:World):Prop:=∃w0,Gl Pg.P w0/\w0.heap.size<=w.heap.size/\∀b,b<w0.heap.size->w.heap[b]? = w0.heap[b]?
structure Root (Pg:Prg) (W:Nat->Prop) (w:World):Prop where
 fresh:∀b,w.heap.size<=b->W b
 held:∃w0,Gl Pg.P w0/\w0.heap.size<=w.heap.size/\(∀b,W b->w0.heap.size<=b)/\∀b,b<w0.heap.size->w.heap[b]? = w0.heap[b]?
theorem Root.step {Pg:Prg} {W:Nat->Prop} {w w':World} (h:Root Pg W w) (e:w.heap.size<=w'.heap.size) (d:∀b,¬W b->w'.heap[b]? = w.heap[b]?):Root Pg W w':=by
 obtain ⟨w0,h1,h2,a,c⟩:=h.held
 exact ⟨fun b hb=>h.fresh b (by omega),w0,h1,by omega,a,fun b hb=>(d b fun q=>by have:=a b q;omega).trans (c b hb)⟩
theorem Root.to {Pg:Prg} {W:Nat->Prop} {w w':World} (h:Root Pg W w) (e:w.heap.size<=w'.heap.size) (d:∀b,b<w.heap.size->w'.heap[b]? = w.heap[b]?):Root Pg W w':=by
 obtain ⟨w0,h1,h2,a,c⟩:=h.held
 exact ⟨fun b hb=>h.fresh b (by omega),w0,h1,by omega,a,fun b hb=>(d b (by omega)).trans (c b hb)⟩
theorem Root.over {Pg:Prg} {W:Nat->Prop} {w:World} (h:Root Pg W w):Root Pg (fun k=>w.heap.size<=k) w:=by
 obtain ⟨w0,h1,h2,c,a⟩:=h.held
 exact ⟨fun b hb=>hb,w0,h1,h2,fun b hb=>by omega,a⟩
theorem Root.is {Pg:Prg} {W:Nat->Prop} {w:World} (h:Root Pg W w):Nol Pg w:=by
 obtain ⟨w0,h1,h2,_,a⟩:=h.held
 exact ⟨w0,h1,h2,a⟩
structure Inv (Pg:Prg) (W:Nat->Prop) (lim:Nat) (σ:PQ) (H:NB) (w:World):Prop extends Root Pg W w where
 blk:∀(i:Nat) b,H[i]? = some b->alive b=true->∃L,σ i=some L/\U2 Pg σ w L b
 inj:∀(i j:Nat) bi bj Li Lj,H[i]? = some bi->H[j]? = some bj->i≠j->owned bi=true->alive bj=true->σ i=some Li->σ j=some Lj->Li.blk≠Lj.blk
 wr:∀(i:Nat) b L,H[i]? = some b->owned b=true->lim<=i->σ i=some L->W L.blk
 dom:∀i,H.length<=i->σ i=none
structure Stp (W:Nat->Prop) (w w':World):Prop where
 os:w'.os=w.os
 tape:w'.tape=w.tape
 output:w'.output=w.output/\Drw w.drawn w'.drawn
 size:w.heap.size<=w'.heap.size
 block:∀b,¬W b->w'.heap[b]? = w.heap[b]?
theorem Stp.refl (W:Nat->Prop) (w:World):Stp W w w:=⟨rfl,rfl,⟨rfl,.of (Nd _)⟩,Nd _,fun _ _=>rfl⟩
theorem Stp.trans {W:Nat->Prop} {a b c:World} (h:Stp W a b) (k:Stp W b c):Stp W a c:=
 ⟨k.os.trans h.os,k.tape.trans h.tape,⟨k.output.1.trans h.output.1,h.output.2.trans k.output.2⟩,Qa h.size k.size,fun i hi=>(k.block i hi).trans (h.block i hi)⟩
theorem PT {b:Blk} (h:owned b=true):alive b=true:=by cases b<;>simp_all [owned,alive]
theorem U2.lt {Pg:Prg} {σ:PQ} {w:World} {L:Loc} {b:Blk} (h:U2 Pg σ w L b) (d:alive b=true):L.blk<w.heap.size:=by
 have key:∀{o:Obj},w.heap[L.blk]? = some o->L.blk<w.heap.size:=fun h=>(Array.getElem?_eq_some_iff.1 h).1
 cases b with
 | dead=>simp [alive] at d
 | cells ro c=>obtain ⟨_,_,_,a,_⟩:=h;exact key a
 | map es=>obtain ⟨_,_,a,_⟩:=h;exact key a
 | iter m n seen=>obtain ⟨_,_,_,a,_⟩:=h;exact key a
 | loop x=>obtain ⟨_,a,_⟩:=h;exact key a
 | dfr=>exact key h
theorem U2.mono {Pg:Prg} {σ τ:PQ} (a:PQ.le σ τ) {w w':World} {L:Loc} {b:Blk} (h:U2 Pg σ w L b) (f:alive b=true->w'.heap[L.blk]? = w.heap[L.blk]?):U2 Pg τ w' L b:=by
 cases b with
 | dead=>trivial
 | cells ro c=>
   obtain ⟨cs,el,fz,d,hc,ho⟩:=h
   refine ⟨cs,el,fz,by rw [f rfl];exact d,fun j v r=>?_,ho⟩
   obtain ⟨v',h1,h2,i⟩:=hc j v r
   exact ⟨v',h1,h2.mono a,i⟩
 | map es=>
   obtain ⟨p,o,d,q,g,k⟩:=h
   exact ⟨p,o,by rw [f rfl];exact d,q,fun j e l h1 h2=>⟨(g j e l h1 h2).1,(g j e l h1 h2).2.mono a⟩,k⟩
 | iter m n seen=>
   obtain ⟨h0,m',h1,h2,i⟩:=h
   exact ⟨h0,m',h1.mono a,by rw [f rfl];exact h2,i⟩
 | loop x=>
   obtain ⟨lp,d,g⟩:=h
   exact ⟨lp,by rw [f rfl];exact d,g.mono a⟩
 | dfr=>show w'.heap[L.blk]? = _;rw [f rfl];exact h
section
variable {Pg:Prg} {W:Nat->Prop} {lim:Nat} {σ:PQ} {H:NB} {w:World}
theorem RV {i:Nat} {b:Blk} (h:NF H i=b) (hb:alive b=true):H[i]? = some b:=by
 unfold NF at h
 rw [Na] at h
 cases hi:H[i]? with
 | none=>rw [hi] at h;simp at h;subst h;simp [alive] at hb
 | some x=>rw [hi] at h;simp at h;rw [h]
theorem Inv.lt (h:Inv Pg W lim σ H w) {i:Nat} {L:Loc} (hi:σ i=some L):i<H.length:=by
 rcases Ol i H.length with h1 | h1
 ·exact h1
 ·rw [h.dom i h1] at hi;cases hi
theorem Inv.cells (h:Inv Pg W lim σ H w) {i:Nat} {ro:Bool} {c:List Value} (hb:NF H i=.cells ro c) {L:Loc} (a:σ i=some L) :
  ∃cs el fz,w.heap[L.blk]? = some (.cells cs el fz)/\(∀(j:Nat) v,c[j]? = some v->∃v',cs[L.base+j]? = some v'/\VRel σ v v'/\v'.oneCell'=true)/\
   (ro=false->L.base+L.room<=cs.size/\c.length<=L.room/\Nok fz cs.size):=by
 obtain ⟨b,h1,h2⟩:=h.blk i _ (RV hb rfl) rfl
 rw [a] at h1;cases h1
 exact h2
theorem cell_of_heap {b o:Nat} {cs:Array Value} {el:TypeId} {fz:Nat×Nat} {v:Value} (h:w.heap[b]? = some (.cells cs el fz)) (a:cs[o]? = some v):w.cell? ⟨b,o,none⟩=some v:=by
 simp [World.cell?,h,a]
theorem Inv.loadCell (h:Inv Pg W lim σ H w) {p:Addr} {v:Value} {L:Loc} (b:σ p.block=some L) (a:loadCell H p=some v) :
  ∃v',w.cell? ⟨L.blk,L.base+p.off,none⟩=some v'/\VRel σ v v'/\v'.oneCell'=true:=by
 unfold AM.loadCell at a
 split at a
 ·rename_i ro c hb
  obtain ⟨cs,el,fz,d,hc,_⟩:=h.cells hb b
  obtain ⟨v',h1,h2⟩:=hc _ _ a
  exact ⟨v',cell_of_heap d h1,h2⟩
 ·cases a
theorem Inv.loadCells (h:Inv Pg W lim σ H w) {p:Addr} {n:Nat} {l:List Value} {L:Loc} (q:σ p.block=some L) (a:loadCells H p n=some l) :
  ∃f,OB σ l f/\f.length=n/\(∀y∈f,y.oneCell'=true)/\∀(j:Nat) v,f[j]? = some v->w.cell? ⟨L.blk,L.base+p.off+j,none⟩=some v:=by
 unfold AM.loadCells at a
 split at a
 case h_2=>cases a
 rename_i ro c hb
 split at a
 case isFalse=>cases a
 rename_i m
 cases a
 obtain ⟨cs,el,fz,r,hc,_⟩:=h.cells hb q
 refine ⟨(List.range n).map fun j=>cs.getD (L.base+p.off+j) undef, ?_,by simp, ?_, ?_⟩
 ·refine ⟨by simp;omega,fun i x y e d=>?_⟩
  simp only [Pj,Pk] at e
  split at e
  case isFalse=>cases e
  rename_i hi
  obtain ⟨v',h1,h2,_⟩:=hc _ _ e
  rw [O0,List.getElem?_range hi] at d
  simp only [Ns,Option.some.injEq] at d
  subst d
  rw [show L.base+p.off+i=L.base+(p.off+i) by omega,Nw,h1]
  exact h2
 ·intro y d
  obtain ⟨j,k,rfl⟩:=List.mem_map.1 d
  have k:=List.mem_range.1 k
  obtain ⟨v',h1,_,o⟩:=hc (p.off+j) _ (Nf (by omega))
  rw [show L.base+p.off+j=L.base+(p.off+j) by omega,Nw,h1]
  exact o
 ·intro j v a
  rw [O0] at a
  simp only [Nc] at a
  obtain ⟨s,b,rfl⟩:=a
  have g:j<n:=by
   have:=(List.getElem?_eq_some_iff.1 b).1
   simpa using this
  rw [List.getElem?_range g] at b
  cases b
  obtain ⟨v',h1,_⟩:=hc (p.off+j) _ (Nf (by omega))
  refine cell_of_heap r ?_
  rw [show L.base+p.off+j=L.base+(p.off+j) by omega,Nw,h1]
  rfl
def PQ.put (σ:PQ) (i:Nat) (L:Loc):PQ:=fun j=>if j=i then some L else σ j
theorem PQ.le_put {σ:PQ} {i:Nat} {L:Loc} (h:σ i=none):PQ.le σ (σ.put i L):=fun j M a=>by
 unfold PQ.put
 split
 ·rename_i e;subst e;rw [h] at a;cases a
 ·exact a
theorem PQ.put_same {σ:PQ} {i:Nat} {L:Loc}:σ.put i L i=some L:=by simp [PQ.put]
theorem TB {dest:Option Nat} {b:Blk} {H H':NB} {i:Nat} (h:place dest b H=(i,H')) (f:∀d,dest=some d->d<H.length) :
  H'[i]? = some b/\(∀j,j≠i->H'[j]? = H[j]?)/\H.length<=H'.length/\(∀j,H'.length<=j->H.length<=j/\j≠i)/\(dest=none->i=H.length)/\(∀d,dest=some d->i=d/\H'.length=H.length)/\i<H'.length:=by
 unfold place at h
 cases dest with
 | none=>
   simp only [Prod.mk.injEq] at h
   obtain ⟨rfl,rfl⟩:=h
   refine ⟨by simp,fun j a=>?_,by simp,fun j a=>?_,fun _=>rfl,fun d f=>absurd f (by simp),by simp⟩
   ·rcases Ol j H.length with h1 | h1
    ·rw [Ny h1]
    ·rw [N0 h1,Nv h1,Nv]
     simp;omega
   ·simp at a;omega
 | some d=>
   simp only [Prod.mk.injEq] at h
   obtain ⟨rfl,rfl⟩:=h
   have c:=f d rfl
   refine ⟨by simp [c],fun j a=>by rw [N3,Ni (fun e=>a e.symm)],by simp,fun j a=>?_,fun h=>absurd h (by simp),(fun x g=>by cases g;exact ⟨rfl,by simp⟩),by simpa using c⟩
   simp at a;omega
theorem Inv.adopt (h:Inv Pg W lim σ H w) {H':NB} {i:Nat} {b:Blk} {L:Loc} (hi:H'[i]? = some b) (q:∀j,j≠i->H'[j]? = H[j]?) (r:∀j,H'.length<=j->H.length<=j/\j≠i)
  (y:σ i=none) (hb:U2 Pg (σ.put i L) w L b) (ho:owned b=true) (z:W L.blk)
  (n:∀(j:Nat) bj Lj,j≠i->H[j]? = some bj->alive bj=true->σ j=some Lj->Lj.blk≠L.blk):Inv Pg W lim (σ.put i L) H' w:=by
 refine ⟨h.toRoot,fun j bj a u=>?_,fun j k bj bk Lj s a d l m p c g=>?_,fun j bj Lj a m x c=>?_,fun j v=>?_⟩
 ·by_cases e:j=i
  ·subst e
   rw [hi] at a;cases a
   exact ⟨L,PQ.put_same,hb⟩
  ·rw [q j e] at a
   obtain ⟨Lj,h1,h2⟩:=h.blk j bj a u
   exact ⟨Lj,PQ.le_put y _ _ h1,h2.mono (PQ.le_put y) fun _=>rfl⟩
 ·by_cases e:j=i
  ·subst e
   rw [hi] at a;cases a
   rw [PQ.put_same] at c;cases c
   rw [q k (Ne.symm l)] at d
   have o:σ k=some s:=by simpa [PQ.put,Ne.symm l] using g
   exact fun e=>n k bk s (Ne.symm l) d p o e.symm
  ·have f:σ j=some Lj:=by simpa [PQ.put,e] using c
   rw [q j e] at a
   by_cases t:k=i
   ·subst t
    rw [PQ.put_same] at g;cases g
    exact n j bj Lj e a (PT m) f
   ·have o:σ k=some s:=by simpa [PQ.put,t] using g
    rw [q k t] at d
    exact h.inj j k bj bk Lj s a d l m p f o
 ·by_cases e:j=i
  ·subst e
   rw [PQ.put_same] at c;cases c
   exact z
  ·have f:σ j=some Lj:=by simpa [PQ.put,e] using c
   rw [q j e] at a
   exact h.wr j bj Lj a m x f
 ·obtain ⟨h1,h2⟩:=r j v
  simp [PQ.put,h2,h.dom j h1]
theorem Inv.world (h:Inv Pg W lim σ H w) {w':World} (d:w.heap.size<=w'.heap.size) (c:∀b,b<w.heap.size->w'.heap[b]? = w.heap[b]?):Inv Pg W lim σ H w':=by
 refine ⟨h.toRoot.to d c,fun i b hb a=>?_,h.inj,h.wr,h.dom⟩
 obtain ⟨L,h1,h2⟩:=h.blk i b hb a
 exact ⟨L,h1,h2.mono (PQ.le_refl σ) fun _=>c _ (h2.lt a)⟩
theorem Ub (w:World) (o:Obj):(w.alloc o).heap=w.heap.push o:=rfl
theorem Stp.alloc (a:∀b,w.heap.size<=b->W b) (o:Obj):Stp W w (w.alloc o):=by
 refine ⟨rfl,rfl,⟨rfl,.of (Nd _)⟩,by simp,fun b hb=>?_⟩
 rw [Ub,Pc]
 split
 ·rename_i e;exact absurd (a b (by omega)) hb
 ·rfl
theorem Stp.drew:Stp W w w.drew:=⟨rfl,rfl,⟨rfl,.of (Nat.le_succ _)⟩,Nd _,fun _ _=>rfl⟩
theorem Inv.drew (h:Inv Pg W lim σ H w):Inv Pg W lim σ H w.drew:=h.world (Nd _) fun _ _=>rfl
theorem Inv.alloc (h:Inv Pg W lim σ H w) {dest:Option Nat} {c:List Value} {H':NB} {i:Nat} (hp:place dest (.cells false c) H=(i,H')) (l:∀d,dest=some d->d<H.length/\σ d=none)
  {cs:Array Value} {el:TypeId} (hc:∀(j:Nat) v,c[j]? = some v->∃v',cs[j]? = some v'/\VRel σ v v'/\v'.oneCell'=true) (hn:c.length<=cs.size) :
  Inv Pg W lim (σ.put i ⟨w.heap.size,0,cs.size⟩) H' (w.alloc (.cells cs el))/\σ i=none:=by
 obtain ⟨m,n,y,o,p,q,z⟩:=TB hp fun d e=>(l d e).1
 have g:σ i=none:=by
  cases dest with
  | none=>rw [p rfl];exact h.dom _ (Nd _)
  | some d=>rw [(q d rfl).1];exact (l d rfl).2
 refine ⟨?_,g⟩
 have u:Inv Pg W lim σ H (w.alloc (.cells cs el)):=h.world (by simp) fun b hb=>by rw [Ub,Pc];rw [Ni (by omega)]
 refine u.adopt m n o g ?_ rfl (h.fresh _ (Nd _)) fun j bj Lj s f k a e=>?_
 ·refine ⟨cs,el,(0,0),by simp [Ub],fun j v t=>?_,fun _=>⟨by simp,by simpa using hn,.inl rfl⟩⟩
  obtain ⟨v',h1,h2,r⟩:=hc j v t
  exact ⟨v',by simpa using h1,h2.mono (PQ.le_put g),r⟩
 ·obtain ⟨x,h1,h2⟩:=h.blk j bj f k
  rw [a] at h1;cases h1
  have:=h2.lt k
  simp at e
  omega
theorem Inv.allocMap (h:Inv Pg W lim σ H w) {dest:Option Nat} {H':NB} {i:Nat} (hp:place dest (.map []) H=(i,H')) (g:∀d,dest=some d->d<H.length/\σ d=none) :
  Inv Pg W lim (σ.put i ⟨w.heap.size,0,0⟩) H' (w.alloc (.map #[] 0))/\σ i=none:=by
 obtain ⟨l,m,u,n,o,p,v⟩:=TB hp fun d e=>(g d e).1
 have k:σ i=none:=by
  cases dest with
  | none=>rw [o rfl];exact h.dom _ (Nd _)
  | some d=>rw [(p d rfl).1];exact (g d rfl).2
 refine ⟨?_,k⟩
 have r:Inv Pg W lim σ H (w.alloc (.map #[] 0)):=h.world (by simp) fun b hb=>by rw [Ub,Pc];rw [Ni (by omega)]
 refine r.adopt l m n k ?_ rfl (h.fresh _ (Nd _)) fun j bj Lj q c f a e=>?_
 ·exact ⟨#[],0,by simp [Ub],by simp,(fun j e t h1 h2=>by simp at h1),rfl,fun j e h1=>by simp at h1⟩
 ·obtain ⟨s,h1,h2⟩:=h.blk j bj c f
  rw [a] at h1;cases h1
  have:=h2.lt f
  simp at e
  omega
end
theorem XF:∀(vs c:List Value) (o:Nat),(Rk c o vs).length=c.length
 | [],_,_=>rfl
 | v::vs,c,o=>by simp [Rk,XF vs]
theorem XW:∀(vs c:List Value) (o j:Nat),j<o\/o+vs.length<=j->(Rk c o vs)[j]? = c[j]?
 | [],_,_,_,_=>rfl
 | v::vs,c,o,j,h=>by
   simp only [Nm] at h
   rw [Rk,XW vs _ _ _ (by omega),N3,Ni (by omega)]
theorem Ncq:∀(vs c:List Value) (o j:Nat) v,vs[j]? = some v->o+vs.length<=c.length->(Rk c o vs)[o+j]? = some v
 | [],_,_,_,_,h,_=>by simp at h
 | u::vs,c,o,j,v,h,hl=>by
   simp only [Nm] at hl
   cases j with
   | zero=>
     simp at h;subst h
     have:o<c.length:=by omega
     rw [Rk,XW vs _ _ _ (by omega)]
     simp [this]
   | succ j=>
     rw [Rk,show o+(j+1)=o+1+j by omega]
     exact Ncq vs _ (o+1) j v (by simpa using h) (by simp;omega)
theorem heap_setCell {w:World} {b o:Nat} {v:Value} {cs:Array Value} {el:TypeId} {fz:Nat×Nat} (h:w.heap[b]? = some (.cells cs el fz)) :
  (w.setCell ⟨b,o,none⟩ v).heap[b]? = some (.cells (cs.setIfInBounds o v) el fz):=by
 obtain ⟨a,c⟩:=fz
 simp [World.setCell,Array.getElem?_modify,h]
theorem Mv {w:World} {b o k:Nat} {v:Value} (h:k≠b):(w.setCell ⟨b,o,none⟩ v).heap[k]? = w.heap[k]?:=by
 simp [World.setCell,Array.getElem?_modify,Ne.symm h]
structure Wrote (w w':World) (b o:Nat) (vs:List Value) (cs:Array Value) (el:TypeId) (fz:Nat×Nat) (cs':Array Value):Prop where
 heap:w'.heap[b]? = some (.cells cs' el fz)
 size:cs'.size=cs.size
 out:∀j,j<o\/o+vs.length<=j->cs'[j]? = cs[j]?
 inn:∀(j:Nat) v,vs[j]? = some v->cs'[o+j]? = some v
 other:∀k,k≠b->w'.heap[k]? = w.heap[k]?
 len:w'.heap.size=w.heap.size
 os:w'.os=w.os
 tape:w'.tape=w.tape
 output:w'.output=w.output/\Drw w.drawn w'.drawn
theorem Vh (b:Nat) (el:TypeId) (fz:Nat×Nat):∀(vs:List Value) (o:Nat) (w:World) (cs:Array Value),w.heap[b]? = some (.cells cs el fz)->o+vs.length<=cs.size->
  ∃cs',Wrote w (w.setCells b o vs) b o vs cs el fz cs'
 | [],o,w,cs,h,_=>⟨cs,h,rfl,fun _ _=>rfl,fun j v e=>by simp at e,fun _ _=>rfl,rfl,rfl,rfl,⟨rfl,.of (Nd _)⟩⟩
 | v::vs,o,w,cs,h,hl=>by
   simp only [Nm] at hl
   obtain ⟨cs',k⟩:=Vh b el fz vs (o+1) (w.setCell ⟨b,o,none⟩ v) _ (heap_setCell h) (by simp;omega)
   refine ⟨cs',k.heap,by rw [k.size];simp,fun j d=>?_,fun j u a=>?_,fun m c=>by rw [World.setCells,k.other m c,Mv c], ?_, ?_, ?_, ?_⟩
   ·simp only [Nm] at d
    rw [k.out j (by omega),Pq (by omega)]
   ·cases j with
    | zero=>
      simp at a;subst a
      rw [Oq,k.out o (by omega),Array.getElem?_setIfInBounds_self]
      simp;omega
    | succ j=>
      rw [show o+(j+1)=o+1+j by omega]
      exact k.inn j u (by simpa using a)
   ·rw [World.setCells,k.len];simp
   ·rw [World.setCells,k.os];rfl
   ·rw [World.setCells,k.tape];rfl
   ·rw [World.setCells];exact ⟨k.output.1.trans rfl,k.output.2⟩
section
variable {Pg:Prg} {W:Nat->Prop} {lim:Nat} {σ:PQ} {H:NB} {w:World}
theorem Inv.rewrite (h:Inv Pg W lim σ H w) {i:Nat} {b b':Blk} {L:Loc} (hi:H[i]? = some b) (ho:owned b=true) (v:lim<=i) (q:σ i=some L) {w':World} (B:w'.heap.size=w.heap.size)
  (y:∀k,k≠L.blk->w'.heap[k]? = w.heap[k]?) (s:U2 Pg σ w' L b') (A:alive b'=true->owned b'=true):Inv Pg W lim σ (H.set i b') w':=by
 have t:i<H.length:=(List.getElem?_eq_some_iff.1 hi).1
 have gs:(H.set i b')[i]? = some b':=by rw [N3,Nk rfl,Nk t]
 have m:∀j,j≠i->(H.set i b')[j]? = H[j]?:=fun j u=>by rw [N3,Ni (Ne.symm u)]
 refine ⟨h.toRoot.step (by omega) fun k z=>y k fun e=>z (e▸h.wr i b L hi ho v q),fun j bj a r=>?_,fun j k bj bk Lj p a d f g n c l=>?_,fun j bj Lj a g o c=>?_,fun j u=>h.dom j (by simpa using u)⟩
 ·by_cases e:j=i
  ·subst e
   rw [gs] at a;cases a
   exact ⟨L,q,s⟩
  ·rw [m j e] at a
   obtain ⟨Lj,h1,h2⟩:=h.blk j bj a r
   exact ⟨Lj,h1,h2.mono (PQ.le_refl σ) fun r=>y _ (Ne.symm (h.inj i j b bj L Lj hi a (Ne.symm e) ho r q h1))⟩
 ·by_cases e:j=i
  ·subst e
   rw [m k (Ne.symm f)] at d
   exact h.inj j k b bk Lj p hi d f ho n c l
  ·rw [m j e] at a
   by_cases x:k=i
   ·subst x
    exact h.inj j k bj b Lj p a hi f g (PT ho) c l
   ·rw [m k x] at d
    exact h.inj j k bj bk Lj p a d f g n c l
 ·by_cases e:j=i
  ·subst e;exact h.wr j b Lj hi ho o c
  ·rw [m j e] at a;exact h.wr j bj Lj a g o c
theorem Stp.one {w':World} {blk:Nat} (c:W blk) (d:∀k,k≠blk->w'.heap[k]? = w.heap[k]?) (f:w'.heap.size=w.heap.size) (h1:w'.os=w.os) (h2:w'.tape=w.tape) (a:w'.output=w.output/\Drw w.drawn w'.drawn):Stp W w w':=
 ⟨h1,h2,a,Nat.le_of_eq f.symm,fun b hb=>d b fun e=>hb (e▸c)⟩
theorem Inv.store {P:Program} (h:Inv Pg W lim σ H w) {p:Addr} {vs a:List Value} {H':NB} {L:Loc} (m:σ p.block=some L) (f:storeAt lim H p vs=some H') (hr:OB σ vs a) (h1:∀v∈a,v.oneCell'=true) :
  ∃w',(storeCells ⟨L.blk,L.base+p.off,none⟩ a).run P w=.ok () w'/\Inv Pg W lim σ H' w'/\Stp W w w'/\H'.length=H.length:=by
 unfold storeAt at f
 split at f
 case h_2=>cases f
 rename_i c hb
 split at f
 case isFalse=>cases f
 rename_i e
 obtain ⟨d,u⟩:=e
 cases f
 have g:=RV hb rfl
 obtain ⟨cs,el,fz,n,hc,ho⟩:=h.cells hb m
 obtain ⟨r,s,i⟩:=ho rfl
 have C:=hr.1
 obtain ⟨cs',k⟩:=Vh L.blk el fz a (L.base+p.off) w cs n (by omega)
 refine ⟨_,run_storeCells_cells (P:=P) L.blk (L.base+p.off) a 0 w (fun j o=>?_) (fun j o=>?_) h1, ?_, ?_,by simp⟩
 ·rw [cell_of_heap n (Nu (by omega))];rfl
 ·simp only [World.frozen?,n]
  have:=i.ok (L.base+p.off+0+j) (by omega)
  obtain ⟨D,E⟩:=fz
  simp at this⊢
  exact this
 ·refine h.rewrite g rfl d m k.len k.other ⟨cs',el,fz,k.heap,fun j v b=>?_,fun _=>⟨by rw [k.size];exact r,by rw [XF];exact s,by rw [k.size];exact i⟩⟩ (fun _=>rfl)
  by_cases o:j<p.off\/p.off+vs.length<=j
  ·rw [XW vs c p.off j o] at b
   obtain ⟨v',z,A,B⟩:=hc j v b
   exact ⟨v',by rw [k.out _ (by omega)];exact z,A,B⟩
  ·have q:j=p.off+(j-p.off):=by omega
   have l:vs[j-p.off]? = some (vs[j-p.off]'(by omega)):=Nf _
   rw [q,Ncq vs c p.off (j-p.off) _ l (by omega)] at b
   cases b
   obtain ⟨y,x,t⟩:=hr.get l
   exact ⟨y,by rw [show L.base+j=L.base+p.off+(j-p.off) by omega];exact k.inn _ _ x,t,h1 y (Oa x)⟩
 ·exact Stp.one (h.wr _ _ _ g rfl d m) k.other k.len k.os k.tape k.output
theorem Inv.killAny (h:Inv Pg W lim σ H w) (i:Nat):Inv Pg W lim σ (H.set i .dead) w:=by
 have d:∀(j:Nat) b,(H.set i .dead)[j]? = some b->alive b=true->H[j]? = some b/\j≠i:=fun j b hb f=>by
  rw [N3] at hb
  split at hb
  ·split at hb
   ·cases hb;simp [alive] at f
   ·cases hb
  ·rename_i e;exact ⟨hb,fun q=>e q.symm⟩
 refine ⟨h.toRoot,fun j b hb f=>h.blk j b (d j b hb f).1 f,fun j k bj bk Lj p g l o c a m n=>?_,fun j b L hb ho hl r=>h.wr j b L (d j b hb (PT ho)).1 ho hl r,fun j s=>h.dom j (by simpa using s)⟩
 exact h.inj j k bj bk Lj p (d j bj g (PT c)).1 (d k bk l a).1 o c a m n
theorem Inv.appendRoom {P:Program} (h:Inv Pg W lim σ H w) {p:Addr} {old new b:List Value} {c:List Value} {L:Loc} (hb:NF H p.block=.cells false c) (o:σ p.block=some L) (g:lim<=p.block)
  (a:AM.loadCells H p old.length=some old) (hr:OB σ new b) (h1:∀v∈b,v.oneCell'=true) (x:p.off+old.length+new.length<=L.room)
  {dest:Option Nat} {H':NB} {i:Nat} (hp:place dest (.cells false (old++new)) (H.set p.block .dead)=(i,H')) (B:∀d,dest=some d->d<H.length/\σ d=none) :
  ∃w',(storeCells ⟨L.blk,L.base+p.off+old.length,none⟩ b).run P w=.ok () w'/\Inv Pg W lim (σ.put i ⟨L.blk,L.base+p.off,L.room-p.off⟩) H' w'/\Stp W w w'/\σ i=none:=by
 have l:=RV hb rfl
 obtain ⟨cs,el,fz,u,hc,ho⟩:=h.cells hb o
 obtain ⟨N,O,r⟩:=ho rfl
 have M:=hr.1
 obtain ⟨cs',k⟩:=Vh L.blk el fz b (L.base+p.off+old.length) w cs u (by omega)
 have C:Inv Pg W lim σ (H.set p.block .dead) (w.setCells L.blk (L.base+p.off+old.length) b):=h.rewrite l rfl g o k.len k.other trivial (fun h=>by simp [alive] at h)
 obtain ⟨E,F,S,G,I,J,T⟩:=TB hp fun d e=>by simpa using (B d e).1
 have s:σ i=none:=by
  cases dest with
  | none=>rw [I rfl];exact C.dom _ (Nd _)
  | some d=>rw [(J d rfl).1];exact (B d rfl).2
 have n:∀(j:Nat) v,old[j]? = some v->c[p.off+j]? = some v:=fun j v m=>by
  unfold AM.loadCells at a
  rw [hb] at a
  simp only at a
  split at a
  ·have q:=(List.getElem?_eq_some_iff.1 m).1
   have e:(c.drop p.off).take old.length=old:=by simpa using a
   rw [<-e,Pj,Nk q,Pk] at m
   exact m
  ·cases a
 refine ⟨_,run_storeCells_cells (P:=P) L.blk (L.base+p.off+old.length) b 0 w (fun j q=>?_) (fun j q=>?_) h1, ?_, ?_,s⟩
 ·rw [cell_of_heap u (Nu (by omega))];rfl
 ·simp only [World.frozen?,u]
  have:=r.ok (L.base+p.off+old.length+0+j) (by omega)
  obtain ⟨Q,R⟩:=fz
  simp at this⊢
  exact this
 ·refine C.adopt E F G s ⟨cs',el,fz,k.heap,fun j v m=>?_,fun _=>⟨by rw [k.size];simp;omega,by simp;omega,by rw [k.size];exact r⟩⟩ rfl (show W L.blk from h.wr _ _ _ l rfl g o) fun j bj Lj K f A t=>?_
  ·show ∃v',cs'[L.base+p.off+j]? = some v'/\_
   by_cases q:j<old.length
   ·rw [Ny q] at m
    obtain ⟨v',e1,e2,e3⟩:=hc _ _ (n j v m)
    exact ⟨v',by rw [k.out _ (by omega),show L.base+p.off+j=L.base+(p.off+j) by omega];exact e1,e2.mono (PQ.le_put s),e3⟩
   ·rw [N0 (by omega)] at m
    obtain ⟨y,D,z⟩:=hr.get m
    exact ⟨y,by rw [show L.base+p.off+j=L.base+p.off+old.length+(j-old.length) by omega];exact k.inn _ _ D,z.mono (PQ.le_put s),h1 y (Oa D)⟩
  ·by_cases e:j=p.block
   ·subst e
    rw [N3,Nk rfl] at f
    split at f
    ·cases f;simp [alive] at A
    ·cases f
   ·rw [N3,Ni (Ne.symm e)] at f
    exact Ne.symm (h.inj p.block j _ bj L Lj l f (Ne.symm e) rfl A o t)
 ·exact Stp.one (h.wr _ _ _ l rfl g o) k.other k.len k.os k.tape k.output
end
end Go.AM


namespace Go.AM
open Go.MapKept
def Nd7:Next->Option Value
 | .value v=>some v
 | .skip=>some undef
 | _=>none
def NR (Pg:Prg) (W:Nat->Prop) (lim:Nat) (σ:PQ) (dest:Option Nat) (H:NB) (w:World) (run:Result Next) (v:Value) (H':NB):Prop:=
 ∃nx w' a v',run=.ok nx w'/\Nd7 nx=some v'/\VRel a v v'/\Inv Pg W lim a H' w'/\Stp W w w'/\PQ.le σ a/\
  (∀j,a j≠σ j->dest=some j\/(dest=none/\H.length<=j))/\H.length<=H'.length/\(dest≠none->H'.length=H.length)
section
variable {P:Program} {Pg:Prg} {W:Nat->Prop} {lim:Nat} {σ:PQ} {H:NB} {w:World} {dest:Option Nat}
theorem NR.plain (h:Inv Pg W lim σ H w) {run:Result Next} {v v':Value} (hr:run=.ok (.value v') w) (b:VRel σ v v'):NR Pg W lim σ dest H w run v H:=
 ⟨.value v',w,σ,v',hr,rfl,b,h,Stp.refl W w,PQ.le_refl σ,fun j a=>absurd rfl a,Nd _,fun _=>rfl⟩
theorem NR.made (h:Inv Pg W lim σ H w) (k:∀d,dest=some d->d<H.length/\σ d=none) {c:List Value} {H':NB} {i:Nat} (hp:place dest (.cells false c) H=(i,H'))
  {cs:Array Value} {el:TypeId} (hc:∀(j:Nat) v,c[j]? = some v->∃v',cs[j]? = some v'/\VRel σ v v'/\v'.oneCell'=true) (hn:c.length<=cs.size)
  {w0:World} (a:Inv Pg W lim σ H w0) (f:Stp W w w0) {run:Result Next} {v v':Value} (hr:run=.ok (.value v') (w0.alloc (.cells cs el)))
  (o:VRel (σ.put i ⟨w0.heap.size,0,cs.size⟩) v v'):NR Pg W lim σ dest H w run v H':=by
 obtain ⟨hi,p⟩:=a.alloc (el:=el) hp k hc hn
 obtain ⟨q,r,l,s,m,g,t⟩:=TB hp fun d e=>(k d e).1
 refine ⟨_,_,_,v',hr,rfl,o,hi,f.trans (Stp.alloc a.fresh _),PQ.le_put p,fun j n=>?_,l,fun b=>?_⟩
 ·by_cases e:j=i
  ·subst e
   cases dest with
   | none=>exact .inr ⟨rfl,by rw [m rfl];exact Nd _⟩
   | some d=>exact .inl (by rw [(g d rfl).1])
  ·simp [PQ.put,e] at n
 ·cases dest with
  | none=>exact absurd rfl b
  | some d=>exact (g d rfl).2
theorem Nf0 {o:Oper} (h:o.op.operands.toList.all QB=true) {x:Operand} (a:x∈o.op.operands):QB x=true:=
 N2.1 h x (Array.mem_toList_iff.2 a)
theorem Nkj (place:Nat->Option (Nat×Nat)) (off:Nat):∀(vs:List Value) (k:Nat) (cs:Array Value),(vs.zipIdx k).foldl (fun cs (x:Value×Nat)=>cs.setIfInBounds (off+x.2) x.1) cs=(Rk cs.toList (off+k) vs).toArray
 | [],k,cs=>by simp [Rk]
 | v::vs,k,cs=>by
   rw [List.zipIdx_cons,O9,Nkj place off vs (k+1),Rk]
   simp [On]
theorem TS (ρ ρ':Operand->Value) (place:Nat->Option (Nat×Nat)) :
  ∀(src:List (Nat×Operand)) (ps:List (Nat×Nat×Operand)) (z c e:List Value),(src.length=ps.length)->
   (∀(j:Nat) s p,src[j]? = some s->ps[j]? = some p->place s.1=some (p.1,p.2.1)/\p.2.2=s.2/\VRel σ (ρ s.2) (ρ' s.2))->
   RJ ρ ps z=some c->OB σ z e->(∀y∈e,y.oneCell'=true)->
   ∃c',Instr.fill place e.toArray (src.map fun x=>(x.1,ρ' x.2))=some c'.toArray/\OB σ c c'/\(∀y∈c',y.oneCell'=true)
 | [],[],z,c,e,_,_,hf,hz,h1=>by
   simp [RJ] at hf;subst hf
   exact ⟨e,by simp [Instr.fill],hz,h1⟩
 | s::src,p::ps,z,c,e,hl,hp,hf,hz,h1=>by
   obtain ⟨off,size,x⟩:=p
   obtain ⟨i,H⟩:=s
   obtain ⟨e1,e2,e3⟩:=hp 0 _ _ rfl rfl
   simp only at e1 e2 e3
   subst e2
   simp only [RJ] at hf
   split at hf
   case isFalse=>cases hf
   rename_i hc
   obtain ⟨D,G,F⟩:=hc
   have g:=e3.cells
   have m:=e3.cells_one F
   have E:(ρ x).cells.size=size:=by simpa using D
   have l:(ρ' x).cells.size=size:=by have:=g.1;simp at this;omega
   have C:=hz.1
   have n:∀(vs d:List Value) (o:Nat) (a b:List Value),OB σ vs d->OB σ a b->OB σ (Rk a o vs) (Rk b o d):=by
    intro vs
    induction vs with
    | nil=>intro d o a b h k;have:d=[]:=by have:=h.1;simpa using this.symm
           subst this;exact k
    | cons v vs ih=>intro d o a b h k
                    cases d with
                    | nil=>have:=h.1;simp at this
                    | cons v' d=>exact ih d _ _ _ h.tail (k.set h.head o)
   have f:∀(vs:List Value) (o:Nat) (b:List Value),(∀y∈vs,y.oneCell'=true)->(∀y∈b,y.oneCell'=true)->∀y∈Rk b o vs,y.oneCell'=true:=by
    intro vs
    induction vs with
    | nil=>intro o b _ hb;exact hb
    | cons v vs ih=>intro o b t hb
                    refine ih _ _ (fun y r=>t y (Od _ r)) fun y r=>?_
                    rcases List.mem_or_eq_of_mem_set r with h | h
                    ·exact hb y h
                    ·subst h;exact t _ (Oy)
   obtain ⟨c',u,w,A⟩:=TS ρ ρ' place src ps _ c (Rk e off (ρ' x).cells.toList) (by simpa using hl) (fun j s p B q=>hp (j+1) s p (by simpa using B) (by simpa using q)) hf (n _ _ off _ _ g hz) (f _ off _ m h1)
   refine ⟨c', ?_,w,A⟩
   simp only [Of,Instr.fill,e1]
   have:¬((ρ' x).cells.size≠size||off+(ρ' x).cells.size > e.toArray.size)=true:=by simp [l];omega
   rw [Ni this]
   rw [<-u]
   congr 1
   rw [<-Array.foldl_toList]
   simp only [Array.toList_zipIdx]
   rw [Nkj (fun _=>none) off (ρ' x).cells.toList 0 e.toArray]
   simp
end
section
variable {P:Program} {Pg:Prg} {W:Nat->Prop} {lim:Nat} {σ:PQ} {H H':NB} {w:World} {dest:Option Nat} {ρ ρ':Operand->Value} {v:Value}
theorem OI (P:Program) (w:World) (s:Sem Value) {x:Value} {w':World} (h:s.run P w=.ok x w'):(do pure (Next.value (<-s)):Sem Next).run P w=.ok (.value x) w':=by
 simp [h]
theorem Y7 (P:Program) (w:World) (s:Sem Unit) {w':World} (h:s.run P w=.ok () w'):(do s;pure Next.skip:Sem Next).run P w=.ok .skip w':=by
 simp [h]
theorem Ms (op:BinOp) (t:TypeId) (x y:Operand) (k k':IntKind) (a b:Int):(eqGuard op t x y (.int k a) (.int k' b)).run P w=.ok () w:=by
 cases op<;>simp [eqGuard]
theorem Yb (op:BinOp) (t:TypeId) (x y:Operand) (a b:ByteArray):(eqGuard op t x y (.string a) (.string b)).run P w=.ok () w:=by
 cases op<;>simp [eqGuard]
theorem Njv (op:BinOp) (t:TypeId) (x y:Operand) {a b r:Value} (h:NG op a b=some r):(do eqGuard op t x y a b;binOp op t a b:Sem Value).run P w=.ok r w:=by
 unfold NG at h
 split at h
 ·rename_i k a k' b
  simp only [Sem.run_bind,Ms,Result.andThen_ok]
  split at h
  ·split at h
   ·cases h
   ·rename_i hb
    cases h
    simp [binOp,Op.shift,hb]
  ·split at h
   ·cases h
   ·rename_i hb
    cases h
    simp [binOp,Op.shift,hb]
  ·rename_i c d
   split at h
   case isFalse=>cases h
   rename_i e
   subst e
   cases op<;>simp at h<;>first
    | (exact absurd rfl c) | (exact absurd rfl d)
    | (subst h;simp [binOp,Op.intArith,Op.intBits,Op.intCmp];done)
    | (obtain ⟨hb,rfl⟩:=h;simp [binOp,Op.intDiv,hb];done)
 ·rename_i a b
  simp only [Sem.run_bind,Yb,Result.andThen_ok]
  cases op<;>simp at h<;>first
   | (subst h;simp [binOp,Op.stringOp];done)
   | (obtain ⟨hb,rfl⟩:=h
      simp [binOp,Op.stringOp]
      exact hb)
 ·cases h
theorem Nnq (op:UnOp) {a r:Value} (h:NQ op a=some r):(Op.unary op a).run P w=.ok r w:=by
 unfold NQ at h
 split at h
 ·cases h;simp [Op.unary]
 ·cases h;simp [Op.unary,Op.intArith]
 ·cases h;simp [Op.unary,Op.intBits]
 ·cases h
theorem QD (op:BinOp) (t:TypeId) (x y:Operand) {a b:Value} (h1:a≠.nilIface) (h2:∀xs,a≠.agg xs) :
  (eqGuard op t x y a b).run P w=.ok () w:=by
 unfold eqGuard
 cases a<;>first | (exact absurd rfl h1) | (exact absurd rfl (h2 _)) | (cases op<;>simp)
theorem Xq {t:TypeId} {b:Bool} (h:QV P t=some b):(isAgg t).run P w=.ok b w:=by
 unfold QV at h
 cases hd:P.underlying t with
 | none=>simp [hd] at h
 | some d=>
   rw [hd] at h
   cases d<;>simp at h<;>subst h<;>simp [isAgg,run_underlying hd]
theorem Sg {t:TypeId} {n:Nat} (h:PH P t=some n):(sizeOf t).run P w=.ok n w:=by
 unfold PH at h
 cases hi:P.info? t with
 | none=>simp [hi] at h
 | some i=>rw [hi] at h;simp at h;subst h;simp [sizeOf,typeInfo,hi]
theorem Zn {t:TypeId} {cs:Array Value} {off:Nat} {x:Value} (h:QV P t=some false) (a:cs[off]? = some x):(part t cs off).run P w=.ok x w:=by
 simp [part,Xq h,a]
theorem Zl {t:TypeId} {cs:Array Value} {off n:Nat} (h:QV P t=some true) (hn:PH P t=some n):(part t cs off).run P w=.ok (.agg (cs.extract off (off+n))) w:=by
 simp [part,Xq h,Sg hn]
theorem extract_toList (cs:Array Value) (off n:Nat):(cs.extract off (off+n)).toList=(cs.toList.drop off).take n:=by
 rw [Array.toList_extract]
 simp [List.extract]
theorem ZP (h:Inv Pg W lim σ H w) {t:TypeId} (b:QV P t=some false) {p:Addr} {L:Loc} (a:σ p.block=some L) {v:Value} (c:loadCell H p=some v) :
  ∃v',(loadVar t ⟨L.blk,L.base+p.off,none⟩).run P w=.ok v' w/\VRel σ v v':=by
 obtain ⟨v',h1,h2,d⟩:=h.loadCell a c
 exact ⟨v',by simp [loadVar,Xq b,h1],h2⟩
theorem Zw (h:Inv Pg W lim σ H w) {p:Addr} {L:Loc} (d:σ p.block=some L) {n:Nat} {l:List Value} (f:AM.loadCells H p n=some l) :
  ∃a,(Go.loadCells ⟨L.blk,L.base+p.off,none⟩ n).run P w=.ok a.toArray w/\OB σ l a/\a.length=n/\∀y∈a,y.oneCell'=true:=by
 obtain ⟨a,h1,h2,b,c⟩:=h.loadCells d f
 have:=run_loadCells_list (P:=P) w ⟨L.blk,L.base+p.off,none⟩ a fun j v e=>by rw [Addr.add_mid];exact c j v e
 rw [h2] at this
 exact ⟨a,this,h1,h2,b⟩
theorem ZO (h:Inv Pg W lim σ H w) {t:TypeId} (c:QV P t=some true) {n:Nat} (hn:PH P t=some n) {p:Addr} {L:Loc} (b:σ p.block=some L) {l:List Value} (d:AM.loadCells H p n=some l) :
  ∃v',(loadVar t ⟨L.blk,L.base+p.off,none⟩).run P w=.ok v' w/\VRel σ (.agg l.toArray) v':=by
 obtain ⟨e,h1,h2,f,a⟩:=Zw (P:=P) h b d
 exact ⟨.agg e.toArray,by simp [loadVar,Xq c,Sg hn,h1],VRel.agg_iff.2 ⟨by simpa using h2,by simpa using a⟩⟩
theorem Sy {x a:Value} {m n:Nat} (h:bound x m=some n) (hr:VRel σ x a) (code:BoundsCode):(Instr.sliceBound a m code).run P w=.ok n w:=by
 unfold bound at h
 split at h
 ·rename_i k i
  split at h
  ·rename_i hi
   cases h
   rw [hr.int_left]
   simp [Instr.sliceBound,asIntOf,hi]
  ·cases h
 ·cases h
theorem Uk {v:Value} {a n:Nat} (hb:bound v a=some n):n<=a:=by
 unfold bound at hb
 split at hb
 ·split at hb
  ·cases hb;omega
  ·cases hb
 ·cases hb
theorem Wn {v:Value} {a b n:Nat} (c:a<=b) (hb:bound v a=some n):bound v b=some n:=by
 unfold bound at hb⊢
 split at hb
 ·split at hb
  ·rename_i hi;cases hb
   exact Nk (by omega)
  ·cases hb
 ·cases hb
theorem Tc {len cap d:Nat} {lo hi mx:Option Operand} {l h m:Nat} (hb:bounds ρ len cap lo hi mx=some (l,h,m)) (e:∀x∈lo.toList++hi.toList++mx.toList,VRel σ (ρ x) (ρ' x))
  (hc:cap<=d) (isSlice:Bool):∃m',(Instr.sliceBounds isSlice len d (lo.map ρ') (hi.map ρ') (mx.map ρ')).run P w=.ok (l,h,m') w/\(mx=none->m'=d/\m=cap)/\(mx≠none->m'=m)/\
   l<=h/\m<=cap/\(hi=none->mx=none/\h=len)/\(hi≠none->h<=m):=by
 unfold bounds at hb
 cases mx with
 | none=>
   simp only at hb
   cases hi with
   | none=>
     simp only at hb
     cases lo with
     | none=>simp at hb;obtain ⟨rfl,rfl,rfl⟩:=hb;exact ⟨d,by simp [Instr.sliceBounds],fun _=>⟨rfl,rfl⟩,fun h=>absurd rfl h,N5 _,Nd _,fun _=>⟨rfl,rfl⟩,fun h=>absurd rfl h⟩
     | some x=>
       simp only at hb
       cases h1:bound (ρ x) len with
       | none=>simp [h1] at hb
       | some a=>
         simp [h1] at hb;obtain ⟨rfl,rfl,rfl⟩:=hb
         exact ⟨d,by simp [Instr.sliceBounds,Sy h1 (e x (by simp))],fun _=>⟨rfl,rfl⟩,fun h=>absurd rfl h,Uk h1,Nd _,fun _=>⟨rfl,rfl⟩,fun h=>absurd rfl h⟩
   | some y=>
     simp only at hb
     cases h2:bound (ρ y) cap with
     | none=>simp [h2] at hb
     | some b=>
       simp only [h2] at hb
       cases lo with
       | none=>
         simp at hb;obtain ⟨rfl,rfl,rfl⟩:=hb
         exact ⟨d,by simp [Instr.sliceBounds,Sy (Wn hc h2) (e y (by simp))],fun _=>⟨rfl,rfl⟩,fun h=>absurd rfl h,N5 _,Nd _,fun h=>by simp at h,fun _=>Uk h2⟩
       | some x=>
         simp only at hb
         cases h1:bound (ρ x) b with
         | none=>simp [h1] at hb
         | some a=>
           simp [h1] at hb;obtain ⟨rfl,rfl,rfl⟩:=hb
           exact ⟨d,by simp [Instr.sliceBounds,Sy (Wn hc h2) (e y (by simp)),Sy h1 (e x (by simp))],fun _=>⟨rfl,rfl⟩,fun h=>absurd rfl h,Uk h1,Nd _,fun h=>by simp at h,fun _=>Uk h2⟩
 | some z=>
   simp only at hb
   cases h3:bound (ρ z) cap with
   | none=>simp [h3] at hb
   | some c=>
     simp only [h3] at hb
     cases hi with
     | none=>simp at hb
     | some y=>
       simp only at hb
       cases h2:bound (ρ y) c with
       | none=>simp [h2] at hb
       | some b=>
         simp only [h2] at hb
         cases lo with
         | none=>
           simp at hb;obtain ⟨rfl,rfl,rfl⟩:=hb
           exact ⟨c,by simp [Instr.sliceBounds,Sy (Wn hc h3) (e z (by simp)),Sy h2 (e y (by simp))],fun h=>by simp at h,fun _=>rfl,N5 _,Uk h3,fun h=>by simp at h,fun _=>Uk h2⟩
         | some x=>
           simp only at hb
           cases h1:bound (ρ x) b with
           | none=>simp [h1] at hb
           | some a=>
             simp [h1] at hb;obtain ⟨rfl,rfl,rfl⟩:=hb
             exact ⟨c,by simp [Instr.sliceBounds,Sy (Wn hc h3) (e z (by simp)),Sy h2 (e y (by simp)),Sy h1 (e x (by simp))],fun h=>by simp at h,fun _=>rfl,Uk h1,Uk h3,fun h=>by simp at h,fun _=>Uk h2⟩
end
end Go.AM


namespace Go.AM
theorem Vo:∀{l:List KK} {a c:List Value} {r:Bool},PR l a c=some r->a.length=l.length/\c.length=l.length
 | [],[],[],_,_=>⟨rfl,rfl⟩
 | _::l,_::a,_::c,r,h=>by
   simp only [PR] at h
   split at h
   ·rename_i h2
    have:=Vo h2
    simp [this.1,this.2]
   ·cases h
 | [],_::_,_,_,h=>by simp [PR] at h
 | [],[],_::_,_,h=>by simp [PR] at h
 | _::_,[],_,_,h=>by simp [PR] at h
 | _::_,_::_,[],_,h=>by simp [PR] at h
theorem Vq:∀{l m:List KK} {a c:List Value} {r:Bool},PR (l++m) a c=some r->
  ∃b d,PR l (a.take l.length) (c.take l.length)=some b/\PR m (a.drop l.length) (c.drop l.length)=some d/\r=(b&&d)
 | [],m,a,c,r,h=>⟨true,r,by simp [PR],by simpa using h,by simp⟩
 | k::l,m,x::a,y::c,r,h=>by
   simp only [N1,PR] at h
   split at h
   ·rename_i p q h1 h2
    cases h
    obtain ⟨b,d,e,f,rfl⟩:=Vq h2
    exact ⟨p&&b,d,by simp [PR,h1,e],by simpa using f,by rw [Bool.and_assoc]⟩
   ·cases h
 | k::l,m,[],c,r,h=>by simp [PR] at h
 | k::l,m,_::_,[],r,h=>by simp [PR] at h
theorem Xh {k:KK} {a c:List Value} {r:Bool} (h:PR [k] a c=some r):∃x y,a=[x]/\c=[y]/\TU k x y=some r:=by
 match a,c,h with
 | [x],[y],h=>
   refine ⟨x,y,rfl,rfl, ?_⟩
   simp only [PR] at h
   split at h
   ·rename_i h1 h2
    cases h2
    cases h
    simpa using h1
   ·cases h
 | [],_,h=>simp [PR] at h
 | [_],[],h=>simp [PR] at h
 | [_],_::_::_,h=>simp [PR] at h
 | _::_::_,[],h=>simp [PR] at h
 | _::_::_,[_],h=>simp [PR] at h
 | _::_::_,_::_::_,h=>simp [PR] at h
section
variable {P:Program} (w:World)
theorem Ngj {t:TypeId} {k:KK} (h:Sm P t=some k):(∃l,k=.ints l)\/(P.underlying t=some .bool/\k=.bool)\/(P.underlying t=some .string/\k=.str)\/∃q,P.underlying t=some (.int q)/\k=.int q:=by
 unfold Sm at h
 cases hu:P.underlying t with
 | none=>simp [hu] at h
 | some d=>
   rw [hu] at h
   have wide:(match OZ P 20 t with | some l=>(Tu l).map KK.ints | none=>none)=some k->∃l,k=.ints l:=fun h=>by
    split at h
    ·simp only [Nc] at h
     obtain ⟨a,_,rfl⟩:=h
     exact ⟨a,rfl⟩
    ·cases h
   cases d
   case bool=>simp at h;exact .inr (.inl ⟨rfl,h.symm⟩)
   case string=>simp at h;exact .inr (.inr (.inl ⟨rfl,h.symm⟩))
   case int q=>simp at h;exact .inr (.inr (.inr ⟨q,rfl,h.symm⟩))
   case struct b=>exact .inl (wide h)
   case array n e=>exact .inl (wide h)
   all_goals (simp at h;done)
theorem Nhw (d:Nat) (t:TypeId) {k:KK} {x y:Value} {r:Bool} (h:TU k x y=some r) (c:Sm P t=some k):(Op.equalIn (d+1) t x y).run P w=.ok r w:=by
 rcases Ngj c with ⟨l,rfl⟩ | ⟨a,rfl⟩ | ⟨a,rfl⟩ | ⟨q,a,rfl⟩
 ·cases x<;>cases y<;>simp [TU] at h
 ·cases x<;>cases y<;>simp [TU] at h
  subst h
  exact run_equalIn_bool w d t _ _ a
 ·cases x<;>cases y<;>simp [TU] at h
  subst h
  exact run_equalIn_string w d t _ _ a
 ·cases x<;>cases y<;>simp only [TU] at h<;>try (cases h;done)
  split at h
  ·rename_i b
   cases h
   obtain ⟨rfl,rfl⟩:=b
   exact run_equalIn_int w d t _ _ _ _ a
  ·cases h
def Nuj (P:Program) (w:World) (d:Nat) (t:TypeId) (l:List KK):Prop:=
 ∀(x y:Value) (r:Bool),(QV P t=some true->(∃xs,x=.agg xs)/\∃ys,y=.agg ys)->(QV P t=some false->x.cells=#[x]/\y.cells=#[y])->
  PR l x.cells.toList y.cells.toList=some r->(Op.equalIn d t x y).run P w=.ok r w
theorem UU (t:TypeId) {b:Bool} (hb:QV P t=some b) {n:Nat} (hn:PH P t=some n) (cs:Array Value) (off:Nat) (a:off+n<=cs.size) (h1:b=false->n=1) :
  ∃v,(part t cs off).run P w=.ok v w/\(QV P t=some true->∃xs,v=.agg xs)/\(b=false->cs[off]? = some v)/\(b=true->v.cells.toList=(cs.toList.drop off).take n):=by
 cases b with
 | true=>exact ⟨_,Zl hb hn,fun _=>⟨_,rfl⟩,(fun h=>by cases h),fun _=>extract_toList cs off n⟩
 | false=>
   have:=h1 rfl
   subst this
   exact ⟨cs[off]'(by omega),Zn hb (Nu (by omega)),(fun h=>by rw [hb] at h;cases h),fun _=>Nu (by omega),(fun h=>by cases h)⟩
theorem Ne3 {d:Nat} {t:TypeId} {l:List KK} (o:Nuj P w d t l) {b:Bool} (hb:QV P t=some b) (hn:PH P t=some l.length) (h1:b=false->l.length=1) (xs ys:Array Value) (off:Nat)
  {r:Bool} (h:PR l ((xs.toList.drop off).take l.length) ((ys.toList.drop off).take l.length)=some r) (A:off+l.length<=xs.size) (B:off+l.length<=ys.size) :
  ∃a c,(part t xs off).run P w=.ok a w/\(part t ys off).run P w=.ok c w/\(Op.equalIn d t a c).run P w=.ok r w:=by
 obtain ⟨a,a1,p,j,q⟩:=UU w t hb hn xs off A h1
 obtain ⟨c,s,u,m,v⟩:=UU w t hb hn ys off B h1
 refine ⟨a,c,a1,s,o a c r (fun h=>⟨p h,u h⟩) (fun n=>?_) ?_⟩
 ·rw [hb] at n;cases n
  have hl:=h1 rfl
  rw [hl] at h
  have one:∀{f:Array Value} {z:Value},f[off]? = some z->(f.toList.drop off).take 1=[z]:=fun {f z} i=>by
   have:=(Array.getElem?_eq_some_iff.1 i)
   obtain ⟨h1,h2⟩:=this
   rw [Pa (by simpa using h1)]
   simp [h2]
  rw [one (j rfl),one (m rfl)] at h
  have g:∃k,l=[k]:=by
   match l,hl with
   | [k],_=>exact ⟨k,rfl⟩
  obtain ⟨k,rfl⟩:=g
  obtain ⟨x,y,e1,e2,e3⟩:=Xh h
  simp only [List.cons.injEq,and_true] at e1 e2
  subst e1 e2
  unfold TU at e3
  split at e3<;>first | exact ⟨rfl,rfl⟩ | (cases e3;done)
 ·cases b with
  | true=>rw [q rfl,v rfl];exact h
  | false=>
    have hl:=h1 rfl
    rw [hl] at h
    have one:∀{f:Array Value} {z:Value},f[off]? = some z->(f.toList.drop off).take 1=[z]:=fun {f z} i=>by
     obtain ⟨h1,h2⟩:=(Array.getElem?_eq_some_iff.1 i)
     rw [Pa (by simpa using h1)]
     simp [h2]
    rw [one (j rfl),one (m rfl)] at h
    have g:∃k,l=[k]:=by
     match l,hl with
     | [k],_=>exact ⟨k,rfl⟩
    obtain ⟨k,rfl⟩:=g
    obtain ⟨x,y,e1,e2,e3⟩:=Xh h
    simp only [List.cons.injEq,and_true] at e1 e2
    subst e1 e2
    have e:a.cells=#[a]/\c.cells=#[c]:=by
     unfold TU at e3
     split at e3<;>first | exact ⟨rfl,rfl⟩ | (cases e3;done)
    rw [e.1,e.2]
    exact h
theorem ZU {d:Nat} {e:TypeId} {l:List KK} (i:Nuj P w d e l) {b:Bool} (hb:QV P e=some b) (hn:PH P e=some l.length) (h1:b=false->l.length=1) (xs ys:Array Value) :
  ∀(m s:Nat) (r:Bool),PR (List.replicate m l).flatten (xs.toList.drop (s*l.length)) (ys.toList.drop (s*l.length))=some r->
   (Op.eqItems d e l.length xs ys (List.range' s m)).run P w=.ok r w
 | 0,s,r,h=>by
   simp only [List.replicate_zero,List.flatten_nil] at h
   have:r=true:=by
    generalize xs.toList.drop (s*l.length)=u at h
    generalize ys.toList.drop (s*l.length)=v at h
    cases u<;>cases v<;>simp [PR] at h
    exact h
   subst this
   simp [Op.eqItems]
 | m+1,s,r,h=>by
   simp only [Qe,List.flatten_cons] at h
   have f:=Vo h
   simp only [Nj,Ow,Array.length_toList] at f
   obtain ⟨y,z,j,k,rfl⟩:=Vq h
   have n:xs.size>=s*l.length\/l.length=0:=by
    by_cases h0:l.length=0
    ·exact .inr h0
    ·left;omega
   have g:ys.size>=s*l.length\/l.length=0:=by
    by_cases h0:l.length=0
    ·exact .inr h0
    ·left;omega
   have o:s*l.length+l.length<=xs.size:=by
    rcases n with h | h
    ·omega
    ·rw [h];omega
   have p:s*l.length+l.length<=ys.size:=by
    rcases g with h | h
    ·omega
    ·rw [h];omega
   obtain ⟨a,c,q,t,x⟩:=Ne3 w i hb hn h1 xs ys (s*l.length) j o p
   have ih:=ZU i hb hn h1 xs ys m (s+1) z (by
    rw [show (s+1)*l.length=s*l.length+l.length by rw [Pt];omega,<-List.drop_drop,<-List.drop_drop];exact k)
   rw [List.range'_succ]
   simp only [Op.eqItems,Sem.run_bind,q,t,x,Result.andThen_ok]
   cases y
   ·simp
   ·simpa using ih
theorem YU (n d:Nat) (IH:∀t l,OZ P n t=some l->Nuj P w d t l) (xs ys:Array Value) :
  ∀(fs:List Field) (off:Nat) (l:List KK) (r:Bool),Xv P (OZ P n) fs off=some l->PR l (xs.toList.drop off) (ys.toList.drop off)=some r->(l≠[]->off<=xs.size/\off<=ys.size)->
   (Op.eqFields d xs ys fs).run P w=.ok r w
 | [],off,l,r,hl,h,_=>by
   simp [Xv] at hl;subst hl
   have:r=true:=by
    generalize xs.toList.drop off=u at h
    generalize ys.toList.drop off=v at h
    cases u<;>cases v<;>simp [PR] at h
    exact h
   subst this
   simp [Op.eqFields]
 | f::fs,off,l,r,hl,h,ho=>by
   simp only [Xv] at hl
   split at hl
   ·cases hl
   rename_i hf
   split at hl
   case h_2=>cases hl
   rename_i l1 hl1
   split at hl
   case isFalse=>cases hl
   rename_i hc
   simp only [Nc] at hl
   obtain ⟨l2,hl2,rfl⟩:=hl
   obtain ⟨hc,hne⟩:=hc
   have hname:f.name≠ "_":=fun e=>hf (.inl e)
   have hoff:f.offset=off:=Po fun e=>hf (.inr e)
   have hlen:=Vo h
   simp only [Nj,Ow,Array.length_toList] at hlen
   obtain ⟨r1,r2,g1,g2,rfl⟩:=Vq h
   have hu:∃dsc,P.underlying f.type=some dsc:=by
    cases hd:P.underlying f.type with
    | some x=>exact ⟨x,rfl⟩
    | none=>cases n<;>simp [OZ,hd] at hl1
   obtain ⟨dsc,hu⟩:=hu
   obtain ⟨i,hi⟩:=info_of_underlying hu
   have hsz:PH P f.type=some l1.length:=by
    rw [hc];simp [PH,Program.cellsOf,hi]
   have hagg:∃b,QV P f.type=some b/\(b=false->l1.length=1):=by
    cases n with
    | zero=>simp [OZ] at hl1
    | succ n=>
      unfold OZ at hl1
      unfold QV
      rw [hu] at hl1⊢
      cases dsc<;>simp at hl1<;>first
       | (subst hl1;exact ⟨false,rfl,fun _=>rfl⟩)
       | exact ⟨true,rfl,fun h=>by cases h⟩
   obtain ⟨b,hb,hb1⟩:=hagg
   have hx:off+l1.length<=xs.size/\off+l1.length<=ys.size:=by
    have:=ho (fun e=>hne (by rw [(List.append_eq_nil_iff.1 e).1];rfl));omega
   obtain ⟨a,c,p1,p2,p3⟩:=Ne3 w (IH _ _ hl1) hb hsz hb1 xs ys off g1 hx.1 hx.2
   have ih:=YU n d IH xs ys fs (off+l1.length) l2 r2 hl2 (by rw [<-List.drop_drop,<-List.drop_drop];exact g2) (fun _=>hx)
   simp only [Op.eqFields,hname,ne_eq,not_false_eq_true,if_true,Sem.run_bind,hoff,p1,p2,p3,Result.andThen_ok]
   cases r1
   ·simp
   ·simpa using ih
theorem UT:∀(n:Nat) (t:TypeId) (l:List KK),OZ P n t=some l->∀d,Nuj P w (d+n) t l
 | 0,t,l,h,_=>by simp [OZ] at h
 | n+1,t,l,h,d=>by
   intro x y r m p hr
   unfold OZ at h
   have cell:∀k,Sm P t=some k->l=[k]->QV P t=some false->(Op.equalIn (d+(n+1)) t x y).run P w=.ok r w:=by
    intro k B hl A
    subst hl
    obtain ⟨h1,h2⟩:=p A
    rw [h1,h2] at hr
    obtain ⟨a,c,e1,e2,e3⟩:=Xh hr
    simp at e1 e2
    subst e1 e2
    exact Nhw w (d+n) t e3 B
   split at h
   ·rename_i g;cases h
    exact cell .bool (by simp [Sm,g]) rfl (by simp [QV,g])
   ·rename_i k g;cases h
    exact cell (.int k) (by simp [Sm,g]) rfl (by simp [QV,g])
   ·rename_i g;cases h
    exact cell .str (by simp [Sm,g]) rfl (by simp [QV,g])
   ·rename_i len e g
    split at h
    case h_2=>cases h
    rename_i l1 f
    split at h
    case isFalse=>cases h
    rename_i hc
    cases h
    obtain ⟨⟨xs,rfl⟩,⟨ys,rfl⟩⟩:=m (by simp [QV,g])
    have j:∃o,P.underlying e=some o:=by
     cases hd:P.underlying e with
     | some x=>exact ⟨x,rfl⟩
     | none=>cases n<;>simp [OZ,hd] at f
    obtain ⟨o,j⟩:=j
    obtain ⟨i,hi⟩:=info_of_underlying j
    have v:PH P e=some l1.length:=by
     rw [hc];simp [PH,Program.cellsOf,hi]
    have hb:∃b,QV P e=some b/\(b=false->l1.length=1):=by
     cases n with
     | zero=>simp [OZ] at f
     | succ n=>
       unfold OZ at f
       unfold QV
       rw [j] at f⊢
       cases o<;>simp at f<;>first
        | (subst f;exact ⟨false,rfl,fun _=>rfl⟩)
        | exact ⟨true,rfl,fun h=>by cases h⟩
    obtain ⟨b,hb,s⟩:=hb
    rw [show d+(n+1)=(d+n)+1 from rfl,run_equalIn_array w (d+n) xs ys g hi,<-hc,List.range_eq_range']
    exact ZU w (UT n e l1 f d) hb v s xs ys len 0 r (by simpa [Value.cells] using hr)
   ·rename_i z g
    split at h
    ·cases h
    rename_i u
    obtain ⟨⟨xs,rfl⟩,⟨ys,rfl⟩⟩:=m (by simp [QV,g])
    have q:P.fieldsOf t=z:=by simp [Program.fieldsOf,g]
    rw [show d+(n+1)=(d+n)+1 from rfl,run_equalIn_struct w (d+n) t xs ys (by rw [q];exact g) (by simpa using u),q]
    exact YU w n (d+n) (fun t l hl=>UT n t l hl d) xs ys z.toList 0 l r h (by simpa [Value.cells] using hr) (fun _=>⟨N5 _,N5 _⟩)
   ·cases h
theorem run_eqGuard_agg (op:BinOp) (t:TypeId) (x y:Operand) (xs ys:Array Value) (h:P.eqGuardType P.depth t=false):(eqGuard op t x y (.agg xs) (.agg ys)).run P w=.ok () w:=by
 cases op<;>simp [eqGuard,h]
theorem Nru (d:Nat) (t e:TypeId) (q:Option Addr) (h:P.underlying t=some (.pointer e)):(Op.equalIn (d+1) t (.pointer none) (.pointer q)).run P w=.ok q.isNone w:=by simp [Op.equalIn,run_underlying h]
theorem Nrt (d:Nat) (t e:TypeId) (q:Addr) (h:P.underlying t=some (.pointer e)):(Op.equalIn (d+1) t (.pointer (some q)) (.pointer none)).run P w=.ok false w:=by simp [Op.equalIn,run_underlying h]
theorem Ntz (d:Nat) (t e:TypeId) (q:Option Addr) (a b c f:Nat) (h:P.underlying t=some (.slice e)):(Op.equalIn (d+1) t (.slice none a b) (.slice q c f)).run P w=.ok q.isNone w:=by simp [Op.equalIn,run_underlying h]
theorem Nty (d:Nat) (t e:TypeId) (q:Addr) (a b c f:Nat) (h:P.underlying t=some (.slice e)):(Op.equalIn (d+1) t (.slice (some q) a b) (.slice none c f)).run P w=.ok false w:=by simp [Op.equalIn,run_underlying h]
theorem Nrw (d:Nat) (t e f:TypeId) (q:Option Nat) (h:P.underlying t=some (.map e f)):(Op.equalIn (d+1) t (.map none) (.map q)).run P w=.ok q.isNone w:=by simp [Op.equalIn,run_underlying h]
theorem Nrv (d:Nat) (t e f:TypeId) (q:Nat) (h:P.underlying t=some (.map e f)):(Op.equalIn (d+1) t (.map (some q)) (.map none)).run P w=.ok false w:=by simp [Op.equalIn,run_underlying h]
theorem Nt4 (d:Nat) (t:TypeId) {e f:Array TypeId} {g:Bool} (h:P.underlying t=some (.func e f g)):(Op.equalIn (d+1) t .nilFunc .nilFunc).run P w=.ok true w:=by simp [Op.equalIn,run_underlying h]
theorem Nt3 (d:Nat) (t:TypeId) {e f:Array TypeId} {g:Bool} (q:Fn) (i j:Array Value) (h:P.underlying t=some (.func e f g)):(Op.equalIn (d+1) t .nilFunc (.func q i j)).run P w=.ok false w:=by simp [Op.equalIn,run_underlying h]
theorem Nt2 (d:Nat) (t:TypeId) {e f:Array TypeId} {g:Bool} (q:Fn) (i j:Array Value) (h:P.underlying t=some (.func e f g)):(Op.equalIn (d+1) t (.func q i j) .nilFunc).run P w=.ok false w:=by simp [Op.equalIn,run_underlying h]
theorem Nt1 (d:Nat) (t:TypeId) {m} (h:P.underlying t=some (.interface m)):(Op.equalIn (d+1) t .nilIface .nilIface).run P w=.ok true w:=by simp [Op.equalIn,run_underlying h]
theorem Nt0 (d:Nat) (t u:TypeId) (q:Value) {m} (h:P.underlying t=some (.interface m)):(Op.equalIn (d+1) t (.iface u q) .nilIface).run P w=.ok false w:=by simp [Op.equalIn,run_underlying h]
theorem Wv (op:BinOp) (t:TypeId) (x:Operand) (c:Value):(eqGuard op t x (.const c) .nilIface .nilIface).run P w=.ok () w:=by cases op<;>simp [eqGuard]
theorem Nnv {σ:PQ} (neg:Bool) {t:TypeId} {m} (f:P.underlying t=some (.interface m)) (x:Operand) (c:Value) {a b a' b':Value} (d:VRel σ a a') (hb:VRel σ b b') {r:Bool} (h:VM .iface a b=some r) :
  (do eqGuard (if neg then .neq else .eql) t x (.const c) a' b';binOp (if neg then .neq else .eql) t a' b':Sem Value).run P w=.ok (.bool (if neg then !r else r)) w:=by
 unfold VM at h
 split at h<;>try (first | cases h | (rename_i g;cases g))
 all_goals (try contradiction)
 ·rw [d.nilIface_left,hb.nilIface_left]
  have e:=Nt1 w 9999 t f
  cases neg
  ·simp only [No,if_false]
   rw [Sem.run_bind,Wv];simp [binOp];rw [show Op.equal t .nilIface .nilIface=Op.equalIn (9999+1) t .nilIface .nilIface from rfl,e];rfl
  ·simp only [if_true]
   rw [Sem.run_bind,Wv];simp [binOp];rw [show Op.equal t .nilIface .nilIface=Op.equalIn (9999+1) t .nilIface .nilIface from rfl,e];rfl
 ·obtain ⟨u,q,rfl⟩:=d.iface_left
  rw [hb.nilIface_left]
  have e:=Nt0 w 9999 t u q f
  cases neg
  ·simp only [No,if_false]
   rw [Sem.run_bind,QD _ _ _ _ (by simp) (by simp)];simp [binOp];rw [show Op.equal t (.iface u q) .nilIface=Op.equalIn (9999+1) t (.iface u q) .nilIface from rfl,e];rfl
  ·simp only [if_true]
   rw [Sem.run_bind,QD _ _ _ _ (by simp) (by simp)];simp [binOp];rw [show Op.equal t (.iface u q) .nilIface=Op.equalIn (9999+1) t (.iface u q) .nilIface from rfl,e];rfl
theorem Nnu {σ:PQ} (neg:Bool) {k:EqKind} {t:TypeId} (s:Tw P t=some k) (x y:Operand) {a b a' b':Value} (z:VRel σ a a') (hb:VRel σ b b') {r:Bool} (h:VM k a b=some r) :
  (do eqGuard (if neg then .neq else .eql) t x y a' b';binOp (if neg then .neq else .eql) t a' b':Sem Value).run P w=.ok (.bool (if neg then !r else r)) w:=by
 have fin:(eqGuard (if neg then .neq else .eql) t x y a' b').run P w=.ok () w->(Op.equal t a' b').run P w=.ok r w->
   (∀(op:BinOp),op=.eql\/op=.neq->binOp op t a' b'=(if op=.eql then (do pure (.bool (<-Op.equal t a' b'))) else (do pure (.bool (!(<-Op.equal t a' b'))))))->
   (do eqGuard (if neg then .neq else .eql) t x y a' b';binOp (if neg then .neq else .eql) t a' b':Sem Value).run P w=.ok (.bool (if neg then !r else r)) w:=by
  intro h1 h2 H
  cases neg
  ·simp only [No,if_false] at h1⊢
   rw [Sem.run_bind,h1,H .eql (.inl rfl)];simp [h2]
  ·simp only [if_true] at h1⊢
   rw [Sem.run_bind,h1,H .neq (.inr rfl)];simp [h2]
 unfold VM at h
 split at h
 ·
  cases h
  rw [z.bool_left,hb.bool_left] at *
  have o:P.underlying t=some .bool:=by unfold Tw at s;split at s<;>simp_all
  exact fin (QD _ _ _ _ (by simp) (by simp)) (run_equalIn_bool w 9999 t _ _ o) (by rintro op (rfl | rfl)<;>simp [binOp])
 ·cases h
  rename_i q
  rw [z.nilptr_left] at *
  have o:∃e,P.underlying t=some (.pointer e):=by unfold Tw at s;split at s<;>simp_all
  obtain ⟨e,o⟩:=o
  have u:∃v,b'=.pointer v/\v.isNone=q.isNone:=by
   cases hb with
   | atom hb=>exact ⟨_,rfl,rfl⟩
   | ptr hb=>exact ⟨_,rfl,rfl⟩
  obtain ⟨v,rfl,B⟩:=u
  refine fin (QD _ _ _ _ (by simp) (by simp)) ?_ (by rintro op (rfl | rfl)<;>cases v<;>simp [binOp])
  rw [<-B]
  exact Nru w 9999 t _ _ o
 ·cases h
  obtain ⟨L,h1,h2,rfl⟩:=z.ptr_left
  rw [hb.nilptr_left] at *
  have o:∃e,P.underlying t=some (.pointer e):=by unfold Tw at s;split at s<;>simp_all
  obtain ⟨e,o⟩:=o
  refine fin (QD _ _ _ _ (by simp) (by simp)) ?_ (by rintro op (rfl | rfl)<;>simp [binOp])
  exact Nrt w 9999 t _ _ o
 ·cases h
  rename_i n c q m cc
  obtain ⟨rfl,rfl,rfl⟩:=z.nilslice_left
  have o:∃e,P.underlying t=some (.slice e):=by unfold Tw at s;split at s<;>simp_all
  obtain ⟨e,o⟩:=o
  have u:∃v m' c',b'=.slice v m' c'/\v.isNone=q.isNone:=by
   cases hb<;>exact ⟨_,_,_,rfl,rfl⟩
  obtain ⟨v,m',c',rfl,B⟩:=u
  refine fin (QD _ _ _ _ (by simp) (by simp)) ?_ (by rintro op (rfl | rfl)<;>simp [binOp])
  rw [<-B]
  exact Ntz w 9999 t _ _ _ _ _ _ o
 ·cases h
  rename_i q n c m cc
  obtain ⟨rfl,rfl,rfl⟩:=hb.nilslice_left
  have o:∃e,P.underlying t=some (.slice e):=by unfold Tw at s;split at s<;>simp_all
  obtain ⟨e,o⟩:=o
  have A:∃v m' c',a'=.slice (some v) m' c':=by
   obtain ⟨_,L,_,h | ⟨_,_,_,_,_,h⟩ | ⟨_,_,_,h⟩⟩:=z.slice_left
   ·exact ⟨_,_,_,h.2⟩
   ·exact ⟨_,_,_,h⟩
   ·exact ⟨_,_,_,h⟩
  obtain ⟨v,m',c',rfl⟩:=A
  refine fin (QD _ _ _ _ (by simp) (by simp)) ?_ (by rintro op (rfl | rfl)<;>simp [binOp])
  exact Nty w 9999 t _ _ _ _ _ _ o
 ·cases h
  rename_i q
  rw [z.nilmap_left] at *
  have o:∃e f,P.underlying t=some (.map e f):=by unfold Tw at s;split at s<;>simp_all
  obtain ⟨e,f,o⟩:=o
  have u:∃v,b'=.map v/\v.isNone=q.isNone:=by
   cases hb with
   | atom hb=>exact ⟨_,rfl,rfl⟩
   | map hb=>exact ⟨_,rfl,rfl⟩
  obtain ⟨v,rfl,B⟩:=u
  refine fin (QD _ _ _ _ (by simp) (by simp)) ?_ (by rintro op (rfl | rfl)<;>simp [binOp])
  rw [<-B]
  exact Nrw w 9999 t _ _ _ o
 ·cases h
  obtain ⟨L,h1,rfl⟩:=z.map_left
  rw [hb.nilmap_left] at *
  have o:∃e f,P.underlying t=some (.map e f):=by unfold Tw at s;split at s<;>simp_all
  obtain ⟨e,f,o⟩:=o
  refine fin (QD _ _ _ _ (by simp) (by simp)) ?_ (by rintro op (rfl | rfl)<;>simp [binOp])
  exact Nrv w 9999 t _ _ _ o
 ·cases h
  rw [z.nilfunc_left,hb.nilfunc_left] at *
  have o:∃e f g,P.underlying t=some (.func e f g):=by unfold Tw at s;split at s<;>simp_all
  obtain ⟨e,f,g,o⟩:=o
  refine fin (QD _ _ _ _ (by simp) (by simp)) ?_ (by rintro op (rfl | rfl)<;>simp [binOp])
  exact Nt4 w 9999 t o
 ·cases h
  rw [z.nilfunc_left] at *
  have o:∃e f g,P.underlying t=some (.func e f g):=by unfold Tw at s;split at s<;>simp_all
  obtain ⟨e,f,g,o⟩:=o
  have u:∃q i j,b'=.func q i j:=by cases hb<;>exact ⟨_,_,_,rfl⟩
  obtain ⟨q,i,j,rfl⟩:=u
  refine fin (QD _ _ _ _ (by simp) (by simp)) ?_ (by rintro op (rfl | rfl)<;>simp [binOp])
  exact Nt3 w 9999 t _ _ _ o
 ·cases h
  rw [hb.nilfunc_left] at *
  have o:∃e f g,P.underlying t=some (.func e f g):=by unfold Tw at s;split at s<;>simp_all
  obtain ⟨e,f,g,o⟩:=o
  have A:∃q i j,a'=.func q i j:=by cases z<;>exact ⟨_,_,_,rfl⟩
  obtain ⟨q,i,j,rfl⟩:=A
  refine fin (QD _ _ _ _ (by simp) (by simp)) ?_ (by rintro op (rfl | rfl)<;>simp [binOp])
  exact Nt2 w 9999 t _ _ _ o
 ·exfalso;unfold Tw at s;split at s<;>simp_all
 ·exfalso;unfold Tw at s;split at s<;>simp_all
 ·rename_i l xs ys
  obtain ⟨C,rfl,F,_⟩:=z.agg_left
  obtain ⟨D,rfl,G,_⟩:=hb.agg_left
  have E:P.eqGuardType P.depth t=false/\OZ P 20 t=some l/\QV P t=some true:=by
   unfold Tw at s
   split at s<;>simp_all [QV]
  have same:∀{l:List KK} {a b c d:List Value} {r:Bool},OB σ a c->OB σ b d->PR l a b=some r->PR l c d=some r:=by
   intro l
   induction l with
   | nil=>
     intro a b c d r h1 h2 h
     cases a<;>cases b<;>simp [PR] at h
     have:=h1.1;have:=h2.1
     cases c<;>cases d<;>simp_all [PR]
   | cons k l ih=>
     intro a b c d r h1 h2 h
     cases a with
     | nil=>simp [PR] at h
     | cons x a=>
       cases b with
       | nil=>simp [PR] at h
       | cons y b=>
         cases c with
         | nil=>have:=h1.1;simp at this
         | cons I c=>
           cases d with
           | nil=>have:=h2.1;simp at this
           | cons J d=>
             simp only [PR] at h⊢
             have hx:TU k x y=TU k I J\/TU k x y=none:=by
              cases k<;>cases hxx:x<;>cases hyy:y<;>first
               | (right;rfl)
               | (left;subst hxx hyy;first | rw [h1.head.int_left,h2.head.int_left] | rw [h1.head.bool_left,h2.head.bool_left] | rw [h1.head.string_left,h2.head.string_left])
             split at h
             ·rename_i p q e1 e2
              cases h
              rcases hx with hx | hx
              ·rw [<-hx,e1,ih h1.tail h2.tail e2]
              ·rw [hx] at e1;cases e1
             ·cases h
  refine fin (run_eqGuard_agg w _ t x y C D E.1) ?_ (by rintro op (rfl | rfl)<;>simp [binOp])
  exact UT w 20 t l E.2.1 9980 (.agg C) (.agg D) r (fun _=>⟨⟨_,rfl⟩,⟨_,rfl⟩⟩) (fun h=>by rw [E.2.2] at h;cases h) (same F G h)
 ·cases h
end
end Go.AM


namespace Go.AM
open Go.MapKept
section
variable {P:Program} {pureF:FuncId->Bool} {Pg:Prg} {W:Nat->Prop} {lim:Nat} {σ:PQ} {H H':NB} {w:World} {dest:Option Nat} {ρ ρ':Operand->Value} {v:Value}
theorem TW {t:TypeId} {z:List Value} (h:zeroOf P t=some z):∃i a,P.info? t=some i/\i.zero=some a/\z=a.cells.toList/\(∀x∈z,atom x=true/\x.oneCell'=true):=by
 unfold zeroOf at h
 split at h
 ·rename_i i hi
  split at h
  ·rename_i a d
   split at h
   ·rename_i b
    cases h
    refine ⟨i,a,hi,d,rfl,fun x c=>?_⟩
    have:=N2.1 b x c
    simpa using this
   ·cases h
  ·cases h
 ·cases h
theorem Xn {t:TypeId} {n:Nat} (h:PH P t=some n):∃i,P.info? t=some i/\i.size=n:=by
 simpa [PH] using h
theorem Yr {t:TypeId} {n:Nat} (h:UH P t=some n):∃i,P.info? t=some i/\i.bytes=n:=by
 simpa [UH] using h
theorem Ng6 (a:Inv Pg W lim σ H w) (l:∀d,dest=some d->d<H.length/\σ d=none) {e:TypeId} {z:List Value} (m:zeroOf P e=some z)
  (f:NH lim dest (.alloc z) ρ H=some (v,H')) (o:Oper) (ho:o.op=.alloc e):NR Pg W lim σ dest H w ((execOp ρ' o).run P w) v H':=by
 obtain ⟨i,h,hi,g,rfl,b⟩:=TW m
 simp only [NH] at f
 cases hp:place dest (.cells false h.cells.toList) H with
 | mk k K=>
 rw [hp] at f
 cases f
 refine NR.made a l hp (cs:=h.cells) (el:=e) (fun j x c=>⟨x,by simpa using c,.atom (b x (Oa c)).1,(b x (Oa c)).2⟩) (by simp) a (Stp.refl _ _)
  (v':=.pointer (some ⟨w.heap.size,0,none⟩)) ?_ (by simpa using VRel.ptr (σ:=σ.put k ⟨w.heap.size,0,h.cells.size⟩) (i:=k) (k:=0) PQ.put_same)
 simp [execOp,ho,Instr.alloc,zeroValue,typeInfo,hi,g,newVar,newRow]
theorem Nnj (a:Inv Pg W lim σ H w) (g:∀d,dest=some d->d<H.length/\σ d=none) {e:TypeId} {x:Operand} (c:VRel σ (ρ x) (ρ' x))
  (b:NH lim dest (.box x) ρ H=some (v,H')) (o:Oper) (ho:o.op=.box e x):NR Pg W lim σ dest H w ((execOp ρ' o).run P w) v H':=by
 simp only [NH] at b
 split at b
 case isFalse=>cases b
 rename_i l
 cases hp:place dest (.cells false (ρ x).cells.toList) H with
 | mk k K=>
 rw [hp] at b
 cases b
 refine NR.made a g hp (cs:=(ρ' x).cells) (el:=e) (fun j y h=>?_) (by have:=c.cells.1;simp at this;simp;omega) a (Stp.refl _ _)
  (v':=.pointer (some ⟨w.heap.size,0,none⟩)) ?_ (by simpa using VRel.ptr (σ:=σ.put k ⟨w.heap.size,0,(ρ' x).cells.size⟩) (i:=k) (k:=0) PQ.put_same)
 ·obtain ⟨f,h1,h2⟩:=c.cells.get h
  exact ⟨f,by simpa using h1,h2,c.cells_one l f (Oa h1)⟩
 ·simp [execOp,ho,Instr.box,newVar,newRow]
theorem ZN (P:Program) (w:World):∀(a:List Field),(a.all fun f=>(P.info? f.type).isSome)=true->
  (a.mapM fun f=>(do pure (f.offset,<-sizeOf f.type):Sem (Nat×Nat))).run P w=.ok (a.map fun f=>(f.offset,P.cellsOf f.type)) w
 | [],_=>rfl
 | f::a,h=>by
   simp only [List.all_cons,Nq] at h
   obtain ⟨i,hi⟩:=Option.isSome_iff_exists.1 h.1
   have ih:=ZN P w a h.2
   have h1:(do pure (f.offset,<-sizeOf f.type):Sem (Nat×Nat)).run P w=.ok (f.offset,P.cellsOf f.type) w:=by simp [sizeOf,typeInfo,hi,Program.cellsOf]
   rw [List.mapM_cons,Sem.run_bind,h1]
   simp only [Result.andThen_ok,Sem.run_bind,ih,Sem.run_pure,Of]
theorem MC {z:List Value} (h:∀x∈z,atom x=true/\x.oneCell'=true):OB σ z z:=OB.refl_of fun x a=>.atom (h x a).1
theorem MU (P:Program) (w:World) (a:Array Field) (h:(a.toList.all fun f=>(P.info? f.type).isSome)=true) :
  (a.mapM fun f=>(do pure (f.offset,<-sizeOf f.type):Sem (Nat×Nat))).run P w=.ok (a.map fun f=>(f.offset,P.cellsOf f.type)) w:=by
 rw [Array.mapM_eq_mapM_toList]
 rw [Sem.run_map,ZN P w a.toList h]
 simp only [Result.andThen_ok]
 congr 1
 apply Array.ext'
 simp
theorem Yt (r:Inv Pg W lim σ H w) {t:TypeId} {d:Array Field} (N:P.underlying t=some (.struct d)) {z:List Value} (I:zeroOf P t=some z) {parts:Array (Nat×Operand)} {ps:List (Nat×Nat×Operand)}
  (b:parts.toList.mapM (Nhl P d)=some ps) (k:(d.toList.all fun f=>(P.info? f.type).isSome)=true) (Q:∀x,QB x=true->VRel σ (ρ x) (ρ' x))
  (G:NH lim dest (.build z ps) ρ H=some (v,H')) (o:Oper) (ho:o.op=.build t parts):NR Pg W lim σ dest H w ((execOp ρ' o).run P w) v H':=by
 obtain ⟨i,u,hi,F,rfl,m⟩:=TW I
 simp only [NH,Nc,Prod.mk.injEq] at G
 obtain ⟨c,hc,rfl,rfl⟩:=G
 have key:parts.toList.length=ps.length/\∀(j:Nat) s p,parts.toList[j]? = some s->ps[j]? = some p->((d.map fun f=>(f.offset,P.cellsOf f.type))[s.1]? = some (p.1,p.2.1))/\p.2.2=s.2/\VRel σ (ρ s.2) (ρ' s.2):=by
  generalize parts.toList=l at b
  clear hc ho I
  induction l generalizing ps with
  | nil=>simp at b;subst b;exact ⟨rfl,fun j s p h=>by simp at h⟩
  | cons a l ih=>
    rw [List.mapM_cons] at b
    simp only [bind,Option.bind_eq_some_iff,pure,Option.some.injEq] at b
    obtain ⟨q,g,S,D,rfl⟩:=b
    obtain ⟨J,K⟩:=ih D
    refine ⟨by simp [J],fun j s p E hp=>?_⟩
    cases j with
    | zero=>
      simp at E hp;subst E hp
      simp only [Nhl,bind,Option.bind_eq_some_iff] at g
      obtain ⟨f,M,n,hn,g⟩:=g
      split at g
      case isFalse=>cases g
      rename_i C
      cases g
      obtain ⟨R,A,B⟩:=Xn hn
      refine ⟨by simp [M,Program.cellsOf,A,B],rfl,Q _ C⟩
    | succ j=>exact K j s p (by simpa using E) (by simpa using hp)
 obtain ⟨c',h1,h2,L⟩:=TS (σ:=σ) ρ ρ' (fun j=>(d.map fun f=>(f.offset,P.cellsOf f.type))[j]?) parts.toList ps u.cells.toList c u.cells.toList key.1 key.2 hc (MC m) (fun y O=>(m y O).2)
 refine NR.plain r (v':=.agg c'.toArray) ?_ (VRel.agg_iff.2 ⟨by simpa using h2,by simpa using L⟩)
 simp only [execOp,ho]
 refine OI P w _ ?_
 simp only [Instr.build,Sem.run_bind,zeroValue,typeInfo,run_program,Result.andThen_ok,hi,F,Sem.run_pure,run_underlying N,MU P w d k]
 have e:((parts.map fun x=>(x.1,ρ' x.2)).toList)=parts.toList.map fun x=>(x.1,ρ' x.2):=by simp
 rw [e]
 have e2:(u.cells.toList).toArray=u.cells:=by simp
 rw [e2] at h1
 rw [h1]
 simp
theorem Zb (d:Inv Pg W lim σ H w) {t e:TypeId} {n:Nat} (r:P.underlying t=some (.array n e)) {z:List Value} (A:zeroOf P t=some z) {s:Nat} (q:PH P e=some s) {parts:Array (Nat×Operand)}
  (g:∀x∈parts.toList,VRel σ (ρ x.2) (ρ' x.2))
  (l:NH lim dest (.build z (parts.toList.map fun x=>(x.1*s,s,x.2))) ρ H=some (v,H')) (o:Oper) (ho:o.op=.build t parts):NR Pg W lim σ dest H w ((execOp ρ' o).run P w) v H':=by
 obtain ⟨i,f,hi,h,rfl,b⟩:=TW A
 simp only [NH,Nc,Prod.mk.injEq] at l
 obtain ⟨c,hc,rfl,rfl⟩:=l
 obtain ⟨c',h1,h2,m⟩:=TS (σ:=σ) ρ ρ' (fun j=>some (j*s,s)) parts.toList _ f.cells.toList c f.cells.toList (by simp) (fun j a p k hp=>by
  rw [O0,k] at hp
  simp at hp;subst hp
  exact ⟨rfl,rfl,g a (Oa k)⟩) hc (MC b) (fun y u=>(b y u).2)
 refine NR.plain d (v':=.agg c'.toArray) ?_ (VRel.agg_iff.2 ⟨by simpa using h2,by simpa using m⟩)
 simp only [execOp,ho]
 refine OI P w _ ?_
 simp only [Instr.build,Sem.run_bind,zeroValue,typeInfo,run_program,Result.andThen_ok,hi,h,Sem.run_pure,run_underlying r,Sg q]
 have e:((parts.map fun x=>(x.1,ρ' x.2)).toList)=parts.toList.map fun x=>(x.1,ρ' x.2):=by simp
 rw [e]
 have e2:(f.cells.toList).toArray=f.cells:=by simp
 rw [e2] at h1
 rw [h1]
 simp
theorem Z7 (g:Inv Pg W lim σ H w) (T:∀d,dest=some d->d<H.length/\σ d=none) {t e:TypeId} {len:Nat} (O:P.underlying t=some (.slice e)) {z:List Value} (V:zeroOf P e=some z) {s:Nat} (N:PH P e=some s)
  (G:z.length=s) (F:s≠0) (M:len*s<=2 ^ 20) {parts:Array (Nat×Operand)} (E:∀x∈parts.toList,VRel σ (ρ x.2) (ρ' x.2))
  (q:NH lim dest (.buildSlice len ((List.range (len*s)).map fun j=>z.getD (j % z.length) undef) (parts.toList.map fun x=>(x.1*s,s,x.2))) ρ H=some (v,H')) (o:Oper) (ho:o.op=.buildSlice t len parts) :
  NR Pg W lim σ dest H w ((execOp ρ' o).run P w) v H':=by
 obtain ⟨i,b,hi,I,rfl,C⟩:=TW V
 simp only [NH] at q
 split at q
 case h_2=>cases q
 rename_i c hc
 have r:∀j,atom (b.cells.toList.getD (j % b.cells.toList.length) undef)=true/\(b.cells.toList.getD (j % b.cells.toList.length) undef).oneCell'=true:=fun j=>by
  have l:j % b.cells.toList.length<b.cells.toList.length:=P3 _ (by omega)
  rw [Na,Nf l]
  exact C _ (Qd l)
 have A:∀x∈((List.range (len*s)).map fun j=>b.cells.toList.getD (j % b.cells.toList.length) undef),atom x=true/\x.oneCell'=true:=fun x q=>by
  obtain ⟨j,_,rfl⟩:=List.mem_map.1 q
  exact r j
 obtain ⟨c',h1,h2,S⟩:=TS (σ:=σ) ρ ρ' (fun j=>some (j*s,s)) parts.toList _ _ c _ (by simp) (fun j a p L hp=>by
  rw [O0,L] at hp
  simp at hp;subst hp
  exact ⟨rfl,rfl,E a (Oa L)⟩) hc (MC A) (fun y U=>(A y U).2)
 cases hp:place dest (.cells false c) H with
 | mk k K=>
 rw [hp] at q
 cases q
 refine NR.made g T hp (cs:=c'.toArray) (el:=e) (fun j y l=>?_) (by have:=h2.1;simp;omega) g (Stp.refl _ _)
  (v':=.slice (some ⟨w.heap.size,0,none⟩) len len) ?_ ?_
 ·obtain ⟨Q,J,R⟩:=h2.get l
  exact ⟨Q,by simpa using J,R,S Q (Oa J)⟩
 ·simp only [execOp,ho]
  refine OI P w _ ?_
  have u:¬(len*s > 2 ^ 24):=by omega
  have e:((parts.map fun x=>(x.1,ρ' x.2)).toList)=parts.toList.map fun x=>(x.1,ρ' x.2):=by simp
  have e3:∀m,(Array.map (fun x=>b.cells[x % b.cells.size]!) (Array.range m))=((List.range m).map fun j=>b.cells.toList.getD (j % b.cells.toList.length) undef).toArray:=fun m=>by
   apply Array.ext'
   simp only [Array.toList_map,Array.toList_range,Array.length_toList]
   refine P4 fun j _=>?_
   have l:j % b.cells.size<b.cells.size:=P3 _ (by simp at G;omega)
   rw [Na,Array.getElem?_toList,Nu l]
   simp [l]
  by_cases h0:len*s=0
  ·have D:len=0:=by
    rcases Nat.mul_eq_zero.1 h0 with h | h
    ·exact h
    ·exact absurd h F
   subst D
   simp only [Instr.buildSlice,Sem.run_bind,run_underlying O,Result.andThen_ok,Sg N,Ov,e]
   simp only [Ov,List.range_zero,List.map_nil] at h1
   have:¬(0 > 2 ^ 24):=by omega
   have e0:∀f:Nat->Value,Array.map f (Array.range 0)=#[]:=fun f=>by apply Array.ext';simp
   simp [e0,h1,newRow]
  ·simp only [Instr.buildSlice,Sem.run_bind,run_underlying O,Result.andThen_ok,Sg N,Ni u,Ni h0,e,zeroValue,typeInfo,run_program,hi,I,Sem.run_pure,e3,h1]
   simp [newRow]
 ·have B:len<2 ^ 62:=by
   have:len*1<=len*s:=Nat.mul_le_mul_left _ (by omega)
   omega
  simpa using VRel.slice (σ:=σ.put k ⟨w.heap.size,0,c'.toArray.size⟩) (i:=k) (k:=0) (n:=len) PQ.put_same B
end
section
variable {P:Program} {Pg:Prg} {W:Nat->Prop} {lim:Nat} {σ:PQ} {H H':NB} {w:World} {dest:Option Nat} {ρ ρ':Operand->Value} {v:Value}
theorem TD (a:Addr) (n:Nat) (c:a.spot=none):a.add n=⟨a.block,a.off+n,none⟩:=by
 obtain ⟨b,o,s⟩:=a
 simp only at c;subst c
 unfold Addr.add
 split
 ·rename_i h;subst h;rfl
 ·rfl
theorem VRel.ptr_add {a:Addr} {L:Loc} (b:σ a.block=some L) (c:a.spot=none) (n:Nat) :
  VRel σ (.pointer (some (a.add n))) (.pointer (some ((⟨L.blk,L.base+a.off,none⟩:Addr).add n))):=by
 rw [TD a n c,TD _ n rfl]
 have:=VRel.ptr (σ:=σ) (i:=a.block) (k:=a.off+n) b
 rw [<-On] at this
 exact this
theorem Ne8 {s f:Nat} {b:Array Field} {fd:Field} {n:Nat} (d:P.underlying s=some (.struct b)) (c:b[f]? = some fd) (hn:PH P fd.type=some n) (h0:n≠0) (a:Addr) :
  (Instr.fieldAt s (.pointer (some a)) f).run P w=.ok (.pointer (some (a.add fd.offset))) w:=by
 simp [Instr.fieldAt,run_underlying d,c,Instr.sureAddr,fieldPlace,Sg hn,h0]
theorem XZ {t e:TypeId} {s:Nat} (c:P.underlying t=some (.slice e)) (b:PH P e=some s) (a:Addr) (len cap:Nat) (k:IntKind) (n:Int) (h:0<=n/\n<(len:Int)) :
  (Instr.indexAt t (.slice (some a) len cap) (.int k n)).run P w=.ok (.pointer (some (a.add (n.toNat*s)))) w:=by
 simp [Instr.indexAt,asIntOf,run_underlying c,Sg b,h]
theorem Ya {t e:TypeId} {s len:Nat} (c:P.underlying t=some (.array len e)) (b:PH P e=some s) (a:Addr) (k:IntKind) (n:Int) (h:0<=n/\n<(len:Int)) :
  (Instr.indexAt t (.pointer (some a)) (.int k n)).run P w=.ok (.pointer (some (a.add (n.toNat*s)))) w:=by
 simp [Instr.indexAt,asIntOf,run_underlying c,Sg b,Instr.sureAddr,h]
theorem VD {t e:TypeId} {s len:Nat} (b:P.underlying t=some (.array len e)) (a:PH P e=some s) (cs:Array Value) (k:IntKind) (n:Int) (h:0<=n/\n<(len:Int)) :
  (Instr.index t (.agg cs) (.int k n)).run P w=(part e cs (n.toNat*s)).run P w:=by
 simp [Instr.index,asIntOf,run_underlying b,Sg a,h]
theorem Y8 {t:TypeId} (c:P.underlying t=some .string) (s:ByteArray) (k:IntKind) (n:Int) {b:UInt8} (h0:0<=n) (h:s.data.toList[n.toNat]? = some b) :
  (Instr.index t (.string s) (.int k n)).run P w=.ok (.int .u8 b.toNat) w:=by
 have h':s[n.toNat]? = some b:=by
  obtain ⟨hl,hb⟩:=List.getElem?_eq_some_iff.1 h
  have a:n.toNat<s.size:=by simpa using hl
  show (if h:n.toNat<s.size then some s[n.toNat] else none)=some b
  rw [dif_pos a,<-hb]
  rfl
 simp [Instr.index,asIntOf,run_underlying c,h0,h']
theorem Ndm {t e:TypeId} {s:Nat} (Q:P.underlying t=some (.slice e)) (O:PH P e=some s) {x N:Value} (M:VRel σ x N) {lo hi mx:Option Operand}
  (D:∀y∈lo.toList++hi.toList++mx.toList,VRel σ (ρ y) (ρ' y)) (h:U6 s ρ x lo hi mx=some v) :
  ∃v',(Instr.sliceAt t N (lo.map ρ') (hi.map ρ') (mx.map ρ')).run P w=.ok v' w/\VRel σ v v':=by
 unfold U6 at h
 split at h
 case h_2=>cases h
 rename_i a len cap
 have run:∀(a':Option Addr) (g f l h' m':Nat),(Instr.sliceBounds true g f (lo.map ρ') (hi.map ρ') (mx.map ρ')).run P w=.ok (l,h',m') w->
   (Instr.sliceAt t (.slice a' g f) (lo.map ρ') (hi.map ρ') (mx.map ρ')).run P w=.ok (.slice (if m'=l then a' else a'.map (·.add (l*s))) (h'-l) (m'-l)) w:=by
  intro a' g f l h' m' hb
  simp [Instr.sliceAt,Instr.slice,run_underlying Q,hb,Sg O]
 cases a with
 | none=>
   obtain ⟨rfl,rfl,rfl⟩:=M.nilslice_left
   have G:¬(0=loose s):=by unfold loose;omega
   rw [Ni G,Nk (by omega)] at h
   split at h
   ·cases h
   ·rename_i l h' m hb
    cases h
    obtain ⟨m',o,d,p,E,F,r,r7⟩:=Tc (P:=P) (w:=w) hb D (Nd _) true
    have A:m'=m:=by
     by_cases e:mx=none
     ·rw [(d e).1,(d e).2]
     ·exact p e
    subst A
    have C:l=0/\h'=0/\m'=0:=by
     by_cases e:hi=none
     ·have:=r e;omega
     ·have:=r7 e;omega
    obtain ⟨rfl,rfl,rfl⟩:=C
    exact ⟨_,run _ _ _ _ _ _ o,by simpa using VRel.atom rfl⟩
 | some a=>
   obtain ⟨b,L,j,hc⟩:=M.slice_left
   split at h
   ·
    rename_i q
    split at h
    ·cases h
    rename_i l h' m hb
    rcases hc with ⟨u,_⟩ | ⟨e',he,c',hn,hr,rfl⟩ | ⟨a',he,hn,rfl⟩
    ·rw [q] at u;unfold loose at u;omega
    ·have I:e'=s:=by rw [q] at he;unfold loose at he;omega
     subst I
     obtain ⟨m',o,d,p,E,F,r,r7⟩:=Tc (P:=P) (w:=w) hb D hn true
     have R:h'<=len:=by
      by_cases e:hi=none
      ·have:=r e;omega
      ·have:=r7 e;omega
     refine ⟨_,run _ _ _ _ _ _ o, ?_⟩
     cases mx with
     | none=>
       simp only at h;cases h
       obtain ⟨e1,e2⟩:=d rfl
       subst e1
       by_cases B:m'=l
       ·rw [Nk B]
        have:h'-l=0:=by omega
        rw [this,B,Qg]
        simp only [Ns]
        rw [TD a _ b]
        exact .eslice j (.inr ⟨_,rfl⟩)
       ·rw [Ni B]
        simp only [Ns]
        rw [TD a _ b,TD _ _ rfl]
        have key:a.off+l*e'+(m'-l)*e'<=L.room:=by
         have:l*e'+(m'-l)*e'=m'*e':=by rw [<-Pt];congr 1;omega
         omega
        have:=VRel.lslice (σ:=σ) (i:=a.block) (k:=a.off+l*e') (n:=h'-l) (e:=e') (c:=m'-l) j (by omega) key
        rw [<-On] at this
        exact this
     | some z=>
       simp only at h
       split at h
       case isFalse=>cases h
       rename_i K
       cases h
       have J:=p (by simp)
       subst J
       split
       ·exact VRel.slice' b j (by omega)
       ·simp only [Ns]
        rw [TD a _ b,TD _ _ rfl]
        have:=VRel.slice (σ:=σ) (i:=a.block) (k:=a.off+l*e') (n:=h'-l) (c:=m'-l) j (by omega)
        rw [<-On] at this
        exact this
    ·subst hn
     obtain ⟨m',o,d,p,E,F,r,r7⟩:=Tc (P:=P) (w:=w) hb D (Nd _) true
     have A:m'=m:=by
      by_cases e:mx=none
      ·rw [(d e).1,(d e).2]
      ·exact p e
     subst A
     have C:l=0/\h'=0/\m'=0:=by
      by_cases e:hi=none
      ·have:=r e;omega
      ·have:=r7 e;omega
     obtain ⟨rfl,rfl,rfl⟩:=C
     refine ⟨_,run _ _ _ _ _ _ o, ?_⟩
     cases mx with
     | none=>
       simp only at h;cases h
       simp only [Ns,if_true,Qg]
       rw [TD a _ b]
       exact .eslice j (.inr ⟨_,rfl⟩)
     | some z=>
       simp at h;subst h
       exact VRel.eslice' b j (.inl rfl)
   ·split at h
    case isFalse=>cases h
    rename_i u
    split at h
    ·cases h
    rename_i l h' m hb
    cases h
    rcases hc with ⟨_,rfl⟩ | ⟨e',he,_⟩ | ⟨a',he,hn,rfl⟩
    ·obtain ⟨m',o,d,p,E,F,r,r7⟩:=Tc (P:=P) (w:=w) hb D (Nd _) true
     have A:m'=m:=by
      by_cases e:mx=none
      ·rw [(d e).1,(d e).2]
      ·exact p e
     subst A
     refine ⟨_,run _ _ _ _ _ _ o, ?_⟩
     split
     ·exact VRel.slice' b j (by omega)
     ·simp only [Ns]
      rw [TD a _ b,TD _ _ rfl]
      have:=VRel.slice (σ:=σ) (i:=a.block) (k:=a.off+l*s) (n:=h'-l) (c:=m'-l) j (by omega)
      rw [<-On] at this
      exact this
    ·exact absurd he (by unfold loose at *;omega)
    ·subst hn
     have H:cap=0:=by
      rcases he with h | ⟨e,h⟩
      ·exact h
      ·exact absurd h (by unfold loose at *;omega)
     subst H
     obtain ⟨m',o,d,p,E,F,r,r7⟩:=Tc (P:=P) (w:=w) hb D (Nd _) true
     have A:m'=m:=by
      by_cases e:mx=none
      ·rw [(d e).1,(d e).2]
      ·exact p e
     subst A
     have C:l=0/\h'=0/\m'=0:=by
      by_cases e:hi=none
      ·have:=r e;omega
      ·have:=r7 e;omega
     obtain ⟨rfl,rfl,rfl⟩:=C
     refine ⟨_,run _ _ _ _ _ _ o, ?_⟩
     simp only [if_true,Qg]
     exact VRel.eslice' b j (.inl rfl)
end
section
variable {P:Program} {Pg:Prg} {W:Nat->Prop} {lim:Nat} {σ:PQ} {H H':NB} {w:World} {dest:Option Nat} {v:Value}
theorem Nk9 (q:Inv Pg W lim σ H w) {t:TypeId} {esz m:Nat} {str:Bool} (f:if str then P.underlying t=some .string/\esz=1 else ∃v,P.underlying t=some (.slice v)) {x r:Value} (z:VRel σ x r)
  {new:List Value} (hn:firstCells H esz str x=some new) (o:lenOf x=some m) :
  ∃news,Src P esz t r m news w/\OB σ new news/\(∀y∈news,y.oneCell'=true)/\new.length=m*esz:=by
 unfold firstCells at hn
 split at hn
 ·rename_i n c
  obtain ⟨rfl,rfl,rfl⟩:=z.nilslice_left
  simp [lenOf] at o;subst o
  split at hn
  ·cases hn
  ·rename_i l
   cases hn
   simp at l
   rw [l] at f
   obtain ⟨v,g⟩:=f
   exact ⟨[],Src.ofNil w g 0,OB.nil,fun y i=>by simp at i,by simp⟩
 ·rename_i a n c
  simp [lenOf] at o;subst o
  split at hn
  ·cases hn
  ·rename_i l
   simp at l
   rw [l] at f
   obtain ⟨v,g⟩:=f
   obtain ⟨E,L,D,hc⟩:=z.slice_left
   have k:∀c',r=.slice (some ⟨L.blk,L.base+a.off,none⟩) n c'->∃news,Src P esz t r n news w/\OB σ new news/\(∀y∈news,y.oneCell'=true)/\new.length=n*esz:=by
    intro c' d
    by_cases p:n=0
    ·subst p
     rw [Nk rfl] at hn;cases hn
     subst d
     exact ⟨[],Src.ofSlice w g _ 0 c' [] (by simp) (fun j u h=>by simp at h) (fun u h=>by simp at h),OB.nil,fun y i=>by simp at i,by simp⟩
    rw [Ni p] at hn
    obtain ⟨B,h1,h2,A,C⟩:=q.loadCells D hn
    subst d
    refine ⟨B,Src.ofSlice w g _ n c' B h2 (fun j u h=>by rw [Addr.add_mid];exact C j u h) A,h1,A,by rw [h1.1,h2]⟩
   rcases hc with ⟨_,d⟩ | ⟨e,_,c',_,_,d⟩ | ⟨a',_,h0,d⟩
   ·exact k _ d
   ·exact k _ d
   ·subst h0 d
    rw [Nk rfl] at hn;cases hn
    exact ⟨[],Src.ofSlice w g _ 0 0 [] (by simp) (fun j u h=>by simp at h) (fun u h=>by simp at h),OB.nil,fun y i=>by simp at i,by simp⟩
 ·rename_i s
  simp [lenOf] at o;subst o
  split at hn
  case isFalse=>cases hn
  rename_i l
  cases hn
  rw [Nk l] at f
  obtain ⟨f,rfl⟩:=f
  rw [z.string_left]
  refine ⟨byteCells s,Src.ofString w f s,OB.refl_of fun y i=>?_,fun y i=>?_,by simp⟩
  ·obtain ⟨b,_,rfl⟩:=List.mem_map.1 i;exact .atom rfl
  ·obtain ⟨b,_,rfl⟩:=List.mem_map.1 i;rfl
 ·cases hn
theorem Zc (f:Inv Pg W lim σ H w) (hd:∀d,dest=some d->d<H.length/\σ d=none) {st xt ty e:TypeId} (T:P.underlying st=some (.slice e)) {esz bytes:Nat} {str:Bool}
  (be:if str then P.underlying xt=some .string/\esz=1 else ∃e',P.underlying xt=some (.slice e')) (a3:PH P e=some esz) (a2:UH P e=some bytes) {z:List Value} (hz:zeroOf P e=some z) (bf:z.length=esz)
  {s s' x x':Value} (hs:VRel σ s s') (hx:VRel σ x x') (h:OH lim dest esz bytes str s x H=some (v,H')) {run:Result Next}
  (F:run=((Builtin.append_ #[st,xt] ty #[s',x']).run P w).andThen fun v w'=>.ok (.value v) w'):NR Pg W lim σ dest H w run v H':=by
 obtain ⟨i,hi,a5⟩:=Xn a3
 obtain ⟨i2,aj,a4⟩:=Yr a2
 rw [hi] at aj;cases aj
 obtain ⟨i3,zv,ak,bh,bl,bm⟩:=TW hz
 rw [hi] at ak;cases ak
 have bg:zv.cells.size=esz:=by rw [<-bf,bl];simp
 subst a5 a4
 unfold OH at h
 split at h
 case h_2=>cases h
 rename_i base n cap new m an hm
 obtain ⟨news,G,g,E,Q⟩:=Nk9 f be hx an hm
 split at h
 ·cases h
 rename_i C
 have bn:i.size≠0:=fun e=>C (.inl e)
 have ay:¬(n+m)*i.bytes > PS:=fun e=>C (.inr (.inl e))
 have bo:¬n+m>=2 ^ 62:=fun e=>C (.inr (.inr (.inl e)))
 have bp:¬cap<n:=fun e=>C (.inr (.inr (.inr e)))
 have U:(n+m)*i.bytes<=140737488355328:=by unfold PS at ay;omega
 split at h
 ·rename_i am
  subst am
  have ba:news=[]:=by have:=g.1;simp at Q;subst Q;simpa using this.symm
  subst ba
  cases h
  have fin:∀b' t c',s'=.slice b' t c'->t<=c'->NR Pg W lim σ dest H w run (.slice base n cap) H:=fun b' t c' b a6=>by
   refine NR.plain f (v':=s') ?_ hs
   subst b
   rw [F,run_append_nothing w st xt ty e i T hi b' t c' a6 x' G]
   rfl
  cases base with
  | none=>obtain ⟨_,_,b⟩:=hs.nilslice_left;exact fin _ _ _ b (Nd _)
  | some a=>
    obtain ⟨_,L,X,⟨_,b⟩ | ⟨_,_,c',hn,_,b⟩ | ⟨_,_,_,b⟩⟩:=hs.slice_left
    ·exact fin _ _ _ b (by omega)
    ·exact fin _ _ _ b hn
    ·exact fin _ _ _ b (Nd _)
 rename_i am
 have a8:0<m:=by omega
 have grow:∀(H0:NB) (B:Option Addr) (t c':Nat) (old olds:List Value) (k:Nat) (K:NB),Inv Pg W lim σ H0 w->H0.length=H.length->s'=.slice B t c'->t=n->OB σ old olds->(∀y∈olds,y.oneCell'=true)->old.length=n*i.size->
   (Builtin.firstCells i.size t (.slice B t c')).run P w.drew=.ok olds.toArray w.drew->c'<n+m->place dest (.cells false (old++new)) H0=(k,K)->
   NR Pg W lim σ dest H w run (.slice (some ⟨k,0,none⟩) (n+m) (loose i.size)) K:=by
  intro H0 B t c' old olds k K hI N b a9 av R D q O hp
  subst b a9
  have hg:=run_append_grow_src w st xt ty e i zv T hi bh B t c' olds q x' m news G O (by omega) (growslice_fits O U)
  have ai:=grownCap_ge w (t+m) c' e
  have ag:∀d,dest=some d->d<H0.length/\σ d=none:=fun d e=>by rw [N];exact hd d e
  have ac:(((olds++news).toArray++Builtin.zeroCells zv.cells (grownCap w (t+m) c' e-(t+m))).size)=grownCap w (t+m) c' e*i.size:=by
   simp only [Array.size_append,size_zeroCells,bg,List.size_toArray,Nj,<-av.1,<-g.1,D,Q]
   rw [<-Pt,<-Pt];congr 1;omega
  obtain ⟨q1,q2⟩:=hI.drew.alloc (lim:=lim) (el:=e) hp ag (cs:=(olds++news).toArray++Builtin.zeroCells zv.cells (grownCap w (t+m) c' e-(t+m))) (fun j y M=>by
   obtain ⟨y',h1,h2⟩:=(av.append g).get M
   refine ⟨y', ?_,h2, ?_⟩
   ·rw [Array.getElem?_append_left (by have:=(List.getElem?_eq_some_iff.1 h1).1;simpa using this)]
    simpa using h1
   ·rcases Ob.1 (Oa h1) with h | h
    ·exact R _ h
    ·exact E _ h) (by rw [ac];simp only [Nj,D,Q,<-Pt];exact Om _ ai)
  obtain ⟨g1,g2,g3,g4,g5,g6,g7⟩:=TB hp fun d e=>(ag d e).1
  refine ⟨_,_,_,_,by rw [F,hg];rfl,rfl, ?_,q1,Stp.drew.trans (Stp.alloc hI.drew.fresh _),PQ.le_put q2,fun j M=>?_,by omega,fun Y=>?_⟩
  ·have aa:0+grownCap w (t+m) c' e*i.size<=((olds++news).toArray++Builtin.zeroCells zv.cells (grownCap w (t+m) c' e-(t+m))).size:=by omega
   have:=VRel.lslice (σ:=σ.put k ⟨w.drew.heap.size,0,_⟩) (i:=k) (k:=0) (n:=t+m) (e:=i.size) (c:=grownCap w (t+m) c' e) PQ.put_same ai aa
   simpa [On] using this
  ·by_cases e:j=k
   ·subst e
    cases dest with
    | none=>exact .inr ⟨rfl,by rw [g5 rfl,N];exact Nd _⟩
    | some d=>exact .inl (by rw [(g6 d rfl).1])
   ·simp [PQ.put,e] at M
  ·cases dest with
   | none=>exact absurd rfl Y
   | some d=>rw [(g6 d rfl).2,N]
 cases base with
 | none=>
   simp only at h
   split at h
   case isFalse=>cases h
   rename_i h0
   obtain ⟨rfl,rfl⟩:=h0
   obtain ⟨_,_,b⟩:=hs.nilslice_left
   cases hp:place dest (.cells false new) H with
   | mk k K=>
   rw [hp] at h
   cases h
   have:=grow H none 0 0 [] [] k K f rfl b rfl OB.nil (fun y hy=>by simp at hy) (by simp) (run_firstCells_none w.drew i.size 0 0 0) (by omega) (by simpa using hp)
   simpa using this
 | some a=>
   simp only at h
   split at h
   ·cases h
   rename_i old o
   obtain ⟨ax,L,X,hc⟩:=hs.slice_left
   have D:old.length=n*i.size:=by
    unfold AM.loadCells at o
    split at o
    ·split at o
     ·cases o;simp;omega
     ·cases o
    ·cases o
   obtain ⟨olds,Z,bc,ao,bd⟩:=f.loadCells X o
   have q:∀c',(Builtin.firstCells i.size n (.slice (some ⟨L.blk,L.base+a.off,none⟩) n c')).run P w.drew=.ok olds.toArray w.drew:=fun c'=>
    run_firstCells_some w.drew i.size n _ n c' olds bc fun j u T=>by rw [Addr.add_mid];simpa using bd j u T
   have empty:n=0->old=[]:=fun h0=>by subst h0;simpa using D
   split at h
   ·
    rename_i I
    split at h
    case h_2=>cases h
    rename_i cb hb
    split at h
    case isFalse=>cases h
    rename_i al
    cases hp:place dest (.cells false (old++new)) (H.set a.block .dead) with
    | mk k K=>
    rw [hp] at h
    cases h
    rcases hc with ⟨O,_⟩ | ⟨e',he,c',hn,hr,b⟩ | ⟨a',he,hn,b⟩
    ·rw [I] at O;unfold loose at O;omega
    ·have ah:e'=i.size:=by rw [I] at he;unfold loose at he;omega
     subst ah
     by_cases l:n+m<=c'
     ·
      have aa:a.off+old.length+new.length<=L.room:=by
       rw [D,Q,On,<-Pt]
       have:(n+m)*i.size<=c'*i.size:=Om _ l
       omega
      obtain ⟨w',q1,q2,q3,q4⟩:=f.appendRoom (P:=P) hb X al (by rw [D];exact o) g E aa hp hd
      obtain ⟨cs,el,fz,hh,az,ho⟩:=f.cells hb X
      obtain ⟨aq,au,S⟩:=ho rfl
      have r:∀j,j<news.length->(w.cell? ⟨L.blk,L.base+a.off+n*i.size+j,none⟩).isSome=true:=fun j M=>by
       rw [cell_of_heap hh (Nu (by have:=g.1;omega))];rfl
      have J:∀j,j<news.length->w.frozen? ⟨L.blk,L.base+a.off+n*i.size+j,none⟩=false:=fun j M=>by
       simp only [World.frozen?,hh]
       have:=S.ok (L.base+a.off+n*i.size+j) (by have:=g.1;omega)
       obtain ⟨f1,f2⟩:=fz
       simp at this⊢
       exact this
      have ab:=run_append_room_src w st xt ty e i T hi L.blk (L.base+a.off) n c' x' m news G l r J
      have A:=run_storeCells_cells (P:=P) L.blk (L.base+a.off+n*i.size) news 0 w (by simpa using r) (by simpa using J) E
      rw [D] at q1
      rw [Oq] at A
      have ad:w'=w.setCells L.blk (L.base+a.off+n*i.size) news:=by
       have:=q1.symm.trans A
       simpa using this
      obtain ⟨g1,g2,g3,g4,g5,g6,g7⟩:=TB hp fun d e=>by simpa using (hd d e).1
      subst b
      refine ⟨_,w',_,_,by rw [F,ab,ad];rfl,rfl, ?_,q2,q3,PQ.le_put q4,fun j M=>?_,by simpa using g3,fun Y=>?_⟩
      ·have aw:0+c'*i.size<=L.room-a.off:=by omega
       have:=VRel.lslice (σ:=σ.put k ⟨L.blk,L.base+a.off,L.room-a.off⟩) (i:=k) (k:=0) (n:=n+m) (e:=i.size) (c:=c') PQ.put_same l aw
       simpa using this
      ·by_cases e:j=k
       ·subst e
        cases dest with
        | none=>exact .inr ⟨rfl,by rw [g5 rfl];simp⟩
        | some d=>exact .inl (by rw [(g6 d rfl).1])
       ·simp [PQ.put,e] at M
      ·cases dest with
       | none=>exact absurd rfl Y
       | some d=>rw [(g6 d rfl).2];simp
     ·exact grow (H.set a.block .dead) _ n c' old olds k K (f.killAny _) (by simp) b rfl Z ao D (q c') (by omega) hp
    ·subst hn
     have:=empty rfl
     subst this
     have bb:olds=[]:=by have:=Z.1;simpa using this.symm
     subst bb
     exact grow (H.set a.block .dead) (some a') 0 0 [] [] k K (f.killAny _) (by simp) b rfl OB.nil (fun y hy=>by simp at hy) (by simp) (run_firstCells_some w.drew i.size 0 _ 0 0 [] (by simp) (fun j u T=>by simp at T)) (by omega) hp
   ·split at h
    case isFalse=>cases h
    rename_i I ae
    split at h
    ·
     rename_i l
     split at h
     case h_2=>cases h
     rename_i H2 A
     cases h
     rcases hc with ⟨_,b⟩ | ⟨e',he,_⟩ | ⟨a',he,hn,b⟩
     ·rw [TD a _ ax] at A
      obtain ⟨w',q1,q2,q3,q4⟩:=f.store (P:=P) (p:=⟨a.block,a.off+n*i.size,none⟩) X A g E
      unfold storeAt at A
      split at A
      case h_2=>cases A
      rename_i cb hb
      split at A
      case isFalse=>cases A
      rename_i a0
      obtain ⟨cs,el,fz,hh,az,ho⟩:=f.cells hb X
      obtain ⟨aq,au,S⟩:=ho rfl
      simp only at a0
      have r:∀j,j<news.length->(w.cell? ⟨L.blk,L.base+a.off+n*i.size+j,none⟩).isSome=true:=fun j M=>by
       rw [cell_of_heap hh (Nu (by have:=g.1;omega))];rfl
      have J:∀j,j<news.length->w.frozen? ⟨L.blk,L.base+a.off+n*i.size+j,none⟩=false:=fun j M=>by
       simp only [World.frozen?,hh]
       have:=S.ok (L.base+a.off+n*i.size+j) (by have:=g.1;omega)
       obtain ⟨f1,f2⟩:=fz
       simp at this⊢
       exact this
      have ab:=run_append_room_src w st xt ty e i T hi L.blk (L.base+a.off) n cap x' m news G l r J
      have V:=run_storeCells_cells (P:=P) L.blk (L.base+a.off+n*i.size) news 0 w (by simpa using r) (by simpa using J) E
      rw [Oq] at V
      rw [show L.base+(a.off+n*i.size)=L.base+a.off+n*i.size by omega] at q1
      have ad:w'=w.setCells L.blk (L.base+a.off+n*i.size) news:=by
       have:=q1.symm.trans V
       simpa using this
      subst b
      exact ⟨_,w',σ,_,by rw [F,ab,ad];rfl,rfl,VRel.slice' ax X ae,q2,q3,PQ.le_refl σ,fun j M=>absurd rfl M,by omega,fun _=>q4⟩
     ·exact absurd he (by unfold loose at *;omega)
     ·exact absurd he (by unfold loose at *;omega)
    ·rename_i l
     cases hp:place dest (.cells false (old++new)) H with
     | mk k K=>
     rw [hp] at h
     cases h
     rcases hc with ⟨_,b⟩ | ⟨e',he,_⟩ | ⟨a',he,hn,b⟩
     ·exact grow H _ n cap old olds k K f rfl b rfl Z ao D (q cap) (by omega) hp
     ·exact absurd he (by unfold loose at *;omega)
     ·subst hn
      have:=empty rfl
      subst this
      exact grow H (some a') 0 0 [] [] k K f rfl b rfl OB.nil (fun y hy=>by simp at hy) (by simp) (run_firstCells_some w.drew i.size 0 _ 0 0 [] (by simp) (fun j u T=>by simp at T)) (by omega) hp
end
section
variable {P:Program} {Pg:Prg} {W:Nat->Prop} {lim:Nat} {σ:PQ} {H H':NB} {w:World} {dest:Option Nat} {ρ ρ':Operand->Value} {v:Value}
theorem YR:∀{l:List KK} {a:List IntKind},Tu l=some a->l=a.map .int
 | [],a,h=>by simp [Tu] at h;subst h;rfl
 | .int k::l,a,h=>by
   simp only [Tu,Nc] at h
   obtain ⟨r,h1,rfl⟩:=h
   rw [YR h1];rfl
 | .str::l,a,h=>by simp [Tu] at h
 | .bool::l,a,h=>by simp [Tu] at h
 | .ints _::l,a,h=>by simp [Tu] at h
theorem YQ:∀{c:List IntKind} {xs ys:List Value} {r:Bool},Sr c xs=true->Ux xs ys=some r->PR (c.map .int) xs ys=some r
 | [],[],ys,r,_,h=>by
   cases ys with
   | nil=>simpa [Ux,PR] using h
   | cons y ys=>simp [Ux] at h
 | [],x::xs,ys,r,h1,_=>by simp [Sr] at h1
 | k::c,[],ys,r,h1,_=>by simp [Sr] at h1
 | k::c,x::xs,ys,r,h1,h=>by
   cases x<;>simp only [Sr,No] at h1
   rename_i k' a
   rw [Nq,beq_iff_eq] at h1
   obtain ⟨rfl,h1⟩:=h1
   cases ys with
   | nil=>simp [Ux] at h
   | cons y ys=>
     cases y<;>simp only [Ux] at h<;>try (cases h;done)
     rename_i k2 b
     split at h
     ·rename_i d
      subst d
      simp only [Nc] at h
      obtain ⟨r',h2,rfl⟩:=h
      have:=YQ h1 h2
      simp only [Of,PR,TU,this,and_self,if_true]
     ·cases h
theorem XN:∀{a:List IntKind} {xs:List Value},Sr a xs=true->xs.length=a.length
 | [],[],_=>rfl
 | [],x::xs,h=>by simp [Sr] at h
 | k::a,[],h=>by simp [Sr] at h
 | k::a,x::xs,h=>by
   cases x<;>simp only [Sr,No] at h
   rw [Nq] at h
   simp [XN h.2]
theorem ZW:∀{xs ys:List Value},Ux xs ys=some true->ys=xs
 | [],[],_=>rfl
 | [],y::ys,h=>by simp [Ux] at h
 | x::xs,[],h=>by cases x<;>simp [Ux] at h
 | x::xs,y::ys,h=>by
   cases x<;>cases y<;>simp only [Ux] at h<;>try (cases h;done)
   split at h
   ·rename_i a
    subst a
    simp only [Nc,Nq,beq_iff_eq] at h
    obtain ⟨r,h1,rfl,rfl⟩:=h
    rw [ZW h1]
   ·cases h
theorem Nar:∀{a:List IntKind} {xs ys:List Value},Sr a xs=true->OB σ xs ys->ys=xs
 | [],[],ys,_,h=>by
   have:=h.1
   cases ys with
   | nil=>rfl
   | cons y ys=>simp at this
 | [],x::xs,ys,h,_=>by simp [Sr] at h
 | k::a,[],ys,h,_=>by simp [Sr] at h
 | k::a,x::xs,ys,h,hr=>by
   cases ys with
   | nil=>have:=hr.1;simp at this
   | cons y ys=>
     cases x<;>simp only [Sr,No] at h
     rw [Nq] at h
     rw [Nar h.2 hr.tail,hr.head.int_left]
theorem Nc2 {n:Nat} {t:TypeId} {l:List KK} (h:OZ P n t=some l):∃b,QV P t=some b/\(b=false->l.length=1):=by
 cases n with
 | zero=>simp [OZ] at h
 | succ n=>
   unfold OZ at h
   unfold QV
   cases hu:P.underlying t with
   | none=>simp [hu] at h
   | some a=>
     rw [hu] at h
     cases a<;>simp at h<;>first
      | (subst h;exact ⟨false,rfl,fun _=>rfl⟩)
      | exact ⟨true,rfl,fun h=>by cases h⟩
theorem TI (em:Bool) (d:Nat):∀(n:Nat) (t:TypeId) (l:List KK),OZ P n t=some l->∀x,(QV P t=some true->∃xs,x=.agg xs/\l.length<=xs.size)->(Instr.checkKey em (d+n) t x).run P w=.ok () w
 | 0,t,l,h,_,_=>by simp [OZ] at h
 | n+1,t,l,h,x,hx=>by
   rw [show d+(n+1)=(d+n)+1 from rfl]
   unfold OZ at h
   split at h
   ·rename_i hu
    simp only [Instr.checkKey,Sem.run_bind,run_underlying hu,Result.andThen_ok]
    cases x<;>rfl
   ·rename_i k hu
    simp only [Instr.checkKey,Sem.run_bind,run_underlying hu,Result.andThen_ok]
    cases x<;>rfl
   ·rename_i hu
    simp only [Instr.checkKey,Sem.run_bind,run_underlying hu,Result.andThen_ok]
    cases x<;>rfl
   ·rename_i len e hu
    split at h
    case h_2=>cases h
    rename_i l1 hl1
    split at h
    case isFalse=>cases h
    rename_i hc
    cases h
    obtain ⟨xs,rfl,hsz⟩:=hx (by simp [QV,hu])
    have hue:∃dsc,P.underlying e=some dsc:=by
     cases hd:P.underlying e with
     | some x=>exact ⟨x,rfl⟩
     | none=>cases n<;>simp [OZ,hd] at hl1
    obtain ⟨dsc,hue⟩:=hue
    obtain ⟨i,hi⟩:=info_of_underlying hue
    have hsz1:PH P e=some l1.length:=by
     rw [hc];simp [PH,Program.cellsOf,hi]
    have his:i.size=l1.length:=by
     have:=hsz1;simpa [PH,hi] using this
    obtain ⟨b,hb,hb1⟩:=Nc2 hl1
    have hlen:(List.replicate len l1).flatten.length=len*l1.length:=by simp
    rw [hlen] at hsz
    simp only [Instr.checkKey,Sem.run_bind,run_underlying hu,Result.andThen_ok]
    simp only [Std.Legacy.Range.forIn_eq_forIn_range',Std.Legacy.Range.size,Nat.sub_zero,Nat.add_one_sub_one,Nat.div_one]
    have each:∀j∈List.range' 0 len,j<len:=fun j hj=>by simpa using (List.mem_range'_1.1 hj).2
    generalize List.range' 0 len=is at each
    induction is with
    | nil=>simp
    | cons j is ih=>
      have hj:=each j (by simp)
      have hjl:j*l1.length+l1.length<=xs.size:=by
       have:=Om l1.length (Qz hj)
       rw [P9] at this
       omega
      obtain ⟨a,p1,p2,p3,p4⟩:=UU w e hb hsz1 xs (j*l1.length) hjl hb1
      have q:=TI em d n e l1 hl1 a (fun ht=>by
       obtain ⟨zs,rfl⟩:=p2 ht
       refine ⟨zs,rfl, ?_⟩
       rw [hb] at ht
       cases ht
       have:=Qn List.length (p4 rfl)
       simp only [Value.cells,Array.length_toList,N7,Ow] at this
       omega)
      simp only [List.forIn_cons,Sem.run_bind,run_sizeOf w hi,Result.andThen_ok,<-hc,p1,q,Sem.run_pure]
      exact ih (fun y hy=>each y (by simp [hy]))
   ·rename_i fs hu
    split at h
    ·cases h
    obtain ⟨xs,rfl,hsz⟩:=hx (by simp [QV,hu])
    simp only [Instr.checkKey,Sem.run_bind,run_underlying hu,Result.andThen_ok]
    rw [<-Array.forIn_toList]
    have ho:0+l.length<=xs.size\/l=[]:=.inl (by omega)
    clear hx hsz
    generalize fs.toList=L at h
    generalize (0:Nat)=off at h ho
    induction L generalizing off l with
    | nil=>simp
    | cons f L ih=>
      simp only [Xv] at h
      split at h
      ·cases h
      rename_i hf
      split at h
      case h_2=>cases h
      rename_i l1 hl1
      split at h
      case isFalse=>cases h
      rename_i hc
      simp only [Nc] at h
      obtain ⟨l2,hl2,rfl⟩:=h
      obtain ⟨hc,hne⟩:=hc
      have hname:f.name≠ "_":=fun e=>hf (.inl e)
      have hoff:f.offset=off:=Po fun e=>hf (.inr e)
      have hsz2:off+(l1.length+l2.length)<=xs.size:=by
       rcases ho with h | h
       ·simpa using h
       ·simp at h;exact absurd (by rw [h.1];rfl) hne
      have hue:∃dsc,P.underlying f.type=some dsc:=by
       cases hd:P.underlying f.type with
       | some x=>exact ⟨x,rfl⟩
       | none=>cases n<;>simp [OZ,hd] at hl1
      obtain ⟨dsc,hue⟩:=hue
      obtain ⟨i,hi⟩:=info_of_underlying hue
      have hsz1:PH P f.type=some l1.length:=by
       rw [hc];simp [PH,Program.cellsOf,hi]
      obtain ⟨b,hb,hb1⟩:=Nc2 hl1
      obtain ⟨a,p1,p2,p3,p4⟩:=UU w f.type hb hsz1 xs off (by omega) hb1
      have q:=TI em d n f.type l1 hl1 a (fun ht=>by
       obtain ⟨zs,rfl⟩:=p2 ht
       refine ⟨zs,rfl, ?_⟩
       rw [hb] at ht
       cases ht
       have:=Qn List.length (p4 rfl)
       simp only [Value.cells,Array.length_toList,N7,Ow] at this
       omega)
      simp only [List.forIn_cons,Sem.run_bind,hname,ne_eq,not_false_eq_true,if_true,hoff,p1,q,Result.andThen_ok,Sem.run_pure]
      exact ih l2 (off+l1.length) hl2 (.inl (by omega))
   ·cases h
theorem UW {t:TypeId} {kk:KK} (h:Sm P t=some kk) {x:Value} (g:Sb kk x=true) (w:World):(∀e,(Instr.checkKey e 10000 t x).run P w=.ok () w)/\(Instr.keyThatStays x x).run P w=.ok x w/\
  ∃d,P.underlying t=some d/\((IsKey d x/\∀y r,Sq x y=some r->Instr.sameNow d x y=some r)\/
   ((∀y,Instr.sameNow d x y=none)/\∀y r,Sq x y=some r->(Op.equal t x y).run P w=.ok r w)):=by
 unfold Sm at h
 cases hu:P.underlying t with
 | none=>simp [hu] at h
 | some d=>
   rw [hu] at h
   by_cases n:∃a cs,kk=.ints a/\x=.agg cs
   ·obtain ⟨a,cs,rfl,rfl⟩:=n
    have f:OZ P 20 t=some (a.map .int)/\QV P t=some true:=by
     cases d<;>simp at h
     all_goals
      split at h
      ·rename_i l hl
       simp only [Nc,KK.ints.injEq,exists_eq_right] at h
       rw [hl,YR h]
       exact ⟨rfl,by simp [QV,hu]⟩
      ·cases h
    obtain ⟨f,i⟩:=f
    have b:Sr a cs.toList=true:=g
    have c:=XN b
    refine ⟨fun e=>?_, ?_,d,rfl,.inr ⟨fun y=>?_,fun y r hr=>?_⟩⟩
    ·exact TI (w:=w) e 9980 20 t _ f (.agg cs) (fun _=>⟨cs,rfl,by rw [Nz,<-c];simp⟩)
    ·have m:Instr.sameBits 10000 (.agg cs) (.agg cs)=true:=by
      show Instr.sameBits (9999+1) (.agg cs) (.agg cs)=true
      simp only [Instr.sameBits,beq_self_eq_true,Bool.true_and,N2]
      intro p hp
      have key:∀(a:List IntKind) (xs:List Value),Sr a xs=true->∀p∈xs.zip xs,Instr.sameBits 9999 p.1 p.2=true:=by
       intro a
       induction a with
       | nil=>
         intro xs h p hp
         cases xs with
         | nil=>simp at hp
         | cons x xs=>simp [Sr] at h
       | cons k a ih=>
         intro xs h p hp
         cases xs with
         | nil=>simp at hp
         | cons x xs=>
           cases x<;>simp only [Sr,No] at h
           rw [Nq] at h
           rw [List.zip_cons_cons,Nh] at hp
           rcases hp with rfl | hp
           ·simp [Instr.sameBits]
           ·exact ih xs h.2 p hp
      exact key a _ b p hp
     simp [Instr.keyThatStays,m]
    ·cases d<;>rfl
    ·cases y<;>simp only [Sq] at hr<;>try (cases hr;done)
     rename_i ys
     have:=UT w 20 t _ f 9980 (.agg cs) (.agg ys) r (fun _=>⟨⟨_,rfl⟩,⟨_,rfl⟩⟩) (fun o=>by rw [i] at o;cases o) (YQ b hr)
     exact this
   ·have j:IsKey d x/\∀y r,Sq x y=some r->Instr.sameNow d x y=some r:=by
     constructor
     ·cases d<;>simp at h<;>first
       | (subst h;cases x<;>simp_all [Sb,IsKey];done)
       | (split at h
          ·rename_i l hl
           cases hi:Tu l with
           | none=>simp [hi] at h
           | some a=>
             simp [hi] at h
             subst h
             cases x<;>simp [Sb] at g
             exact absurd ⟨_,_,rfl,rfl⟩ n
          ·cases h)
     ·intro y r hr
      cases d<;>simp at h<;>first
       | (subst h;cases x<;>simp [Sb] at g<;>cases y<;>simp_all [Sq,Instr.sameNow];done)
       | (split at h
          ·rename_i l hl
           cases hi:Tu l with
           | none=>simp [hi] at h
           | some a=>
             simp [hi] at h
             subst h
             cases x<;>simp [Sb] at g
             exact absurd ⟨_,_,rfl,rfl⟩ n
          ·cases h)
    exact ⟨fun e=>MapKept.run_checkKey hu j.1 e 9999,run_keyThatStays j.1,d,rfl,.inl j⟩
theorem Zy {x:Value} {kk:KK} (a:Sb kk x=true) {y:Value} (h:VRel σ x y):y=x:=by
 cases kk<;>cases x<;>simp [Sb] at a<;>first
  | exact h.int_left
  | exact h.string_left
  | exact h.bool_left
  | (obtain ⟨ys,rfl,hl,_⟩:=h.agg_left
     have:=Nar a hl
     congr 1
     exact Array.toList_inj.1 this)
theorem Nao {a b:Value} (h:Sq a b=some true):b=a:=by
 unfold Sq at h
 split at h
 ·split at h
  ·rename_i d;subst d
   simp at h;rw [h]
  ·cases h
 ·rename_i a b
  have h2:(a == b)=true:=by simpa using h
  rw [beq_toListBytes,ByteArray.toList_eq,ByteArray.toList_eq] at h2
  have c:a.data.toList=b.data.toList:=by simpa using h2
  obtain ⟨⟨x⟩⟩:=a
  obtain ⟨⟨y⟩⟩:=b
  simp at c
  rw [c]
 ·simp at h;rw [h]
 ·congr 1
  exact Array.toList_inj.1 (ZW h)
 ·cases h
theorem V9 {t:TypeId} {kk:KK} (H:Sm P t=some kk) {x:Value} (I:Sb kk x=true) {es:List (Value×Value)} {ents:Array MapEntry} (v:ents.size=es.length)
  (y:∀(j:Nat) e c,es[j]? = some e->ents[j]? = some c->e.1=c.key/\VRel σ e.2 c.val) {r:Option (Nat×Value)} (h:findKey x es 0=some r) :
  (Instr.findKey t x ents.toList).run P w=.ok (r.map fun p=>(p.1,(ents.getD p.1 default).val)) w/\
   (∀p,r=some p->∃e c,es[p.1]? = some e/\ents[p.1]? = some c/\e.2=p.2/\Sq x e.1=some true):=by
 obtain ⟨_,_,d,E,n⟩:=UW H I w
 have found:∀(es:List (Value×Value)) (l:List MapEntry) (i:Nat),l.length=es.length->∀r,findKey x es i=some r->∀p,r=some p->i<=p.1/\∃e c,es[p.1-i]? = some e/\l[p.1-i]? = some c/\e.2=p.2/\Sq x e.1=some true:=by
  intro es
  induction es with
  | nil=>intro l i _ r hr p hp;simp [findKey] at hr;subst hr;cases hp
  | cons a es ih=>
    intro l i hl r hr p hp
    cases l with
    | nil=>simp at hl
    | cons b l=>
      obtain ⟨k',v'⟩:=a
      simp only [findKey] at hr
      split at hr
      ·rename_i he
       cases hr
       cases hp
       exact ⟨Nd _,(k',v'),b,by simp,by simp,rfl,he⟩
      ·obtain ⟨h1,e,c,h2,B,C,D⟩:=ih l (i+1) (by simpa using hl) r hr p hp
       refine ⟨by omega,e,c, ?_, ?_,C,D⟩
       ·rw [show p.1-i=(p.1-(i+1))+1 by omega];simpa using h2
       ·rw [show p.1-i=(p.1-(i+1))+1 by omega];simpa using B
      ·cases hr
 have u:∀(j:Nat) e c,es[j]? = some e->ents.toList[j]? = some c->e.1=c.key:=fun j e c h1 h2=>(y j e c h1 (by simpa using h2)).1
 have g:ents.toList.length=es.length:=by simpa using v
 refine ⟨?_,fun p hp=>?_⟩
 ·rcases n with ⟨_,k⟩ | ⟨o,q⟩
  ·have key:∀(es:List (Value×Value)) (l:List MapEntry) (i:Nat),l.length=es.length->(∀(j:Nat) e c,es[j]? = some e->l[j]? = some c->e.1=c.key)->∀r,findKey x es i=some r->
     Instr.findNow d x l i=some (r.map fun p=>(p.1,(l.getD (p.1-i) default).val)):=by
    intro es
    induction es with
    | nil=>
      intro l i hl _ r hr
      have:l=[]:=by simpa using hl
      subst this
      simp [findKey] at hr;subst hr
      rfl
    | cons a es ih=>
      intro l i hl s r hr
      cases l with
      | nil=>simp at hl
      | cons b l=>
        have G:=found (a::es) (b::l) i hl r hr
        obtain ⟨k',v'⟩:=a
        have f:k'=b.key:=s 0 (k',v') b rfl rfl
        simp only [findKey] at hr
        split at hr
        ·rename_i he
         cases hr
         have:=k _ _ he
         rw [f] at this
         simp [Instr.findNow,this]
        ·rename_i he
         have z:=k _ _ he
         rw [f] at z
         have m:=ih l (i+1) (by simpa using hl) (fun j e c h1 h2=>s (j+1) e c (by simpa using h1) (by simpa using h2)) r hr
         have A:=found es l (i+1) (by simpa using hl) r hr
         simp only [Instr.findNow,z,m]
         cases r with
         | none=>rfl
         | some p=>
           obtain ⟨h1,_⟩:=A p rfl
           simp only [Ns]
           rw [show p.1-i=(p.1-(i+1))+1 by omega]
           rfl
        ·cases hr
   have m:=key es ents.toList 0 g u r h
   have:=run_findKey (w:=w) (kt:=t) E m
   rw [this]
   cases r with
   | none=>rfl
   | some p=>simp
  ·
   have key:∀(es:List (Value×Value)) (l:List MapEntry) (i:Nat),l.length=es.length->(∀(j:Nat) e c,es[j]? = some e->l[j]? = some c->e.1=c.key)->∀r,findKey x es i=some r->
     (Instr.findAsking t x l i).run P w=.ok (r.map fun p=>(p.1,(l.getD (p.1-i) default).val)) w:=by
    intro es
    induction es with
    | nil=>
      intro l i hl _ r hr
      have:l=[]:=by simpa using hl
      subst this
      simp [findKey] at hr;subst hr
      simp [Instr.findAsking]
    | cons a es ih=>
      intro l i hl s r hr
      cases l with
      | nil=>simp at hl
      | cons b l=>
        obtain ⟨k',v'⟩:=a
        have f:k'=b.key:=s 0 (k',v') b rfl rfl
        simp only [findKey] at hr
        split at hr
        ·rename_i he
         cases hr
         have:=q _ _ he
         rw [f] at this
         simp [Instr.findAsking,this]
        ·rename_i he
         have z:=q _ _ he
         rw [f] at z
         have m:=ih l (i+1) (by simpa using hl) (fun j e c h1 h2=>s (j+1) e c (by simpa using h1) (by simpa using h2)) r hr
         have A:=found es l (i+1) (by simpa using hl) r hr
         simp only [Instr.findAsking,Sem.run_bind,z,Result.andThen_ok,No,if_false,m]
         cases r with
         | none=>rfl
         | some p=>
           obtain ⟨h1,_⟩:=A p rfl
           simp only [Ns]
           rw [show p.1-i=(p.1-(i+1))+1 by omega]
           rfl
        ·cases hr
   have m:=key es ents.toList 0 g u r h
   have hfn:Instr.findNow d x ents.toList 0=none\/ents.toList=[]:=by
    cases ents.toList with
    | nil=>exact .inr rfl
    | cons b l=>exact .inl (by simp [Instr.findNow,o])
   rcases hfn with hfn | hfn
   ·simp only [Instr.findKey,Sem.run_bind,run_underlying E,Result.andThen_ok,hfn,m]
    cases r with
    | none=>rfl
    | some p=>simp
   ·have F:es=[]:=by rw [hfn] at g;simpa using g.symm
    subst F
    simp [findKey] at h
    subst h
    rw [hfn]
    simp [Instr.findKey,run_underlying E,Instr.findNow]
 ·obtain ⟨_,e,c,h2,B,C,D⟩:=found es ents.toList 0 g r h p hp
  exact ⟨e,c,by simpa using h2,by simpa using B,C,D⟩
theorem Inv.entries (h:Inv Pg W lim σ H w) {m m':Value} (c:VRel σ m m') {es:List (Value×Value)} (he:mapEntries H m=some es) :
  (m'=.map none/\es=[])\/∃(r:Nat) (L:Loc) (ents:Array MapEntry) (clock:Nat),m=.map (some r)/\NF H r=.map es/\σ r=some L/\m'=.map (some L.blk)/\w.heap[L.blk]? = some (.map ents clock)/\ents.size=es.length/\
   ∀(j:Nat) e a,es[j]? = some e->ents[j]? = some a->e.1=a.key/\VRel σ e.2 a.val:=by
 unfold mapEntries at he
 split at he
 ·cases he;exact .inl ⟨c.nilmap_left,rfl⟩
 ·rename_i r
  split at he
  ·rename_i es' hb
   cases he
   obtain ⟨L,b,rfl⟩:=c.map_left
   obtain ⟨g,h1,ents,clock,h2,d,f,_⟩:=h.blk r _ (RV hb rfl) rfl
   rw [b] at h1;cases h1
   exact .inr ⟨r,L,ents,clock,rfl,hb,b,rfl,h2,d,f⟩
  ·cases he
 ·cases he
theorem Inv.stamps (h:Inv Pg W lim σ H w) {r:Nat} {L:Loc} {es:List (Value×Value)} {ents:Array MapEntry} {clock:Nat} (hb:NF H r=.map es) (d:σ r=some L) (e:w.heap[L.blk]? = some (.map ents clock)):Njy es.length clock ents:=by
 obtain ⟨f,h1,b,a,h2,g,i,c⟩:=h.blk r _ (RV hb rfl) rfl
 rw [d] at h1;cases h1
 rw [e] at h2;cases h2
 exact c
theorem Yx {t:TypeId} {z:Value} (h:Xm P t=some z):∃i,P.info? t=some i/\i.zero=some z/\∀τ,VRel τ z z:=by
 unfold Xm at h
 split at h
 ·rename_i i hi
  split at h
  ·rename_i f e
   split at h
   ·rename_i c
    cases h
    refine ⟨i,hi,e,fun τ=>?_⟩
    have hc:∀x∈z.cells.toList,atom x=true/\x.oneCell'=true:=fun x b=>by
     have:=N2.1 c x b
     simpa using this
    by_cases a:∃cs,z=.agg cs
    ·obtain ⟨cs,rfl⟩:=a
     exact VRel.agg_iff.2 ⟨OB.refl_of fun x b=>.atom (hc x b).1,fun y d=>(hc y d).2⟩
    ·refine .atom (hc z ?_).1
     cases z<;>first | (exact absurd ⟨_,rfl⟩ a) | simp [Value.cells]
   ·cases h
  ·cases h
 ·cases h
theorem Neb (f:Inv Pg W lim σ H w) {t kt e:TypeId} (G:P.underlying t=some (.map kt e)) {kk:KK} (M:Sm P kt=some kk) {z:Value} (V:Xm P e=some z)
  {ok:Bool} {m key:Operand} (S:VRel σ (ρ m) (ρ' m)) (y:VRel σ (ρ key) (ρ' key))
  (g:NH lim dest (.lookup kk z ok m key) ρ H=some (v,H')) (o:Oper) (ho:o.op=.lookup t m key ok):NR Pg W lim σ dest H w ((execOp ρ' o).run P w) v H':=by
 obtain ⟨i,hi,I,C⟩:=Yx V
 simp only [NH] at g
 split at g
 case h_2=>cases g
 rename_i es E
 split at g
 case isFalse=>cases g
 rename_i u
 obtain ⟨q,U,d,R,_⟩:=UW M u w
 have s:=Zy u y
 have n:(zeroValue e).run P w=.ok z w:=by simp [zeroValue,typeInfo,hi,I]
 have pack:∀{a b:Value} {c:Bool},VRel σ a b->VRel σ (if ok then .tuple #[a,.bool c] else a) (if ok then .tuple #[b,.bool c] else b):=by
  intro a b c h
  cases ok
  ·exact h
  ·exact VRel.tuple_iff.2 (OB.cons h (OB.cons (.atom rfl) OB.nil))
 rcases f.entries S E with ⟨k,rfl⟩ | ⟨r,L,ents,clock,T,hb,Y,k,K,A,l⟩
 ·simp [findKey] at g
  obtain ⟨rfl,rfl⟩:=g
  refine NR.plain f (v':=if ok then .tuple #[z,.bool false] else z) ?_ (pack (C σ))
  simp only [execOp,ho]
  refine OI P w _ ?_
  rw [k,s]
  simp [Instr.lookup,run_underlying G,q,Instr.findKey,run_underlying R,Instr.findNow,n]
 ·have F:∃j,findKey (ρ key) es 0=some j:=by
   cases x:findKey (ρ key) es 0 with
   | none=>simp [x] at g
   | some j=>exact ⟨j,rfl⟩
  obtain ⟨j,x⟩:=F
  obtain ⟨D,Q⟩:=V9 (P:=P) (w:=w) (σ:=σ) M u A l x
  cases j with
  | none=>
    simp [x] at g
    obtain ⟨rfl,rfl⟩:=g
    refine NR.plain f (v':=if ok then .tuple #[z,.bool false] else z) ?_ (pack (C σ))
    simp only [execOp,ho]
    refine OI P w _ ?_
    rw [k,s]
    simp only [O5] at D
    simp [Instr.lookup,run_underlying G,MapKept.run_getObj_map K,q,D,n]
  | some p=>
    obtain ⟨e1,e2,N,J,O,q4⟩:=Q p rfl
    obtain ⟨X,Z⟩:=p
    simp [x] at g
    obtain ⟨rfl,rfl⟩:=g
    simp only at N J O
    have B:(ents.getD X default).val=e2.val:=by rw [Nw,J];rfl
    refine NR.plain f (v':=if ok then .tuple #[e2.val,.bool true] else e2.val) ?_ (pack (by rw [<-O];exact (l _ _ _ N J).2))
    simp only [execOp,ho]
    refine OI P w _ ?_
    rw [k,s]
    simp only [Ns,B] at D
    simp [Instr.lookup,run_underlying G,MapKept.run_getObj_map K,q,D]
theorem Inv.setMap (h:Inv Pg W lim σ H w) {r:Nat} {L:Loc} {es es':List (Value×Value)} (hb:NF H r=.map es) (l:σ r=some L) (a:lim<=r) {ents:Array MapEntry} {clock:Nat} (g:L.blk<w.heap.size) (c:ents.size=es'.length)
  (d:∀(j:Nat) e f,es'[j]? = some e->ents[j]? = some f->e.1=f.key/\VRel σ e.2 f.val) (i:Njy es'.length clock ents) :
  Inv Pg W lim σ (H.set r (.map es')) { w with heap:=w.heap.setIfInBounds L.blk (.map ents clock) }/\Stp W w { w with heap:=w.heap.setIfInBounds L.blk (.map ents clock) }:=by
 have b:=RV hb rfl
 have n:({ w with heap:=w.heap.setIfInBounds L.blk (.map ents clock) }:World).heap.size=w.heap.size:=by simp
 have m:∀k,k≠L.blk->({ w with heap:=w.heap.setIfInBounds L.blk (.map ents clock) }:World).heap[k]? = w.heap[k]?:=fun k o=>by
  simp [Array.getElem?_setIfInBounds,Ne.symm o]
 refine ⟨h.rewrite b rfl a l n m ⟨ents,clock, ?_,c,d,i⟩ (fun _=>rfl),Stp.one (h.wr _ _ _ b rfl a l) m n rfl rfl ⟨rfl,.of (Nd _)⟩⟩
 simp [g]
theorem XK (f:Inv Pg W lim σ H w) {t kt e:TypeId} (hu:P.underlying t=some (.map kt e)) {kk:KK} (Z:Sm P kt=some kk) {m key x:Operand} (S:VRel σ (ρ m) (ρ' m)) (C:VRel σ (ρ key) (ρ' key)) (q:VRel σ (ρ x) (ρ' x))
  (l:NH lim dest (.mapUpdate kk m key x) ρ H=some (v,H')):∃w',(Instr.mapUpdate t (ρ' m) (ρ' key) (ρ' x)).run P w=.ok () w'/\Inv Pg W lim σ H' w'/\Stp W w w'/\H'.length=H.length/\v=undef:=by
 simp only [NH] at l
 split at l
 case h_2=>cases l
 rename_i r hr
 split at l
 case h_2=>cases l
 rename_i es hb
 split at l
 case isFalse=>cases l
 rename_i s
 obtain ⟨y,o⟩:=s
 obtain ⟨A,U,d,hd,_⟩:=UW Z y w
 have Q:=Zy y C
 have M:mapEntries H (ρ m)=some es:=by rw [hr];simp [mapEntries,hb]
 rcases f.entries S M with ⟨z,rfl⟩ | ⟨r',L,ents,clock,E,aa,J,z,u,g,k⟩
 ·rw [hr] at S;obtain ⟨L,_,h2⟩:=S.map_left;rw [z] at h2;cases h2
 rw [hr] at E;cases E
 have D:L.blk<w.heap.size:=(Array.getElem?_eq_some_iff.1 u).1
 have N:∃n,findKey (ρ key) es 0=some n:=by
  cases B:findKey (ρ key) es 0 with
  | none=>simp [B] at l
  | some n=>exact ⟨n,rfl⟩
 obtain ⟨n,B⟩:=N
 obtain ⟨I,g2⟩:=V9 (P:=P) (w:=w) (σ:=σ) Z y g k B
 rw [z,Q]
 cases n with
 | none=>
   simp [B] at l
   obtain ⟨rfl,rfl⟩:=l
   obtain ⟨V,X⟩:=f.setMap (es':=es++[(ρ key,ρ x)]) hb J o (ents:=ents.push { key:=ρ key,val:=ρ' x,born:=clock }) (clock:=clock+1) D (by simp [g]) (fun j a b i c=>by
    by_cases h:j<es.length
    ·rw [Ny h] at i
     rw [Pc,Ni (by omega)] at c
     exact k j a b i c
    ·have O:j=es.length:=by
      have:=(List.getElem?_eq_some_iff.1 i).1
      simp at this;omega
     subst O
     simp at i
     rw [<-g] at c
     simp at c
     subst i c
     exact ⟨rfl,q⟩) (by
    obtain ⟨Y,K⟩:=f.stamps hb J u
    refine ⟨by simp [Y],fun j e h=>?_⟩
    rw [Pc] at h
    split at h
    ·cases h;simp only;omega
    ·exact K j e h)
   simp only [O5] at I
   exact ⟨_,by simp [Instr.mapUpdate,run_underlying hu,MapKept.run_getObj_map u,A,I,MapKept.run_setObj_map _ u],V,X,by simp,rfl⟩
 | some p=>
   obtain ⟨F,p2⟩:=p
   obtain ⟨e1,e2,q1,G,q3,q4⟩:=g2 _ rfl
   simp only at q1 G q3
   simp [B] at l
   obtain ⟨rfl,rfl⟩:=l
   have R:e2.key=ρ key:=by
    rw [<-(k _ _ _ q1 G).1]
    exact Nao q4
   have T:F<ents.size:=(Array.getElem?_eq_some_iff.1 G).1
   obtain ⟨V,X⟩:=f.setMap (es':=es.set F (ρ key,ρ x)) hb J o (ents:=ents.modify F fun e=>{ e with key:=ρ key,val:=ρ' x }) (clock:=clock) D (by simp [g]) (fun j a b i c=>by
    rw [N3] at i
    rw [Array.getElem?_modify] at c
    by_cases h:F=j
    ·subst h
     rw [Nk rfl,Nk (by rw [<-g];exact T)] at i
     rw [Nk rfl,G] at c
     simp at i c
     subst i c
     exact ⟨rfl,q⟩
    ·rw [Ni h] at i
     rw [Ni h] at c
     exact k j a b i c) (by
    obtain ⟨Y,K⟩:=f.stamps hb J u
    refine ⟨by simp [Y],fun j e h=>?_⟩
    rw [Array.getElem?_modify] at h
    split at h
    ·simp only [Nc] at h
     obtain ⟨a,i,rfl⟩:=h
     exact K j a i
    ·exact K j e h)
   simp only [Ns] at I
   have hq:((ents[F]?).map (·.key)).getD (ρ key)=ρ key:=by rw [G];simp [R]
   refine ⟨_, ?_,V,X,by simp,rfl⟩
   simp only [Instr.mapUpdate,Sem.run_bind,run_underlying hu,Result.andThen_ok,MapKept.run_getObj_map u,A,I,hq]
   rw [U]
   simp [MapKept.run_setObj_map _ u]
theorem Nea (h:Inv Pg W lim σ H w) {t kt e:TypeId} (hu:P.underlying t=some (.map kt e)) {kk:KK} (hk:Sm P kt=some kk) {z:Value} (hz:Xm P e=some z) {m key:Operand} (Y:VRel σ (ρ m) (ρ' m)) (E:VRel σ (ρ key) (ρ' key))
  (k:NH lim dest (.mapEntry kk z m key) ρ H=some (v,H')):∃v' w',(Instr.mapEntry t (ρ' m) (ρ' key)).run P w=.ok v' w'/\VRel σ v v'/\Inv Pg W lim σ H' w'/\Stp W w w'/\H'.length=H.length:=by
 simp only [NH] at k
 split at k
 case h_2=>cases k
 rename_i r hr
 split at k
 case h_2=>cases k
 rename_i es hb
 split at k
 case isFalse=>cases k
 rename_i u
 obtain ⟨y,q⟩:=u
 obtain ⟨C,aa,d,hd,_⟩:=UW hk y w
 have X:=Zy y E
 have T:mapEntries H (ρ m)=some es:=by rw [hr];simp [mapEntries,hb]
 rcases h.entries Y T with ⟨A,rfl⟩ | ⟨r',L,ents,clock,I,ae,R,A,B,i,f⟩
 ·rw [hr] at Y;obtain ⟨L,_,h2⟩:=Y.map_left;rw [A] at h2;cases h2
 rw [hr] at I;cases I
 have G:L.blk<w.heap.size:=(Array.getElem?_eq_some_iff.1 B).1
 obtain ⟨t1,Q⟩:=h.stamps hb R B
 have U:∃l,findKey (ρ key) es 0=some l:=by
  cases D:findKey (ρ key) es 0 with
  | none=>simp [D] at k
  | some l=>exact ⟨l,rfl⟩
 obtain ⟨l,D⟩:=U
 obtain ⟨N,g2⟩:=V9 (P:=P) (w:=w) (σ:=σ) hk y i f D
 obtain ⟨zi,ac,ad,K⟩:=Yx hz
 have M:(zeroValue e).run P w=.ok z w:=by simp [zeroValue,typeInfo,ac,ad]
 rw [A,X]
 cases l with
 | none=>
   simp [D] at k
   obtain ⟨rfl,rfl⟩:=k
   obtain ⟨O,i2⟩:=h.setMap (es':=es++[(ρ key,z)]) hb R q (ents:=ents.push { key:=ρ key,val:=z,born:=clock }) (clock:=clock+1) G (by simp [i]) (fun j a b n c=>by
    by_cases g:j<es.length
    ·rw [Ny g] at n
     rw [Pc,Ni (by omega)] at c
     exact f j a b n c
    ·have V:j=es.length:=by
      have:=(List.getElem?_eq_some_iff.1 n).1
      simp at this;omega
     subst V
     simp at n
     rw [<-i] at c
     simp at c
     subst n c
     exact ⟨rfl,K σ⟩) (by
    refine ⟨by simp [t1],fun j e g=>?_⟩
    rw [Pc] at g
    split at g
    ·cases g;simp only;omega
    ·exact Q j e g)
   simp only [O5] at N
   refine ⟨.tuple #[z,goInt clock],_,by simp [Instr.mapEntry,run_underlying hu,MapKept.run_getObj_map B,C,N,M,MapKept.run_setObj_map _ B], ?_,O,i2,by simp⟩
   have:(clock:Int)=(es.length:Int):=by omega
   rw [show goInt (clock:Int)=.int .i64 (es.length:Int) by rw [this];rfl]
   exact VRel.tuple_iff.2 (OB.cons (K σ) (OB.cons (.atom rfl) OB.nil))
 | some p=>
   obtain ⟨s,p2⟩:=p
   obtain ⟨e1,e2,q1,o,q3,q4⟩:=g2 _ rfl
   simp only at q1 o q3
   simp [D] at k
   obtain ⟨rfl,rfl⟩:=k
   have F:e2.key=ρ key:=by
    rw [<-(f _ _ _ q1 o).1]
    exact Nao q4
   have ag:s<ents.size:=(Array.getElem?_eq_some_iff.1 o).1
   have J:H.set r (.map es)=H:=by
    by_cases Z:r<H.length
    ·have:H[r]=.map es:=by
      have:=hb
      unfold NF at this
      rw [Na,Nf Z] at this
      exact this
     rw [<-this,List.set_getElem_self]
    ·exact List.set_eq_of_length_le (by omega)
   obtain ⟨O,i2⟩:=h.setMap (es':=es) hb R q (ents:=ents.modify s fun e=>{ e with key:=ρ key }) (clock:=clock) G (by simp [i]) (fun j a b n c=>by
    rw [Array.getElem?_modify] at c
    by_cases g:s=j
    ·subst g
     rw [Nk rfl,o] at c
     simp at c
     have:=f _ _ _ n o
     subst c
     exact ⟨by rw [this.1];exact F,this.2⟩
    ·rw [Ni g] at c
     exact f j a b n c) (by
    refine ⟨by simp [t1],fun j e g=>?_⟩
    rw [Array.getElem?_modify] at g
    split at g
    ·simp only [Nc] at g
     obtain ⟨a,n,rfl⟩:=g
     exact Q j a n
    ·exact Q j e g)
   rw [J] at O
   simp only [Ns] at N
   have hq:((ents[s]?).map (·.key)).getD (ρ key)=ρ key:=by rw [o];simp [F]
   have S:((ents[s]?).map (fun x=>(x.born:Int))).getD 0=(s:Int):=by rw [o];exact Qn Int.ofNat (Q _ _ o)
   have ab:(ents.getD s default).val=e2.val:=by rw [Nw,o];rfl
   refine ⟨.tuple #[e2.val,goInt s],_, ?_, ?_,O,i2,rfl⟩
   ·simp only [Instr.mapEntry,Sem.run_bind,run_underlying hu,Result.andThen_ok,MapKept.run_getObj_map B,C,N,hq]
    rw [aa]
    simp only [Sem.run_bind,Sem.run_pure,Result.andThen_ok,MapKept.run_setObj_map _ B,S,ab]
   ·have hv:=(f _ _ _ q1 o).2
    exact VRel.tuple_iff.2 (OB.cons (by first | exact hv | exact q3▸hv) (OB.cons (.atom rfl) OB.nil))
theorem Naz (d:Inv Pg W lim σ H w) (t:TypeId) {m s x:Operand} (F:VRel σ (ρ m) (ρ' m)) (I:VRel σ (ρ s) (ρ' s)) (z:VRel σ (ρ x) (ρ' x))
  (l:NH lim dest (.entryStore m s x) ρ H=some (v,H')):∃w',(Instr.entryStore t (ρ' m) (ρ' s) (ρ' x)).run P w=.ok () w'/\Inv Pg W lim σ H' w'/\Stp W w w'/\H'.length=H.length/\v=undef:=by
 simp only [NH] at l
 split at l
 case h_2=>cases l
 rename_i r n hr hn
 split at l
 case h_2=>cases l
 rename_i es hb
 split at l
 case isFalse=>cases l
 rename_i o
 obtain ⟨h0,f,u⟩:=o
 cases l
 have C:mapEntries H (ρ m)=some es:=by rw [hr];simp [mapEntries,hb]
 rcases d.entries F C with ⟨p,rfl⟩ | ⟨r',L,ents,clock,y,J,G,p,A,q,k⟩
 ·rw [hr] at F;obtain ⟨L,_,h2⟩:=F.map_left;rw [p] at h2;cases h2
 rw [hr] at y;cases y
 have E:L.blk<w.heap.size:=(Array.getElem?_eq_some_iff.1 A).1
 obtain ⟨N,B⟩:=d.stamps hb G A
 rw [hn] at I
 rw [p,I.int_left]
 have h:n.toNat<ents.size:=by omega
 have D:ents.findIdx? (fun e=>(e.born:Int) == n)=some n.toNat:=by
  rw [Array.findIdx?_eq_some_iff_getElem]
  refine ⟨h, ?_,fun j g=>?_⟩
  ·have:=B n.toNat _ (Nu h)
   simp [this];omega
  ·have:=B j _ (Nu (by omega))
   simp [this];omega
 obtain ⟨K,M⟩:=d.setMap (es':=es.set n.toNat ((es.getD n.toNat (undef,undef)).1,ρ x)) hb G u (ents:=ents.modify n.toNat fun e=>{ e with val:=ρ' x }) (clock:=clock) E (by simp [q]) (fun j a b i c=>by
  rw [N3] at i
  rw [Array.getElem?_modify] at c
  by_cases g:n.toNat=j
  ·subst g
   rw [Nk rfl,Nk f] at i
   rw [Nk rfl,Nu h] at c
   simp at i c
   subst i c
   refine ⟨?_,z⟩
   have:=(k n.toNat _ _ (Nf f) (Nu h)).1
   simpa [Nf f] using this
  ·rw [Ni g] at i
   rw [Ni g] at c
   exact k j a b i c) (by
  refine ⟨by simp [N],fun j e g=>?_⟩
  rw [Array.getElem?_modify] at g
  split at g
  ·simp only [Nc] at g
   obtain ⟨a,i,rfl⟩:=g
   exact B j a i
  ·exact B j e g)
 exact ⟨_,by simp [Instr.entryStore,MapKept.run_getObj_map A,asInt,asIntOf,D,MapKept.run_setObj_map _ A],K,M,by simp,rfl⟩
end
section
variable {P:Program} {Pg:Prg} {W:Nat->Prop} {lim:Nat} {σ:PQ} {H H':NB} {w:World} {dest:Option Nat} {ρ ρ':Operand->Value} {v:Value}
theorem Njl (b:Inv Pg W lim σ H w) {t kt e ty:TypeId} (i:P.underlying t=some (.map kt e)) {kk:KK} (g:Sm P kt=some kk) {m key:Operand} (h:VRel σ (ρ m) (ρ' m)) (c:VRel σ (ρ key) (ρ' key))
  (d:NH lim dest (.delete kk m key) ρ H=some (v,H')) {a:Array TypeId} (f:a[0]? = some t):∃w',(Builtin.delete_ a ty #[ρ' m,ρ' key]).run P w=.ok (.tuple #[]) w'/\Inv Pg W lim σ H' w'/\Stp W w w'/\H'.length=H.length/\v=.tuple #[]:=by
 simp only [NH] at d
 cases d
theorem Nd8 (mx:Bool) {x y z:Value} (h:V6 mx x y=some z):(if mx then Builtin.max2 x y else Builtin.min2 x y).run P w=.ok z w/\∃k n,z=.int k n:=by
 unfold V6 at h
 split at h
 ·split at h
  ·rename_i a
   cases h;subst a
   cases mx<;>simp [Builtin.min2,Builtin.max2]
  ·cases h
 ·cases h
theorem UM (mx:Bool):∀(ys a:List Value) (x b r:Value),VRel σ x b->OB σ ys a->R7 mx x ys=some r->
  ∃r',(a.foldlM (if mx then Builtin.max2 else Builtin.min2) b).run P w=.ok r' w/\VRel σ r r'
 | [],a,x,b,r,hx,hy,h=>by
   have:a=[]:=by have:=hy.1;simpa using this.symm
   subst this
   simp [R7] at h;subst h
   exact ⟨b,by simp,hx⟩
 | y::ys,a,x,b,r,hx,hy,h=>by
   cases a with
   | nil=>have:=hy.1;simp at this
   | cons e a=>
     simp only [R7] at h
     split at h
     case h_2=>cases h
     rename_i z c
     have d:b=x/\e=y:=by
      unfold V6 at c
      split at c
      ·exact ⟨hx.int_left,hy.head.int_left⟩
      ·cases c
     obtain ⟨rfl,rfl⟩:=d
     obtain ⟨h1,k,n,rfl⟩:=Nd8 (P:=P) (w:=w) mx c
     obtain ⟨r',h2,f⟩:=UM mx ys a _ _ r (.atom rfl) hy.tail h
     refine ⟨r', ?_,f⟩
     rw [List.foldlM_cons,Sem.run_bind]
     have:((if mx then Builtin.max2 else Builtin.min2) b e).run P w=.ok (.int k n) w:=by cases mx<;>simpa using h1
     rw [this]
     exact h2
theorem Nbb:∀(ns:List Int) (s:ByteArray),ns.foldl (fun r n=>r.push (UInt8.ofNat n.toNat)) s=⟨s.data++(ns.map fun n=>UInt8.ofNat n.toNat).toArray⟩
 | [],s=>by simp
 | n::ns,s=>by
   rw [O9,Nbb ns]
   simp [ByteArray.push]
theorem YZ:∀{cs:List Value} {bs:List UInt8},bytesOf cs=some bs->∃ns:List Int,cs=ns.map (Value.int .u8)/\bs=ns.map fun n=>UInt8.ofNat n.toNat
 | [],bs,h=>by simp [bytesOf] at h;subst h;exact ⟨[],rfl,rfl⟩
 | c::cs,bs,h=>by
   unfold bytesOf at h
   split at h
   ·rename_i h1 h2;cases h2
   ·rename_i n l h1
    split at h
    ·rename_i a hb
     cases h
     obtain ⟨ns,h2,b⟩:=YZ hb
     cases h1
     exact ⟨n::ns,by simp [h2],by simp [b]⟩
    ·cases h
   ·cases h
theorem Nnl (l:Inv Pg W lim σ H w) {s d e:TypeId} (z:P.underlying s=some (.slice e)) (he:P.underlying e=some (.int .u8)) (t:P.underlying d=some .string) {x:Operand} (p:VRel σ (ρ x) (ρ' x))
  (h:NH lim dest (.b2s x) ρ H=some (v,H')):∃v',(convert s d (ρ' x)).run P w=.ok v' w/\VRel σ v v'/\H'=H:=by
 simp only [NH] at h
 split at h
 ·rename_i n c hr
  rw [hr] at p
  obtain ⟨rfl,rfl,h2⟩:=p.nilslice_left
  simp at h
  obtain ⟨rfl,rfl⟩:=h
  rw [h2,run_convert_bytes_string w s d e none 0 0 z he t]
  exact ⟨.string .empty,by simp [Conv.bytesToString],.atom rfl,rfl⟩
 ·rename_i a n c hr
  split at h
  case h_2=>cases h
  rename_i cs f
  split at h
  case h_2=>cases h
  rename_i bs r
  cases h
  rw [hr] at p
  obtain ⟨ns,g,hb⟩:=YZ r
  obtain ⟨D,L,C,hc⟩:=p.slice_left
  have fin:∀(a':Addr) c',ρ' x=.slice (some a') n c'->(Go.loadCells a' n).run P w=.ok (ns.map (Value.int .u8)).toArray w->∃v',(convert s d (ρ' x)).run P w=.ok v' w/\VRel σ (.string ⟨bs.toArray⟩) v'/\H=H:=by
   intro a' c' b hl
   refine ⟨_,by rw [b,run_convert_bytes_string w s d e (some a') n c' z he t,run_bytesToString w a' n c' ns hl], ?_,rfl⟩
   rw [Nbb,hb]
   have e:(ByteArray.empty.data++(ns.map fun n=>UInt8.ofNat n.toNat).toArray)=(ns.map fun n=>UInt8.ofNat n.toNat).toArray:=by
    show (#[]:Array UInt8)++_=_
    simp
   rw [e]
   exact .atom rfl
  have i:∀c',ρ' x=.slice (some ⟨L.blk,L.base+a.off,none⟩) n c'->∃v',(convert s d (ρ' x)).run P w=.ok v' w/\VRel σ (.string ⟨bs.toArray⟩) v'/\H=H:=by
   intro c' b
   obtain ⟨E,h1,h2,G,I⟩:=Zw (P:=P) l C f
   refine fin _ c' b ?_
   rw [h1]
   congr 2
   apply List.ext_getElem?
   intro j
   cases hj:cs[j]? with
   | none=>
     have:E[j]? = none:=by
      rw [List.getElem?_eq_none_iff] at hj⊢
      rw [<-h2.1];exact hj
     rw [this,<-g,hj]
   | some y=>
     obtain ⟨J,A,B⟩:=h2.get hj
     rw [A,<-g,hj]
     have:∃k n,y=.int k n:=by
      have u:=Oa hj
      rw [g] at u
      obtain ⟨q,_,rfl⟩:=List.mem_map.1 u
      exact ⟨_,_,rfl⟩
     obtain ⟨k,n,rfl⟩:=this
     rw [B.int_left]
  rcases hc with ⟨_,b⟩ | ⟨F,_,c',_,_,b⟩ | ⟨a',_,h0,b⟩
  ·exact i _ b
  ·exact i _ b
  ·subst h0
   have m:cs=[]:=by
    unfold AM.loadCells at f
    split at f
    ·split at f
     ·simp at f;exact f
     ·cases f
    ·cases f
   have o:ns=[]:=by rw [m] at g;simpa using g.symm
   subst o
   exact fin a' 0 b (by simpa using run_loadCells_list (P:=P) w a' [] (by simp))
 ·cases h
theorem Nb1 (b:Inv Pg W lim σ H w) {t e:TypeId} (Q:P.underlying t=some (.slice e)) (he:P.underlying e=some (.int .u8)) {x:Operand} (m:VRel σ (ρ x) (ρ' x)) (g:NH lim dest (.rowMark x) ρ H=some (v,H'))
  {o:Oper}:NR Pg W lim σ dest H w ((execOp ρ' { o with op:=.convert t t x }).run P w) v H':=by
 simp only [NH] at g
 split at g
 case h_2=>cases g
 rename_i a n c R
 split at g
 case h_2=>cases g
 rename_i cells hb
 split at g
 case isFalse=>cases g
 rename_i hc
 obtain ⟨i,hn⟩:=hc
 simp only [Option.some.injEq,Prod.mk.injEq] at g
 obtain ⟨rfl,rfl⟩:=g
 rw [R] at m
 obtain ⟨O,L,u,J⟩:=m.slice_left
 obtain ⟨cs,el,fz,A,y,ho⟩:=b.cells hb u
 obtain ⟨E,F,p⟩:=ho rfl
 have key:∃c',ρ' x=.slice (some ⟨L.blk,L.base+a.off,none⟩) n c':=by
  rcases J with ⟨_,h⟩ | ⟨S,_,c',_,_,h⟩ | ⟨_,_,h,_⟩
  ·exact ⟨_,h⟩
  ·exact ⟨_,h⟩
  ·exact absurd h hn
 obtain ⟨c',I⟩:=key
 have G:w.shape? L.blk=some (el,cs.size):=by unfold World.shape?;rw [A]
 have N:L.blk<w.heap.size:=(Array.getElem?_eq_some_iff.1 A).1
 have q:(convert t t (.slice (some ⟨L.blk,L.base+a.off,none⟩) n c')).run P w=.ok (.slice (some ⟨L.blk,L.base+a.off,none⟩) n c') (w.freeze ⟨L.blk,cs.size,none⟩ 1):=by
  simp [convert,run_underlying Q,run_underlying he,markStringish,G]
 have z:∃d,(w.freeze ⟨L.blk,cs.size,none⟩ 1).heap[L.blk]? = some (.cells cs el d)/\Nok d cs.size:=by
  obtain ⟨lo,hi⟩:=fz
  unfold World.freeze
  rw [Ni (by decide)]
  simp only [Array.getElem?_modify,Nk,A,Ns]
  refine ⟨_,rfl, ?_⟩
  unfold Nok at p⊢
  simp only at p
  right
  split
  ·exact Nd _
  ·rename_i C
   have:lo≠hi:=by simpa using C
   simp only
   omega
 have l:∀k,k≠L.blk->(w.freeze ⟨L.blk,cs.size,none⟩ 1).heap[k]? = w.heap[k]?:=fun k M=>by
  unfold World.freeze
  rw [Ni (by decide)]
  simp only [Array.getElem?_modify]
  rw [Ni (Ne.symm M)]
 have s:(w.freeze ⟨L.blk,cs.size,none⟩ 1).heap.size=w.heap.size:=by
  unfold World.freeze
  rw [Ni (by decide)]
  simp
 obtain ⟨d,B,D⟩:=z
 have f:=RV hb rfl
 have r:H.set a.block (.cells false cells)=H:=by
  apply List.ext_getElem?
  intro j
  rw [N3]
  split
  ·rename_i e;subst e
   rw [f,Nk (List.getElem?_eq_some_iff.1 f).1]
  ·rfl
 have hi:=b.rewrite (b':=.cells false cells) f rfl i u s l ⟨cs,el,d,B,y,fun _=>⟨E,F,D⟩⟩ (fun _=>rfl)
 rw [r] at hi
 refine ⟨.value (ρ' x),w.freeze ⟨L.blk,cs.size,none⟩ 1,σ,ρ' x, ?_,rfl,m,hi,Stp.one (b.wr _ _ _ f rfl i u) l s ?_ ?_ ⟨?_,.of (Nat.le_of_eq ?_)⟩,PQ.le_refl _,fun j K=>absurd rfl K,Nd _,fun _=>rfl⟩
 ·simp only [execOp]
  refine OI P _ _ ?_
  rw [I]
  exact q
 all_goals (unfold World.freeze;rw [Ni (by decide)])
end
end Go.AM


