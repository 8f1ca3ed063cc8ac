/-
  Joined texts, 8 of 9. A part of the claim that the last text states.
-/
import Derived.Test.YtohnaffmcjbpoaaPE7
set_option linter.unusedVariables false
set_option linter.unusedSimpArgs false
set_option linter.defProp false
set_option linter.unusedSectionVars false
set_option maxRecDepth 100000
set_option maxHeartbeats 4000000
namespace Go.Flow
open Go.AM Go.Net
abbrev Cg:=Int×Int×Int
def cgLt (a b:Cg):Prop:=a.1<b.1∨a.1=b.1∧(a.2.1<b.2.1∨a.2.1=b.2.1∧b.2.2<a.2.2)
instance (a b:Cg):Decidable (cgLt a b):=by unfold cgLt;infer_instance
def balC (p t:Int):List Cg→Int
 | []=>0
 | x::l=>(if x.1=p∧x.2.1≤t then x.2.2 else 0)+balC p t l
def sumP (p:Int):List Cg→Int
 | []=>0
 | x::l=>(if x.1=p then x.2.2 else 0)+sumP p l
theorem zcg {p t:Int}:∀{a b:List Cg},balC p t (a++b)=balC p t a+balC p t b
 | [],b=>by simp [balC]
 | x::a,b=>by rw [List.cons_append,balC,balC,zcg];omega
theorem sumP_app {p:Int}:∀{a b:List Cg},sumP p (a++b)=sumP p a+sumP p b
 | [],b=>by simp [sumP]
 | x::a,b=>by rw [List.cons_append,sumP,sumP,sumP_app];omega
theorem balC_perm {p t:Int} {a b:List Cg} (h:a.Perm b):balC p t a=balC p t b:=by
 induction h with
 | nil=>rfl
 | cons x h ih=>simp only [balC,ih]
 | swap x y l=>simp only [balC];omega
 | trans h1 h2 i1 i2=>exact i1.trans i2
theorem sumP_none {p:Int}:∀{l:List Cg},(∀x∈l,x.1≠p)→sumP p l=0
 | [],_=>rfl
 | x::l,h=>by
   rw [sumP,if_neg (h x List.mem_cons_self),sumP_none fun y hy=>h y (List.mem_cons_of_mem _ hy)];rfl
theorem balC_all {p t:Int}:∀{l:List Cg},(∀x∈l,x.1=p→x.2.1≤t)→balC p t l=sumP p l
 | [],_=>rfl
 | x::l,h=>by
   rw [balC,sumP,balC_all fun y hy=>h y (List.mem_cons_of_mem _ hy)]
   have:=h x List.mem_cons_self
   by_cases h1:x.1=p
   ·rw [if_pos ⟨h1,this h1⟩,if_pos h1]
   ·rw [if_neg fun q=>h1 q.1,if_neg h1]
theorem balC_zero {p t:Int}:∀{l:List Cg},(∀x∈l,x.1=p→t<x.2.1)→balC p t l=0
 | [],_=>rfl
 | x::l,h=>by
   rw [balC,balC_zero fun y hy=>h y (List.mem_cons_of_mem _ hy)]
   have:=h x List.mem_cons_self
   rw [if_neg fun q=>by have:=this q.1;omega];rfl
theorem balC_neg {p t:Int}:∀{l:List Cg},(∀x∈l,x.1=p→x.2.1≤t→x.2.2≤0)→balC p t l≤0
 | [],_=>Int.le_refl _
 | x::l,h=>by
   rw [balC]
   have ih:=balC_neg (p:=p) (t:=t) (l:=l) fun y hy=>h y (List.mem_cons_of_mem _ hy)
   have:=h x List.mem_cons_self
   split
   ·rename_i hc;have:=this hc.1 hc.2;omega
   ·omega
theorem balC_less {p t u:Int}:∀{l:List Cg},(∀x∈l,x.1=p→x.2.1≤u∨0≤x.2.2)→balC p u l≤sumP p l
 | [],_=>Int.le_refl _
 | x::l,h=>by
   rw [balC,sumP]
   have ih:=balC_less (t:=t) (p:=p) (u:=u) (l:=l) fun y hy=>h y (List.mem_cons_of_mem _ hy)
   have:=h x List.mem_cons_self
   by_cases h1:x.1=p
   ·rw [if_pos h1]
    split
    ·omega
    ·rename_i hc;have:=this h1;omega
   ·rw [if_neg fun q=>h1 q.1,if_neg h1];omega
theorem runs_bal {S:List Cg} (hs:S.Pairwise fun x y=>¬cgLt y x):(∀i,i<S.length→0≤sumP (gt S i).1 (S.take (i+1)))↔∀p t,0≤balC p t S:=by
 have hp:=List.pairwise_iff_getElem.1 hs
 have hpg:∀i j,i<j→j<S.length→¬cgLt (gt S j) (gt S i):=fun i j hij hj=>by
  have:=hp i j (by omega) hj hij
  rw [zGl hj,zGl (show i<S.length by omega)];exact this
 have mt:∀{k:Nat} {x:Cg},x∈S.take k→∃j,j<k∧j<S.length∧x=gt S j:=fun {k x} hx=>by
  obtain ⟨j,hj,rfl⟩:=List.mem_iff_getElem.1 hx
  rw [List.length_take] at hj
  exact ⟨j,by omega,by omega,by rw [List.getElem_take,zGl]⟩
 have md:∀{k:Nat} {x:Cg},x∈S.drop k→∃j,k≤j∧j<S.length∧x=gt S j:=fun {k x} hx=>by
  obtain ⟨j,hj,rfl⟩:=List.mem_iff_getElem.1 hx
  rw [List.length_drop] at hj
  exact ⟨k+j,by omega,by omega,by rw [List.getElem_drop,zGl]⟩
 constructor
 ·intro h p t
  have key:∀k,k≤S.length→0≤balC p t (S.take k):=fun k=>by
   induction k with
   | zero=>intro _;exact Int.le_refl _
   | succ k ih=>
     intro hk
     have ih:=ih (by omega)
     by_cases hc:(gt S k).1=p∧(gt S k).2.1≤t
     ·rw [balC_all fun x hx hxp=>?_]
      ·have:=h k (by omega)
       rw [hc.1] at this;exact this
      ·obtain ⟨j,hj,hjl,rfl⟩:=mt hx
       by_cases hjk:j=k
       ·rw [hjk];exact hc.2
       ·have:=hpg j k (by omega) (by omega)
        unfold cgLt at this
        omega
     ·rw [zad (by omega),zcg]
      show 0≤balC p t (S.take k)+((if _ then _ else _)+0)
      rw [if_neg hc];omega
  have:=key S.length (Nat.le_refl _)
  rw [List.take_length] at this;exact this
 ·intro h i hi
  have e:∀p t,balC p t S=balC p t (S.take (i+1))+balC p t (S.drop (i+1)):=fun p t=>by rw [←zcg,List.take_append_drop]
  by_cases hg:0≤(gt S i).2.2
  ·have h1:=h (gt S i).1 ((gt S i).2.1-1)
   rw [e,balC_zero (l:=S.drop (i+1)) fun x hx hxp=>?_] at h1
   ·have:=balC_less (t:=0) (p:=(gt S i).1) (u:=(gt S i).2.1-1) (l:=S.take (i+1)) fun x hx hxp=>?_
    ·omega
    ·obtain ⟨j,hj,hjl,rfl⟩:=mt hx
     by_cases hji:j=i
     ·rw [hji];exact .inr hg
     ·have:=hpg j i (by omega) hi
      unfold cgLt at this
      omega
   ·obtain ⟨j,hj,hjl,rfl⟩:=md hx
    have:=hpg i j (by omega) hjl
    unfold cgLt at this
    omega
  ·have h1:=h (gt S i).1 (gt S i).2.1
   rw [e,balC_all (l:=S.take (i+1)) fun x hx hxp=>?_] at h1
   ·have:=balC_neg (p:=(gt S i).1) (t:=(gt S i).2.1) (l:=S.drop (i+1)) fun x hx hxp hxt=>?_
    ·omega
    ·obtain ⟨j,hj,hjl,rfl⟩:=md hx
     have:=hpg i j (by omega) hjl
     unfold cgLt at this
     omega
   ·obtain ⟨j,hj,hjl,rfl⟩:=mt hx
    by_cases hji:j=i
    ·rw [hji];exact Int.le_refl _
    ·have:=hpg j i (by omega) hi
     unfold cgLt at this
     omega
theorem sumP_step {S:List Cg} (hs:S.Pairwise fun x y=>¬cgLt y x) {i:Nat} (hi:i<S.length):sumP (gt S i).1 (S.take (i+1))=(if 0<i∧(gt S (i-1)).1≠(gt S i).1 then 0 else sumP (gt S (i-1)).1 (S.take i))+(gt S i).2.2:=by
 rw [zad hi,sumP_app]
 have e:sumP (gt S i).1 [gt S i]=(gt S i).2.2:=by simp [sumP]
 rw [e]
 congr 1
 have hp:=List.pairwise_iff_getElem.1 hs
 by_cases hc:0<i∧(gt S (i-1)).1≠(gt S i).1
 ·rw [if_pos hc]
  refine sumP_none fun x hx=>?_
  obtain ⟨j,hj,rfl⟩:=List.mem_iff_getElem.1 hx
  rw [List.length_take] at hj
  rw [List.getElem_take]
  intro e
  have h1:¬cgLt S[i] S[i-1]:=hp (i-1) i (by omega) hi (by omega)
  obtain ⟨hc1,hc2⟩:=hc
  rw [zGl (by omega),zGl hi] at hc2
  rw [zGl hi] at e
  by_cases hji:j=i-1
  ·subst hji;exact hc2 e
  ·have h2:¬cgLt S[i-1] S[j]:=hp j (i-1) (by omega) (by omega) (by omega)
   unfold cgLt at h1 h2
   omega
 ·rw [if_neg hc]
  by_cases h0:i=0
  ·subst h0;rfl
  ·have:(gt S (i-1)).1=(gt S i).1:=Classical.byContradiction fun h=>hc ⟨by omega,h⟩
   rw [this]
end Go.Flow

namespace Go.Proofs.Ytohnaffmcjbpoaa.Fn
open Go.AM Go.AM.Sym Go.Net Go.Flow Go.Sort
instance sortC [OB]:Srt.SortAt E zC:=⟨rfl,kn rfl rfl (by decide),kn rfl rfl (by decide),kn rfl rfl (by decide),kn rfl rfl (by decide),kn rfl rfl (by decide),kn rfl rfl (by decide),kn rfl rfl (by decide),kn rfl rfl (by decide),kn rfl rfl (by decide),kn rfl rfl (by decide),kn rfl rfl (by decide),kn rfl rfl (by decide),kn rfl rfl (by decide),kn rfl rfl (by decide),kn rfl rfl (by decide),kn rfl rfl (by decide),kn rfl rfl (by decide),kn rfl rfl (by decide)⟩
instance encC3:Srt.EncOk enc3 zC:=⟨fun _=>rfl⟩
def cmpC (a b:Cg):Int:=orL [cmpI a.1 b.1,cmpI a.2.1 b.2.1,cmpI b.2.2 a.2.2]
theorem cmpc_ok [OB] (mp:Bool) (lim:Nat) (a b:Cg) (H:zH) (Q:Value→zH→Prop):za0 E mp lim 48 [.agg (enc3 a).toArray,.agg (enc3 b).toArray] H Q=Q (.int .i64 (cmpC a b)) H:=by
 refine pc (by decide) e48 rfl rfl ?_
 rw [b48,c48]
 simp only [n48,r48,enc3,cmp_ok,or_lit,isCells_cells,cellsOf_cells,intsOf_cons,intsOf_nil,okInts_cons,okInts_nil,Nat.reducePow,SB,seval,zCa,aOp,zB,aUn,reduceCtorEq,zFr,place,zTu,zRe]
 rfl
theorem cmpC_lt {a b:Cg}:Srt.ltC cmpC a b=decide (cgLt a b):=by
 unfold Srt.ltC
 have e0:cmpC a b=if cmpI a.1 b.1≠0 then cmpI a.1 b.1 else if cmpI a.2.1 b.2.1≠0 then cmpI a.2.1 b.2.1 else if cmpI b.2.2 a.2.2≠0 then cmpI b.2.2 a.2.2 else 0:=rfl
 have e:cmpC a b<0↔cgLt a b:=by
  rw [e0]
  unfold cgLt
  rcases Int.lt_trichotomy a.1 b.1 with h | h | h
  ·rw [cmpI_1 h];simp [h]
  ·rw [cmpI_0 h]
   rcases Int.lt_trichotomy a.2.1 b.2.1 with h2 | h2 | h2
   ·rw [cmpI_1 h2];simp [h,h2]
   ·rw [cmpI_0 h2]
    rcases Int.lt_trichotomy b.2.2 a.2.2 with h3 | h3 | h3
    ·rw [cmpI_1 h3];simp [h,h2,h3]
    ·rw [cmpI_0 h3];simp [h,h2,h3]
    ·rw [cmpI_2 h3];simp [h,h2];omega
   ·rw [cmpI_2 h2];simp [h];omega
  ·rw [cmpI_2 h];simp;omega
 rw [Bool.eq_iff_iff,decide_eq_true_eq,decide_eq_true_eq]
 exact e
theorem cmpC_swo:SWO (Srt.ltC cmpC):=by
 refine ⟨fun x=>?_,fun x y z h1 h2=>?_,fun x y z h1 h2=>?_⟩
 ·rw [cmpC_lt];simp [cgLt]
 ·rw [cmpC_lt,decide_eq_true_eq] at h1 h2⊢
  unfold cgLt at *;omega
 ·rw [cmpC_lt,decide_eq_false_iff_not] at h1 h2⊢
  unfold cgLt at *;omega
theorem sumP_abs {p b:Int}:∀{l:List Cg},(∀x∈l,-b≤x.2.2∧x.2.2≤b)→0≤b→-(b*l.length)≤sumP p l∧sumP p l≤b*l.length
 | [],_,hb=>by simp [sumP]
 | x::l,h,hb=>by
   have ih:=sumP_abs (p:=p) (l:=l) (fun y hy=>h y (List.mem_cons_of_mem _ hy)) hb
   have:=h x List.mem_cons_self
   rw [sumP,List.length_cons]
   have e:b*((l.length+1:Nat):Int)=b*l.length+b:=by rw [Int.natCast_add,Int.mul_add];simp
   rw [e]
   split<;>omega
theorem enough_ok [OB] {lim lo c:Nat} {p:Option Addr} {ch:List Cg} {G:zH} {Q:Value→zH→Prop} (hO:Own lo G enc3 3 p c ch) (hlo:lim≤lo) (hlG:lim≤G.length) (hn:ch.length<1000) (hb:∀x∈ch,-100000000000≤x.2.2∧x.2.2≤100000000000)
  (hQ:∀b G',(b=true↔∀p t,0≤balC p t ch)→(∀x,x<G.length→x∉opB p→zG G' x=zG G x)→Q (.bool b) G') :
  za0 E false lim 29 [.slice p ch.length c] G Q:=by
 refine runs' (by decide) e29 rfl ?_
 rw [b29,c29]
 simp only [n29,r29,SB,seval,zCa,aOp,zB,aUn,reduceCtorEq,zFr,place,zTu,zRe]
 refine sortG_ok (iz:=zC) cmpc_ok cmpC_swo (hO.app _) hlo (by omega) fun G1 S hO1 hperm hpw hk1 hl1=>?_
 have hpw':S.Pairwise fun x y=>¬cgLt y x:=hpw.imp fun h=>by rw [cmpC_lt,decide_eq_false_iff_not] at h;exact h
 have hlen:=hperm.length_eq
 have hSb:∀x∈S,-100000000000≤x.2.2∧x.2.2≤100000000000:=fun x hx=>hb x (hperm.mem_iff.1 hx)
 simp only [List.length_append,List.length_nil,Nat.add_zero] at hl1
 have hbal:(∀p t,0≤balC p t S)↔∀p t,0≤balC p t ch:=⟨fun h p t=>by rw [←balC_perm hperm];exact h p t,fun h p t=>by rw [balC_perm hperm];exact h p t⟩
 have hrb:=(runs_bal hpw').trans hbal
 have hkx:∀G'',Ext G1 G''→∀x,x<G.length→x∉opB p→zG G'' x=zG G x:=fun G'' hE x h1 h2=>by
  obtain ⟨Y,rfl⟩:=hE
  rw [zHo (by omega),hk1 x (by simp;omega) h2,List.append_nil]
 refine zRp ?_
 rw [←hlen]
 simp only [n29,r29,SB,seval,zCa,aOp,zB,aUn,reduceCtorEq,zFr,place,zTu,zRe]
 refine zRr (fun j=>S.length-j) (fun j fr G'=>j≤S.length∧fr 0=.slice p S.length c∧fr 8=.slice p S.length c∧fr 9=.int .i64 (S.length:Int)∧fr 10=.int .i64 (j:Int)∧fr 3=.int .i64 (sumP (gt S (j-1)).1 (S.take j))∧(∀i,i<j→0≤sumP (gt S i).1 (S.take (i+1)))∧Ext G1 G') 0 ⟨Nat.zero_le _,(by rfl),(by rfl),(by rfl),by rfl,by rfl,fun i hi=>by omega,Ext.refl.app⟩ ?_
 intro j fr G' ⟨hj,f0,f8,f9,f10,f3,hall,hE⟩ hN
 rw [zRc l29_1.eq_1]
 refine zRp ?_
 by_cases hlt:j<S.length
 case neg=>
  obtain rfl:j=S.length:=by omega
  simp only [n29,r29,f0,f8,f9,f10,f3,hlt,SB,seval,zCa,aOp,zB,aUn,reduceCtorEq,zFr,place,zTu,zRe]
  exact hQ true _ ⟨fun _=>hrb.1 hall,fun _=>rfl⟩ (hkx _ hE.app)
 have sG:Sl G' enc3 3 p S:=hE.sl (hO1.sl zdr)
 have lS:=fun Z=>(sG.app Z).loadCells zdr hlt
 have xS:=ix_N sG hlt rfl
 have hst:=sumP_step hpw' hlt
 have hgl:G1.length≤G'.length:=by obtain ⟨Y,rfl⟩:=hE;simp
 have hlG':lim≤G'.length:=by omega
 have w1:IntKind.i64.wrap ((j:Int)+1)=((j+1:Nat):Int):=zWn (by omega)
 have hbd:=sumP_abs (p:=(gt S j).1) (b:=100000000000) (l:=S.take (j+1)) (fun x hx=>hSb x (List.mem_of_mem_take hx)) (by omega)
 rw [List.length_take] at hbd
 obtain ⟨sj,hsj⟩:∃sj,sj=sumP (gt S j).1 (S.take (j+1)):=⟨_,rfl⟩
 rw [←hsj] at hst hbd
 have hno:sj<0→¬∀p t,0≤balC p t ch:=fun h hh=>by
  have:=hrb.2 hh j hlt
  rw [←hsj] at this;omega
 by_cases hc:0<j∧(gt S (j-1)).1≠(gt S j).1
 ·rw [if_pos hc,Int.zero_add] at hst
  have wj:IntKind.i64.wrap ((j:Int)-1)=((j-1:Nat):Int):=by rw [zWi (by omega) (by omega)];omega
  have l1:∀Z,AM.loadCell (G'++Z) ((elt p 3 (j-1)).add 0)=some (.int .i64 (gt S (j-1)).1):=fun Z=>(sG.app Z).loadCell zdr (i:=j-1) (by omega) (j:=0) (by decide)
  have x1:=ix_N (i:=j-1) sG (by omega) rfl
  have wz:IntKind.i64.wrap (0+(gt S j).2.2)=sj:=by rw [Int.zero_add,hst];exact zWi (by omega) (by omega)
  have hg0:0<(j:Int):=by omega
  by_cases hneg:sj<0
  ·simp only [n29,r29,f0,f8,f9,f10,f3,hlt,lS,xS,w1,enc3,zSa,hlG',wj,l1,x1,eq_true hg0,eq_false hc.2,wz,eq_true hneg,SB,seval,zCa,aOp,zB,aUn,reduceCtorEq,zFr,place,zTu,zRe]
   exact hQ false _ ⟨fun h=>(by cases h),fun h=>absurd h (hno hneg)⟩ (hkx _ hE.app)
  ·simp only [n29,r29,f0,f8,f9,f10,f3,hlt,lS,xS,w1,enc3,zSa,hlG',wj,l1,x1,eq_true hg0,eq_false hc.2,wz,eq_false hneg,SB,seval,zCa,aOp,zB,aUn,reduceCtorEq,zFr,place,zTu,zRe]
   exact hN (j+1) _ _ ⟨by omega,by exact f0,by exact f8,by exact f9,(by rfl),by rw [show j+1-1=j by omega,←hsj];exact (by rfl),fun i hi=>by
    rcases (by omega:i<j∨i=j) with h | rfl
    ·exact hall i h
    ·rw [←hsj];omega,hE.app⟩ (by omega)
 ·rw [if_neg hc] at hst
  have wz:IntKind.i64.wrap (sumP (gt S (j-1)).1 (S.take j)+(gt S j).2.2)=sj:=by rw [←hst];exact zWi (by omega) (by omega)
  by_cases h0:j=0
  ·have hg0:¬0<(j:Int):=by omega
   by_cases hneg:sj<0
   ·simp only [n29,r29,f0,f8,f9,f10,f3,hlt,lS,xS,w1,enc3,zSa,hlG',eq_false hg0,wz,eq_true hneg,SB,seval,zCa,aOp,zB,aUn,reduceCtorEq,zFr,place,zTu,zRe]
    exact hQ false _ ⟨fun h=>(by cases h),fun h=>absurd h (hno hneg)⟩ (hkx _ hE.app)
   ·simp only [n29,r29,f0,f8,f9,f10,f3,hlt,lS,xS,w1,enc3,zSa,hlG',eq_false hg0,wz,eq_false hneg,SB,seval,zCa,aOp,zB,aUn,reduceCtorEq,zFr,place,zTu,zRe]
    exact hN (j+1) _ _ ⟨by omega,by exact f0,by exact f8,by exact f9,(by rfl),by rw [show j+1-1=j by omega,←hsj];exact (by rfl),fun i hi=>by
     obtain rfl:i=j:=by omega
     rw [←hsj];omega,hE.app⟩ (by omega)
  ·have hg0:0<(j:Int):=by omega
   have hce:(gt S (j-1)).1=(gt S j).1:=Classical.byContradiction fun h=>hc ⟨by omega,h⟩
   have wj:IntKind.i64.wrap ((j:Int)-1)=((j-1:Nat):Int):=by rw [zWi (by omega) (by omega)];omega
   have l1:∀Z,AM.loadCell (G'++Z) ((elt p 3 (j-1)).add 0)=some (.int .i64 (gt S (j-1)).1):=fun Z=>(sG.app Z).loadCell zdr (i:=j-1) (by omega) (j:=0) (by decide)
   have x1:=ix_N (i:=j-1) sG (by omega) rfl
   by_cases hneg:sj<0
   ·simp only [n29,r29,f0,f8,f9,f10,f3,hlt,lS,xS,w1,enc3,zSa,hlG',wj,l1,x1,eq_true hg0,eq_true hce,wz,eq_true hneg,SB,seval,zCa,aOp,zB,aUn,reduceCtorEq,zFr,place,zTu,zRe]
    exact hQ false _ ⟨fun h=>(by cases h),fun h=>absurd h (hno hneg)⟩ (hkx _ hE.app)
   ·simp only [n29,r29,f0,f8,f9,f10,f3,hlt,lS,xS,w1,enc3,zSa,hlG',wj,l1,x1,eq_true hg0,eq_true hce,wz,eq_false hneg,SB,seval,zCa,aOp,zB,aUn,reduceCtorEq,zFr,place,zTu,zRe]
    exact hN (j+1) _ _ ⟨by omega,by exact f0,by exact f8,by exact f9,(by rfl),by rw [show j+1-1=j by omega,←hsj];exact (by rfl),fun i hi=>by
     rcases (by omega:i<j∨i=j) with h | rfl
     ·exact hall i h
     ·rw [←hsj];omega,hE.app⟩ (by omega)
end Go.Proofs.Ytohnaffmcjbpoaa.Fn

namespace Go.Flow
open Go.AM Go.Net
def keyD (c:Leg×Int):Int×Int×Int:=(c.1.id,c.2,c.2+c.1.mins)
def legM (C:List (Leg×Int)) (k:Int×Int×Int):Option Leg:=(C.find? fun c=>decide (keyD c=k)).map (·.1)
theorem zck {C:List (Leg×Int)} {k:Int×Int×Int} {l:Leg} (h:legM C k=some l):∃c∈C,keyD c=k∧c.1=l:=by
 unfold legM at h
 simp only [Option.map_eq_some_iff] at h
 obtain ⟨c,h1,h2⟩:=h
 exact ⟨c,List.mem_of_find?_eq_some h1,by simpa using List.find?_some h1,h2⟩
theorem legM_none {C:List (Leg×Int)} {k:Int×Int×Int} (h:legM C k=none):∀c∈C,keyD c≠k:=fun c hc e=>by
 unfold legM at h
 rw [Option.map_eq_none_iff,List.find?_eq_none] at h
 exact h c hc (by simpa using e)
theorem legM_snoc {C:List (Leg×Int)} {x:Leg×Int} {k:Int×Int×Int} (hu:∀c∈C,keyD c=keyD x→c.1=x.1):legM (C++[x]) k=if k=keyD x then some x.1 else legM C k:=by
 have e:legM (C++[x]) k=match legM C k with | some l=>some l | none=>if keyD x=k then some x.1 else none:=by
  unfold legM
  rw [List.find?_append]
  cases hc:C.find? fun c=>decide (keyD c=k) with
  | some c=>rfl
  | none=>
    simp only [Option.none_or,List.find?_cons,List.find?_nil,Option.map_none]
    by_cases h:keyD x=k
    ·simp [h]
    ·simp [h]
 rw [e]
 by_cases h:k=keyD x
 ·subst h
  rw [if_pos rfl]
  cases hl:legM C (keyD x) with
  | none=>simp
  | some l=>
    obtain ⟨c,h1,h2,h3⟩:=zck hl
    simp only
    rw [←h3,hu c h1 h2];simp
 ·rw [if_neg h]
  cases hl:legM C k with
  | none=>simp only;rw [if_neg fun q=>h q.symm]
  | some l=>rfl
end Go.Flow
namespace Go.Proofs.Ytohnaffmcjbpoaa.Fn
open Go.AM Go.AM.Sym Go.Net Go.Flow
def kD (k:Int×Int×Int):Value:=.agg #[.int .i64 k.1,.int .i64 k.2.1,.int .i64 k.2.2,.int .i64 0]
def vL (l:Leg):Value:=.agg (encL l).toArray
theorem kD_eq:KeyEq kD:=fun a b=>by
 obtain ⟨a1,a2,a3⟩:=a
 obtain ⟨b1,b2,b3⟩:=b
 simp only [kD,keyEq,ze4,if_true,Option.map_some,Bool.and_true,Prod.mk.injEq,Bool.decide_and]
 simp only [beq_self_eq_true,Bool.and_true]
 rfl
theorem kD_ok {k:Int×Int×Int}:zcx (.ints [.i64,.i64,.i64,.i64]) (kD k)=true:=by simp [kD,zcx,zbr]
theorem keyD_uniq {P:List Int} {L:List Leg} {to dl:Int} (h:zac P L=0):∀c∈zCc L to dl,∀d∈zCc L to dl,keyD c=keyD d→c.1=d.1:=fun c hc d hd e=>by
 unfold keyD at e
 exact leg_uniq h (zav hc).1 (zav hd).1 (Prod.mk.inj e).1
theorem legs_ok [OB] {lim M B12 Bd2 Bn2 Bt2 np cpn cl:Nat} {Kk:List Nat} {G:zH} {fr:Nat→Value} {pp2 pl:Option Addr} {P:List Int} {to dl:Int} {L:List Leg} {K:List zAi} {Q:Value→zH→Prop}
  (hv:zac P L=0) (hM:zG G M=.map []) (h12:zG G B12=.cells false [.map (some M)]) (hlM:lim≤M) (f12:fr 12=.pointer (some ⟨B12,0,none⟩))
  (f33:fr 33=.func (.func 44) #[] #[.pointer (some ⟨Bd2,0,none⟩),.pointer (some ⟨Bn2,0,none⟩),.pointer (some ⟨Bt2,0,none⟩)])
  (hBd:zG G Bd2=.cells false [.int .i64 dl]) (hBn:zG G Bn2=.cells false (netV pp2 np cpn pl L.length cl)) (hBt:zG G Bt2=.cells false [.int .i64 to]) (hs:Sl G encL 8 pl L) (hK:Bd2∈Kk∧Bn2∈Kk∧Bt2∈Kk∧∀a,pl=some a→L≠[]→a.block∈Kk) (hKl:∀b∈Kk,b<G.length∧b≠M) (hF:∀l∈L,Fine l) (hLl:L.length<2 ^ 40) (hd0:0≤dl) (hd1:dl≤za1)
  (hR:∀G' es,(∀k,getK k es=legM (zCc L to dl) k)→zG G' M=.map (encM kD vL es)→(∀b,b<G.length→b≠M→zG G' b=zG G b)→zG G' G.length=.dfr→G.length+2≤G'.length→Ret E a10 lim (K++[.mark G.length]) fr G' Q) :
  Ret E a10 lim (.code (.rangeF (t 33) [34,35] ga10_1 gb10_1)::K) fr G Q:=by
 have hMl:=zdb hM
 have hlG:lim≤G.length:=by omega
 have h12l:=zHa h12
 have h12M:B12≠M:=fun e=>by rw [e,hM] at h12;cases h12
 have mt:za1=1051898399:=rfl
 have hcal:zCa (ev fr (t 33)) [.func (.yield (G.length+1)) #[] #[]] = some (.inl 44,[.func (.yield (G.length+1)) #[] #[],.pointer (some ⟨Bd2,0,none⟩),.pointer (some ⟨Bn2,0,none⟩),.pointer (some ⟨Bt2,0,none⟩)]):=by rw [show ev fr (t 33)=_ from f33];rfl
 rw [Ret_rangeF0 hcal]
 have old0:∀b∈Kk,zG (G++[Blk.dfr,.loop ⟨0,none,fr,157,[34,35],ga10_1,gb10_1⟩]) b=zG G b:=fun b hb=>zHo (hKl b hb).1
 refine counted_rule (lim:=lim) (Y:=G.length+1) (Bd:=Bd2) (Bn:=Bn2) (Bt:=Bt2) (np:=np) (pp:=pp2) (pl:=pl) (cp:=cpn) (cl:=cl) (L:=L) (to:=to) (dl:=dl)
  (fun rest Xr G'=>∃done es,done++rest=zCc L to dl∧(∀k,getK k es=legM done k)∧zG G' M=.map (encM kD vL es)∧zG G' G.length=.dfr∧zG G' (G.length+1)=.loop ⟨0,none,fr,157,[34,35],ga10_1,gb10_1⟩∧(∀b,b<G.length→b≠M→zG G' b=zG G b)∧(∀b∈Xr,b<G'.length∧b≠M∧b≠G.length+1)∧G.length+2≤G'.length) Kk ?_ ?_ ((old0 _ hK.1).trans hBd) ((old0 _ hK.2.1).trans hBn) ((old0 _ hK.2.2.1).trans hBt) (hs.app _) hK ?_ hF hLl hd0 hd1 (by simp;omega) ?_ ?_
 ·rintro rest Xr Xr' H H' ⟨done,es,e1,e2,e3,e4,e5,e6,e7,e8⟩ hC hXr
  have hlen:=hC.len
  refine ⟨done,es,e1,e2,hC.get e3 (zdb e3) (by simp),hC.get e4 (by omega) (by simp),hC.get e5 (by omega) (by simp),fun b hb hbM=>by rw [hC.other b (by omega) (by simp)];exact e6 b hb hbM,fun b hb=>?_,by omega⟩
  rcases hXr b hb with h1 | ⟨h1,h2⟩
  ·have:=e7 b h1
   exact ⟨by omega,this.2⟩
  ·exact ⟨h2,by omega,by omega⟩
 ·rintro x rest Xr G' hlG' hx hKr ⟨done,es,e1,e2,e3,e4,e5,e6,e7,e8⟩
  obtain ⟨hm1,_,d,_,hm4,hm5,hm6⟩:=zav hx
  rw [CallY_run (x:=⟨0,none,fr,157,[34,35],ga10_1,gb10_1⟩) e5 (by omega) rfl (by rfl)]
  rw [show zba fr [34,35] [.agg (encL x.1).toArray,.agg #[.int .i64 x.2,.int .i64 (x.2+x.1.mins)]] = upd (upd fr 34 (.agg (encL x.1).toArray)) 35 (.agg #[.int .i64 x.2,.int .i64 (x.2+x.1.mins)]) from rfl]
  rw [zRc ga10_1.eq_1]
  refine zRp ?_
  obtain ⟨G1,e9,h9,m9⟩:=za3 (G:=G') (R:=G.length+1) (by omega) (.loop ⟨1,none,fr,157,[34,35],ga10_1,gb10_1⟩)
  have gY:=fun X=>(Ext.refl.app (X:=X)).get' e5 (by omega)
  have hlG2:lim≤G'.length:=by omega
  simp only [f12,zLl,zL0,zL1,zL2,zL3,zL4,zL5,zL6,zL7,zTa,zSa,hlG2,gY,e9,show lim≤G.length+1 by omega,SB,seval,zCa,aOp,zB,aUn,reduceCtorEq,zFr,place,zTu,zRe]
  rw [zRc gb10_1.eq_1]
  have hl9:=m9.len
  have k12:∀Z,zG (G1++Z) B12=.cells false [.map (some M)]:=fun Z=>by rw [zHo (by omega),m9.other _ (by omega),e6 B12 h12l h12M];exact h12
  have kM:∀Z,zG (G1++Z) M=.map (encM kD vL es):=fun Z=>by rw [zHo (by omega),m9.other _ (by omega)];exact e3
  have c5:∀X:zH,zG (G1++X) G'.length=X.getD 0 .dead:=(ze3 m9.len).2.2.1
  have c6:∀(X:zH) (j:Nat),zG (G1++X) (G'.length+j)=X.getD j .dead:=(ze3 m9.len).2.1
  have hfk:findKey (.agg #[.int .i64 x.1.id,.int .i64 x.2,.int .i64 (x.2+x.1.mins),.int .i64 0]) (encM kD vL es) 0=some ((fk (keyD x) es 0).map fun y=>(y.1,vL y.2)):=zbq (vv:=vL) kD_eq (keyD x) es 0
  have hko:zcx (.ints [.i64,.i64,.i64,.i64]) (.agg #[.int .i64 x.1.id,.int .i64 x.2,.int .i64 (x.2+x.1.mins),.int .i64 0])=true:=kD_ok (k:=keyD x)
  have hget':∀k,getK k (putK (keyD x) x.1 es)=legM (done++[x]) k:=fun k=>by
   rw [getK_put,legM_snoc fun c hc e=>keyD_uniq hv c (by rw [←e1];exact List.mem_append_left _ hc) x hx e,e2]
  have fin:∀(G2:zH),Mut G1 G2 M→zG G2 M=.map (encM kD vL (putK (keyD x) x.1 es))→∃G4,(∀Z:zH,(G2++Z).set (G.length+1) (.loop ⟨0,none,fr,157,[34,35],ga10_1,gb10_1⟩)=G4++Z)∧(∀Z,zG (G2++Z) (G.length+1)=.loop ⟨1,none,fr,157,[34,35],ga10_1,gb10_1⟩)∧∀Z,(∃done es,done++rest=zCc L to dl∧(∀k,getK k es=legM done k)∧zG (G4++Z) M=.map (encM kD vL es)∧zG (G4++Z) G.length=.dfr∧zG (G4++Z) (G.length+1)=.loop ⟨0,none,fr,157,[34,35],ga10_1,gb10_1⟩∧(∀b,b<G.length→b≠M→zG (G4++Z) b=zG G b)∧(∀b∈Xr,b<(G4++Z).length∧b≠M∧b≠G.length+1)∧G.length+2≤(G4++Z).length)∧G'.length≤(G4++Z).length∧∀j∈Xr,zG (G4++Z) j=zG G' j:=fun G2 m2 h2=>by
   have hl2:=m2.len
   have y2:zG G2 (G.length+1)=.loop ⟨1,none,fr,157,[34,35],ga10_1,gb10_1⟩:=(m2.other _ (by omega)).trans h9
   obtain ⟨G4,e11,h11,m11⟩:=za3 (G:=G2) (R:=G.length+1) (by omega) (.loop ⟨0,none,fr,157,[34,35],ga10_1,gb10_1⟩)
   have hl4:=m11.len
   have kk:∀b,b<G'.length→b≠M→b≠G.length+1→∀Z,zG (G4++Z) b=zG G' b:=fun b hb q1 q2 Z=>by
    rw [zHo (by omega),m11.other b q2,m2.other b q1,m9.other b q2]
   refine ⟨G4,e11,fun Z=>(Ext.refl.app (X:=Z)).get' y2 (by omega),fun Z=>⟨⟨done++[x],putK (keyD x) x.1 es,by rw [List.append_assoc];exact e1,hget', ?_,(kk _ (by omega) (by omega) (by omega) Z).trans e4, ?_,fun b hb hbM=>(kk b (by omega) hbM (by omega) Z).trans (e6 b hb hbM),fun b hb=>?_,by simp;omega⟩,by simp;omega,fun j hj=>?_⟩⟩
   ·rw [zHo (by omega),m11.other M (by omega)];exact h2
   ·rw [zHo (by omega)];exact h11
   ·have:=e7 b hb
    exact ⟨by simp;omega,this.2⟩
   ·have:=e7 j hj
    exact kk j this.1 this.2.1 this.2.2 Z
  cases hc:fk (keyD x) es 0 with
  | none=>
    rw [hc] at hfk
    simp only [Option.map_none] at hfk
    obtain ⟨G2,e10,h10,m10⟩:=za3 (G:=G1) (R:=M) (by omega) (.map (encM kD vL es++[(.agg #[.int .i64 x.1.id,.int .i64 x.2,.int .i64 (x.2+x.1.mins),.int .i64 0],.agg (encL x.1).toArray)]))
    obtain ⟨G4,e11,y2,hfin⟩:=fin G2 m10 (by
     rw [h10,←fk_none (v':=x.1) hc]
     unfold encM
     rw [List.map_append];rfl)
    simp only [f12,zLl,zL0,zL1,zL2,zL3,zL4,zL5,zL6,zL7,zTa,zSa,k12,kM,c5,c6,hfk,hko,hlM,e10,y2,e11,show lim≤G.length+1 by omega,SB,seval,zCa,aOp,zB,aUn,reduceCtorEq,zFr,place,zTu,zRe]
    obtain ⟨⟨d1,es1,p1,p2,p3,p4,p5,p6,p7,p8⟩,p9,p10⟩:=hfin [Blk.cells false (encL x.1),Blk.cells false [.int .i64 x.2,.int .i64 (x.2+x.1.mins)]]
    refine ⟨⟨d1,es1,p1,p2,p3,p4,p5,p6,fun b hb=>?_, ?_⟩, ?_,p10⟩
    ·have:=p7 b hb
     simp only [List.length_append,List.length_cons,List.length_nil] at this⊢
     exact ⟨by omega,this.2⟩
    ·simp only [List.length_append,List.length_cons,List.length_nil] at p8⊢;omega
    ·simp only [List.length_append,List.length_cons,List.length_nil] at p9⊢;omega
  | some yy=>
    obtain ⟨j,v⟩:=yy
    rw [hc] at hfk
    simp only [Option.map_some] at hfk
    obtain ⟨G2,e10,h10,m10⟩:=za3 (G:=G1) (R:=M) (by omega) (.map ((encM kD vL es).set j (.agg #[.int .i64 x.1.id,.int .i64 x.2,.int .i64 (x.2+x.1.mins),.int .i64 0],.agg (encL x.1).toArray)))
    obtain ⟨G4,e11,y2,hfin⟩:=fin G2 m10 (by
     have:=(fk_some (v':=x.1) hc).2.2
     rw [Nat.sub_zero] at this
     rw [h10,←this]
     unfold encM
     rw [List.map_set];rfl)
    simp only [f12,zLl,zL0,zL1,zL2,zL3,zL4,zL5,zL6,zL7,zTa,zSa,k12,kM,c5,c6,hfk,hko,hlM,e10,y2,e11,show lim≤G.length+1 by omega,SB,seval,zCa,aOp,zB,aUn,reduceCtorEq,zFr,place,zTu,zRe]
    obtain ⟨⟨d1,es1,p1,p2,p3,p4,p5,p6,p7,p8⟩,p9,p10⟩:=hfin [Blk.cells false (encL x.1),Blk.cells false [.int .i64 x.2,.int .i64 (x.2+x.1.mins)]]
    refine ⟨⟨d1,es1,p1,p2,p3,p4,p5,p6,fun b hb=>?_, ?_⟩, ?_,p10⟩
    ·have:=p7 b hb
     simp only [List.length_append,List.length_cons,List.length_nil] at this⊢
     exact ⟨by omega,this.2⟩
    ·simp only [List.length_append,List.length_cons,List.length_nil] at p8⊢;omega
    ·simp only [List.length_append,List.length_cons,List.length_nil] at p9⊢;omega
 ·intro j hj;have:=(hKl j hj).1;simp;omega
 ·refine ⟨[],[],rfl,fun k=>rfl,by rw [zHo hMl];exact hM,zHn,zHw,fun b hb _=>zHo hb,fun b hb=>?_,by simp⟩
  have:=hKl b hb
  exact ⟨by simp;omega,this.2,by omega⟩
 ·rintro G' ⟨done,es,e1,e2,e3,e4,e5,e6,e7,e8⟩ hkX hlen
  rw [List.append_nil] at e1
  subst e1
  rw [endK_congr e5,endK_0]
  show Ret E a10 lim (K++[.mark G.length]) fr _ _
  have hCm:Mut G' (G'.set (G.length+1) .dead) (G.length+1):=⟨by simp,fun j hj=>zHs hj⟩
  exact hR _ es e2 ((hCm.other M (by omega)).trans e3) (fun b hb hbM=>by rw [hCm.other b (by omega)];exact e6 b hb hbM) ((hCm.other _ (by omega)).trans e4) (by rw [hCm.len];omega)
end Go.Proofs.Ytohnaffmcjbpoaa.Fn

namespace Go.Flow
open Go.AM Go.Net
def zaz (s:List Src):List Cg:=s.map fun x=>(x.pl,x.rd,x.gr)
def arrS (to dl:Int):List Src→Int
 | []=>0
 | x::s=>(if x.pl=to∧x.rd≤dl then x.gr else 0)+arrS to dl s
def keyL (x:Ld):Int×Int×Int:=(x.leg,x.dep,x.arr)
def legD (C:List (Leg×Int)) (x:Ld):Leg:=(legM C (keyL x)).getD default
def ldCh (C:List (Leg×Int)) (x:Ld):List Cg:=[((legD C x).frm,x.dep-(legD C x).cut,-x.gr),((legD C x).dst,x.arr,x.gr)]
def arrL (C:List (Leg×Int)) (to:Int):List Ld→Int
 | []=>0
 | x::l=>(if (legD C x).dst=to then x.gr else 0)+arrL C to l
def okX (C:List (Leg×Int)) (ld:List Ld) (i:Nat):Prop:=(∃lg,legM C (keyL (gt ld i))=some lg∧1≤(gt ld i).gr∧(gt ld i).gr≤lg.grams)∧(0<i→ldLt (gt ld (i-1)) (gt ld i))
def allCh (C:List (Leg×Int)) (s:List Src) (ld:List Ld):List Cg:=zaz s++ld.flatMap (ldCh C)
def goodL (C:List (Leg×Int)) (s:List Src) (ld:List Ld):Prop:=(∀i,i<ld.length→okX C ld i)∧∀p t,0≤balC p t (allCh C s ld)
theorem arrS_app {to dl:Int}:∀{a b:List Src},arrS to dl (a++b)=arrS to dl a+arrS to dl b
 | [],b=>by simp [arrS]
 | x::a,b=>by rw [List.cons_append,arrS,arrS,arrS_app];omega
theorem arrL_app {C:List (Leg×Int)} {to:Int}:∀{a b:List Ld},arrL C to (a++b)=arrL C to a+arrL C to b
 | [],b=>by simp [arrL]
 | x::a,b=>by rw [List.cons_append,arrL,arrL,arrL_app];omega
theorem arrS_le {to dl:Int}:∀{s:List Src},(∀x∈s,0≤x.gr∧x.gr≤1000000000)→0≤arrS to dl s∧arrS to dl s≤1000000000*s.length
 | [],_=>by simp [arrS]
 | x::s,h=>by
   have ih:=arrS_le (to:=to) (dl:=dl) (s:=s) fun y hy=>h y (List.mem_cons_of_mem _ hy)
   have:=h x List.mem_cons_self
   rw [arrS,List.length_cons]
   split<;>omega
theorem arrL_le {C:List (Leg×Int)} {to:Int}:∀{l:List Ld},(∀x∈l,0≤x.gr∧x.gr≤1000000000)→0≤arrL C to l∧arrL C to l≤1000000000*l.length
 | [],_=>by simp [arrL]
 | x::s,h=>by
   have ih:=arrL_le (C:=C) (to:=to) (l:=s) fun y hy=>h y (List.mem_cons_of_mem _ hy)
   have:=h x List.mem_cons_self
   rw [arrL,List.length_cons]
   split<;>omega
end Go.Flow
namespace Go.Proofs.Ytohnaffmcjbpoaa.Fn
open Go.AM Go.AM.Sym Go.Net Go.Flow
structure CF (fr:Nat→Value) (p4:Option Addr) (n4 c4:Nat) (to dl:Int) (B12:Nat):Prop where
 f2:fr 2=.int .i64 to
 f3:fr 3=.int .i64 dl
 f4:fr 4=.slice p4 n4 c4
 f12:fr 12=.pointer (some ⟨B12,0,none⟩)
theorem chkS_ok [OB] {p4 ps:Option Addr} {n4 c4 cs B12:Nat} {to dl:Int} {s:List Flow.Src} {lim:Nat} {G:zH} {fr:Nat→Value} {K:List zAi} {Q:Value→zH→Prop}
  (hf:CF fr p4 n4 c4 to dl B12) (hs:Sl G encS 3 ps s) (hn:s.length≤60) (hg:∀x∈s,0≤x.gr∧x.gr≤1000000000) (hlG:lim≤G.length)
  (f45:fr 45=.slice ps s.length cs) (f46:fr 46=.int .i64 (s.length:Int)) (f47:fr 47=.int .i64 0) (f15:fr 15=.int .i64 0) (f16:fr 16=.slice none 0 0)
  (hK:∀fr' G' p c,CF fr' p4 n4 c4 to dl B12→Own G.length G' enc3 3 p c (zaz s)→Chg [] G G'→fr' 15=.int .i64 (arrS to dl s)→fr' 16=.slice p s.length c→Ret E a10 lim K fr' G' Q) :
  Ret E a10 lim (.code (.loop l10_2)::.inBlock 2::K) fr G Q:=by
 have hsl:∀j,(zaz (s.take j)).length=min j s.length:=fun j=>by unfold zaz;simp
 refine zRr (fun z:Nat×Option Addr×Nat=>s.length-z.1) (fun z fr2 G'=>z.1≤s.length∧CF fr2 p4 n4 c4 to dl B12∧fr2 45=.slice ps s.length cs∧fr2 46=.int .i64 (s.length:Int)∧fr2 47=.int .i64 (z.1:Int)∧fr2 15=.int .i64 (arrS to dl (s.take z.1))∧fr2 16=.slice z.2.1 z.1 z.2.2∧Own G.length G' enc3 3 z.2.1 z.2.2 (zaz (s.take z.1))∧Chg [] G G') (0,none,0)
  ⟨Nat.zero_le _,hf,f45,f46,f47,f15,f16,.nil,Chg.refl⟩ ?_
 rintro ⟨j,p,c⟩ fr2 G' ⟨hj,⟨q2,q3,q4,q12⟩,q45,q46,q47,q15,q16,hO,hC⟩ hN
 simp only at hj q47 q15 q16 hO
 rw [zRc l10_2.eq_1]
 refine zRp ?_
 by_cases hlt:j<s.length
 case neg=>
  obtain rfl:j=s.length:=by omega
  rw [List.take_length] at q15 hO
  simp only [n10,r10,q2,q3,q4,q12,q45,q46,q47,q15,q16,hlt,SB,seval,zCa,aOp,zB,aUn,reduceCtorEq,zFr,place,zTu,zRe]
  exact hK _ _ p c ⟨(by exact q2),by exact q3,by exact q4,by exact q12⟩ (hO.app _) hC.app (by exact q15) (by exact q16)
 have sG:=hC.sl hs (fun _ _ _=>by simp)
 have lS:=fun Z=>(sG.app Z).loadCells zEl hlt
 have xS:=ix_N sG hlt rfl
 have hlG':=hC.len
 have hlj:=hsl j
 rw [Nat.min_eq_left hj] at hlj
 have eC:zaz (s.take (j+1))=zaz (s.take j)++[((gt s j).pl,(gt s j).rd,(gt s j).gr)]:=by unfold zaz;rw [zad hlt,List.map_append];rfl
 have eA:arrS to dl (s.take (j+1))=arrS to dl (s.take j)+(if (gt s j).pl=to∧(gt s j).rd≤dl then (gt s j).gr else 0):=by
  rw [zad hlt,arrS_app]
  show _+(_+0)=_
  omega
 have hb:=arrS_le (to:=to) (dl:=dl) (s:=s.take j) fun x hx=>hg x (List.mem_of_mem_take hx)
 rw [List.length_take] at hb
 have hgj:=hg _ (za9 hlt)
 obtain ⟨G2,e2,O2,C2,K2,hl2,hkx⟩:=hO.step (lim':=lim) (bytes:=24) hlG zdr (by decide) ((gt s j).pl,(gt s j).rd,(gt s j).gr) (by rw [hlj];unfold za2;omega) (by rw [hlj];omega) hlG' [.cells false (encS (gt s j)),.cells false (enc3 ((gt s j).pl,(gt s j).rd,(gt s j).gr))] (G'.length+1) 1 (by rw [zHw];rfl)
 rw [hlj] at e2
 simp only [List.length_cons,List.length_nil,Nat.zero_add,Nat.reduceAdd] at e2 O2
 have e2':zAa lim none 3 24 false (.slice p j c) (.slice (some ⟨G'.length+1,0,none⟩) 1 1) (G'++[.cells false (encS (gt s j)),.cells false [.int .i64 (gt s j).pl,.int .i64 (gt s j).rd,.int .i64 (gt s j).gr]])=some (.slice (some ⟨G'.length+2,0,none⟩) (j+1) (loose 3),G2++[]):=e2
 have k18:∀Z,zG (G2++Z) G'.length=.cells false (encS (gt s j)):=fun Z=>by
  have:=hkx 0 (by simp)
  rw [Nat.add_zero,List.append_nil] at this
  exact (Ext.refl.app).cells (this.trans rfl)
 have w1:IntKind.i64.wrap ((j:Int)+1)=((j+1:Nat):Int):=zWn (by omega)
 have wa:IntKind.i64.wrap (arrS to dl (s.take j)+(gt s j).gr)=arrS to dl (s.take j)+(gt s j).gr:=zWi (by omega) (by omega)
 have hlL:lim≤G'.length:=by omega
 by_cases g1:(gt s j).pl=to
 ·by_cases g2:(gt s j).rd≤dl
  ·rw [if_pos ⟨g1,g2⟩] at eA
   simp only [n10,r10,q2,q3,q4,q12,q45,q46,q47,q15,q16,hlt,lS,xS,zEl,zbh,zbg,zbf,zSa,e2',k18,w1,wa,hlL,zTa,eq_true g1,eq_true g2,SB,seval,zCa,aOp,zB,aUn,reduceCtorEq,zFr,place,zTu,zRe]
   exact hN (j+1,some ⟨G'.length+2,0,none⟩,loose 3) _ _ ⟨by show j+1≤_;omega,⟨(by exact q2),by exact q3,by exact q4,by exact q12⟩,by exact q45,by exact q46,(by rfl),by rw [eA];exact (by rfl),(by rfl),by rw [eC];exact O2,C2 [] G (Nat.le_refl _) hC⟩ (by show s.length-(j+1)<s.length-j;omega)
  ·rw [if_neg fun h=>g2 h.2,Int.add_zero] at eA
   simp only [n10,r10,q2,q3,q4,q12,q45,q46,q47,q15,q16,hlt,lS,xS,zEl,zbh,zbg,zbf,zSa,e2',k18,w1,wa,hlL,zTa,eq_true g1,eq_false g2,SB,seval,zCa,aOp,zB,aUn,reduceCtorEq,zFr,place,zTu,zRe]
   exact hN (j+1,some ⟨G'.length+2,0,none⟩,loose 3) _ _ ⟨by show j+1≤_;omega,⟨(by exact q2),by exact q3,by exact q4,by exact q12⟩,by exact q45,by exact q46,(by rfl),by rw [eA];exact (by exact q15),(by rfl),by rw [eC];exact O2,C2 [] G (Nat.le_refl _) hC⟩ (by show s.length-(j+1)<s.length-j;omega)
 ·rw [if_neg fun h=>g1 h.1,Int.add_zero] at eA
  simp only [n10,r10,q2,q3,q4,q12,q45,q46,q47,q15,q16,hlt,lS,xS,zEl,zbh,zbg,zbf,zSa,e2',k18,w1,wa,hlL,zTa,eq_false g1,SB,seval,zCa,aOp,zB,aUn,reduceCtorEq,zFr,place,zTu,zRe]
  exact hN (j+1,some ⟨G'.length+2,0,none⟩,loose 3) _ _ ⟨by show j+1≤_;omega,⟨(by exact q2),by exact q3,by exact q4,by exact q12⟩,by exact q45,by exact q46,(by rfl),by rw [eA];exact (by exact q15),(by rfl),by rw [eC];exact O2,C2 [] G (Nat.le_refl _) hC⟩ (by show s.length-(j+1)<s.length-j;omega)
theorem chkL_ok [OB] {p4:Option Addr} {c4 M B12 c0:Nat} {p0:Option Addr} {to dl:Int} {s:List Flow.Src} {ld:List Flow.Ld} {C:List (Leg×Int)} {es:List ((Int×Int×Int)×Leg)} {lim:Nat} {G Gs:zH} {fr:Nat→Value} {K:List zAi} {Q:Value→zH→Prop}
  (hf:CF fr p4 ld.length c4 to dl B12) (hs:Sl G encD 4 p4 ld) (hn:ld.length≤200) (hs60:s.length≤60) (hsg:∀x∈s,0≤x.gr∧x.gr≤1000000000) (hC:∀c∈C,Fine c.1∧0≤c.2∧c.2+c.1.mins≤za1) (hlG:lim≤G.length)
  (h12:zG G B12=.cells false [.map (some M)]) (hM:zG G M=.map (encM kD vL es)) (hes:∀k,getK k es=legM C k) (hGs:Chg [] G Gs) (hO:Own G.length Gs enc3 3 p0 c0 (zaz s))
  (f76:fr 76=.slice p4 ld.length c4) (f77:fr 77=.int .i64 (ld.length:Int)) (f78:fr 78=.int .i64 0) (f15:fr 15=.int .i64 (arrS to dl s)) (f16:fr 16=.slice p0 s.length c0)
  (hbad:∀fr' G',fr' 10=.int .i64 0→fr' 11=.bool false→Chg [] G G'→(∃i,i<ld.length∧¬okX C ld i)→Ret E a10 lim (.code .retM::K) fr' G' Q)
  (hK:∀fr' G' p c,CF fr' p4 ld.length c4 to dl B12→Own G.length G' enc3 3 p c (allCh C s ld)→Chg [] G G'→(∀i,i<ld.length→okX C ld i)→fr' 15=.int .i64 (arrS to dl s+arrL C to ld)→fr' 16=.slice p (allCh C s ld).length c→Ret E a10 lim K fr' G' Q) :
  Ret E a10 lim (.code (.loop l10_1)::.inBlock 4::K) fr Gs Q:=by
 have hb2:=fun fr' G' h1 h2 h3 h4=>cast (Ret_retM (E:=E) (af:=a10) (lim:=lim) (K:=K)) (hbad fr' G' h1 h2 h3 h4)
 have hl2:∀l:List Flow.Ld,(l.flatMap (ldCh C)).length=2*l.length:=fun l=>by
  induction l with
  | nil=>rfl
  | cons x l ih=>rw [List.flatMap_cons,List.length_append,ih,List.length_cons];show 2+_=_;omega
 have hlc:∀j,j≤ld.length→(allCh C s (ld.take j)).length=s.length+2*j:=fun j hj=>by
  unfold allCh zaz
  rw [List.length_append,List.length_map,hl2,List.length_take];omega
 refine zRr (fun z:Nat×Option Addr×Nat=>ld.length-z.1) (fun z fr2 G'=>z.1≤ld.length∧CF fr2 p4 ld.length c4 to dl B12∧fr2 76=.slice p4 ld.length c4∧fr2 77=.int .i64 (ld.length:Int)∧fr2 78=.int .i64 (z.1:Int)∧fr2 15=.int .i64 (arrS to dl s+arrL C to (ld.take z.1))∧fr2 16=.slice z.2.1 (s.length+2*z.1) z.2.2∧Own G.length G' enc3 3 z.2.1 z.2.2 (allCh C s (ld.take z.1))∧Chg [] G G'∧∀i,i<z.1→okX C ld i) (0,p0,c0)
  ⟨Nat.zero_le _,hf,f76,f77,f78,by rw [show arrL C to (ld.take 0)=0 from rfl,Int.add_zero];exact f15,f16,by rw [show allCh C s (ld.take 0)=zaz s from List.append_nil _];exact hO,hGs,fun i hi=>by omega⟩ ?_
 rintro ⟨j,p,c⟩ fr2 G' ⟨hj,⟨q2,q3,q4,q12⟩,q76,q77,q78,q15,q16,hO',hCh,hall⟩ hN
 simp only at hj q78 q15 q16 hO' hall
 rw [zRc l10_1.eq_1]
 refine zRp ?_
 by_cases hlt:j<ld.length
 case neg=>
  obtain rfl:j=ld.length:=by omega
  have hlj:=hlc ld.length (Nat.le_refl _)
  rw [List.take_length] at q15 hO' hlj
  simp only [n10,r10,q2,q3,q4,q12,q76,q77,q78,q15,q16,hlt,SB,seval,zCa,aOp,zB,aUn,reduceCtorEq,zFr,place,zTu,zRe]
  exact hK _ _ p c ⟨(by exact q2),by exact q3,by exact q4,by exact q12⟩ (hO'.app _) hCh.app hall (by exact q15) (by rw [hlj];exact (by exact q16))
 have hlj:=hlc j hj
 have sG:=hCh.sl hs (fun _ _ _=>by simp)
 have lD:=fun Z=>(sG.app Z).loadCells zDl hlt
 have xD:=ix_N sG hlt rfl
 have hGl:=hCh.len
 have hlL:lim≤G'.length:=by omega
 have hMl:=zdb hM
 have k12:=fun Z=>(Ext.refl.app (X:=Z)).cells (hCh.cells h12 (by simp))
 have kM:∀Z,zG (G'++Z) M=.map (encM kD vL es):=fun Z=>by rw [zHo (by omega)];exact hCh.get hM hMl (by simp)
 have hfk:findKey (.agg #[.int .i64 (gt ld j).leg,.int .i64 (gt ld j).dep,.int .i64 (gt ld j).arr,.int .i64 0]) (encM kD vL es) 0=some ((fk (keyL (gt ld j)) es 0).map fun y=>(y.1,vL y.2)):=zbq (vv:=vL) kD_eq (keyL (gt ld j)) es 0
 have hko:zcx (.ints [.i64,.i64,.i64,.i64]) (.agg #[.int .i64 (gt ld j).leg,.int .i64 (gt ld j).dep,.int .i64 (gt ld j).arr,.int .i64 0])=true:=kD_ok (k:=keyL (gt ld j))
 have hgk:=fk_get (keyL (gt ld j)) es 0
 rw [hes] at hgk
 have w1:IntKind.i64.wrap ((j:Int)+1)=((j+1:Nat):Int):=zWn (by omega)
 cases hc:fk (keyL (gt ld j)) es 0 with
 | none=>
   rw [hc] at hfk hgk
   simp only [Option.map_none] at hfk hgk
   simp only [n10,r10,q2,q3,q4,q12,q76,q77,q78,q15,q16,hlt,lD,xD,k12,kM,hfk,hko,w1,hlL,zSa,zDl,zau,zat,zax,zaw,zLl,zL0,zL1,zL2,zL3,zL4,zL5,zL6,zL7,zTa,SB,seval,zCa,aOp,zB,aUn,reduceCtorEq,zFr,place,zTu,zRe]
   exact hb2 _ _ (by rfl) (by rfl) hCh.app ⟨j,hlt,fun ⟨⟨lg,h1,_⟩,_⟩=>by rw [←hgk] at h1;cases h1⟩
 | some yy=>
   obtain ⟨jj,lg⟩:=yy
   rw [hc] at hfk hgk
   simp only [Option.map_some,vL] at hfk hgk
   have hlg:legD C (gt ld j)=lg:=by unfold legD;rw [←hgk];rfl
   obtain ⟨cc,hcc,hk1,hk2⟩:=zck hgk.symm
   obtain ⟨hFc,hc0,hc1⟩:=hC cc hcc
   rw [hk2] at hFc hc1
   unfold keyD keyL at hk1
   obtain ⟨hk3,hk4,hk5⟩:cc.1.id=(gt ld j).leg∧cc.2=(gt ld j).dep∧cc.2+cc.1.mins=(gt ld j).arr:=by
    have:=Prod.mk.inj hk1
    exact ⟨this.1,(Prod.mk.inj this.2).1,(Prod.mk.inj this.2).2⟩
   have hFc':=hFc
   unfold Fine at hFc'
   have mt:za1=1051898399:=rfl
   by_cases g1:(gt ld j).gr<1
   ·simp only [n10,r10,q2,q3,q4,q12,q76,q77,q78,q15,q16,hlt,lD,xD,k12,kM,hfk,hko,w1,hlL,zSa,zDl,zau,zat,zax,zaw,zLl,zL0,zL1,zL2,zL3,zL4,zL5,zL6,zL7,zTa,eq_true g1,SB,seval,zCa,aOp,zB,aUn,reduceCtorEq,zFr,place,zTu,zRe]
    exact hb2 _ _ (by rfl) (by rfl) hCh.app ⟨j,hlt,fun ⟨⟨lg,h1,h2,_⟩,_⟩=>by omega⟩
   by_cases g2:lg.grams<(gt ld j).gr
   ·simp only [n10,r10,q2,q3,q4,q12,q76,q77,q78,q15,q16,hlt,lD,xD,k12,kM,hfk,hko,w1,hlL,zSa,zDl,zau,zat,zax,zaw,zLl,zL0,zL1,zL2,zL3,zL4,zL5,zL6,zL7,zTa,eq_false g1,eq_true g2,SB,seval,zCa,aOp,zB,aUn,reduceCtorEq,zFr,place,zTu,zRe]
    exact hb2 _ _ (by rfl) (by rfl) hCh.app ⟨j,hlt,fun ⟨⟨lg',h1,h2,h3⟩,_⟩=>by rw [←hgk] at h1;cases h1;omega⟩
   have hwj:0<j→IntKind.i64.wrap ((j:Int)-1)=((j-1:Nat):Int):=fun h=>by rw [zWi (by omega) (by omega)];omega
   by_cases g3:0<j∧¬ldLt (gt ld (j-1)) (gt ld j)
   ·have g4:0<(j:Int):=by omega
    have g5:0≤cmpD (gt ld (j-1)) (gt ld j):=by
     have:=g3.2
     rw [←cmpD_neg] at this;omega
    have lD1:=fun Z=>(sG.app Z).loadCells zDl (i:=j-1) (by omega)
    have xD1:=ix_N (i:=j-1) sG (by omega) rfl
    simp only [n10,r10,q2,q3,q4,q12,q76,q77,q78,q15,q16,hlt,lD,xD,k12,kM,hfk,hko,w1,hlL,zSa,zDl,zau,zat,zax,zaw,zLl,zL0,zL1,zL2,zL3,zL4,zL5,zL6,zL7,zTa,eq_false g1,eq_false g2,eq_true g4,hwj g3.1,lD1,xD1,compare_ok,eq_true g5,SB,seval,zCa,aOp,zB,aUn,reduceCtorEq,zFr,place,zTu,zRe]
    exact hb2 _ _ (by rfl) (by rfl) hCh.app ⟨j,hlt,fun ⟨_,h⟩=>g3.2 (h g3.1)⟩
   have hok:okX C ld j:=⟨⟨lg,hgk.symm,by omega,by omega⟩,fun h0=>Classical.byContradiction fun hh=>g3 ⟨h0,hh⟩⟩
   have eT:ld.take (j+1)=ld.take j++[gt ld j]:=zad hlt
   have eC:allCh C s (ld.take (j+1))=allCh C s (ld.take j)++[(lg.frm,(gt ld j).dep-lg.cut,-(gt ld j).gr),(lg.dst,(gt ld j).arr,(gt ld j).gr)]:=by
    unfold allCh
    rw [eT,List.flatMap_append,←List.append_assoc,List.flatMap_cons,List.flatMap_nil,List.append_nil]
    show _++ldCh C (gt ld j)=_
    unfold ldCh
    rw [hlg]
   have eA:arrS to dl s+arrL C to (ld.take (j+1))=arrS to dl s+arrL C to (ld.take j)+(if lg.dst=to then (gt ld j).gr else 0):=by
    rw [eT,arrL_app]
    show _+(_+((if (legD C (gt ld j)).dst=to then (gt ld j).gr else 0)+0))=_
    rw [hlg];omega
   have hgood:∀x∈ld.take j,0≤x.gr∧x.gr≤1000000000:=fun x hx=>by
    obtain ⟨i,hi,rfl⟩:=List.mem_iff_getElem.1 hx
    rw [List.length_take] at hi
    obtain ⟨⟨l2,h1,h2,h3⟩,_⟩:=hall i (by omega)
    obtain ⟨c2,hc2,_,hk⟩:=zck h1
    have:=(hC c2 hc2).1
    rw [hk] at this
    unfold Fine at this
    rw [List.getElem_take,←zGl (by omega)]
    omega
   have hbA:=arrL_le (C:=C) (to:=to) hgood
   rw [List.length_take] at hbA
   have hbS:=arrS_le (to:=to) (dl:=dl) hsg
   have wd:IntKind.i64.wrap ((gt ld j).dep-lg.cut)=(gt ld j).dep-lg.cut:=zWi (by omega) (by omega)
   have wn:IntKind.i64.wrap (0-(gt ld j).gr)=-(gt ld j).gr:=by rw [Int.zero_sub];exact zWi (by omega) (by omega)
   have wa:IntKind.i64.wrap (arrS to dl s+arrL C to (ld.take j)+(gt ld j).gr)=arrS to dl s+arrL C to (ld.take j)+(gt ld j).gr:=zWi (by omega) (by omega)
   obtain ⟨G2,p',c',e2,O2,C2,K2,hl2'⟩:=(hO'.app [.cells false (encD (gt ld j)),.cells false (encL lg)]).more (lim':=lim) (bytes:=24) hlG zdr (by decide) [(lg.frm,(gt ld j).dep-lg.cut,-(gt ld j).gr),(lg.dst,(gt ld j).arr,(gt ld j).gr)] (by rw [hlj];simp;unfold za2;omega) (by rw [hlj];simp;omega) (by simp;omega) [.cells false [.int .i64 lg.frm,.int .i64 ((gt ld j).dep-lg.cut),.int .i64 (-(gt ld j).gr),.int .i64 lg.dst,.int .i64 (gt ld j).arr,.int .i64 (gt ld j).gr]] (x:=.slice (some ⟨G'.length+2,0,none⟩) 2 2) (str:=false)
    (zb3 (m:=[(lg.frm,(gt ld j).dep-lg.cut,-(gt ld j).gr),(lg.dst,(gt ld j).arr,(gt ld j).gr)]) (Sl.row (ro:=false) zdr (by rw [List.append_assoc,zHw];rfl))) rfl
   rw [hlj] at e2
   simp only [List.length_cons,List.length_nil,Nat.zero_add,Nat.reduceAdd,List.append_assoc,List.cons_append,List.nil_append] at e2 O2
   have k20:∀Z,zG (G2++Z) G'.length=.cells false (encD (gt ld j)):=fun Z=>by
    have:=K2 G'.length (by simp) fun a ha=>by have:=(hO'.block ha).2;omega
    rw [List.append_nil,zHn] at this
    exact (Ext.refl.app).cells this
   have k21:∀Z,zG (G2++Z) (G'.length+1)=.cells false (encL lg):=fun Z=>by
    have:=K2 (G'.length+1) (by simp) fun a ha=>by have:=(hO'.block ha).2;omega
    rw [List.append_nil,zHw] at this
    exact (Ext.refl.app).cells this
   have hCh2:Chg [] G (G2++[]):=C2 [] G (Nat.le_refl _) hCh.app
   by_cases g3':0<j
   ·have g4:0<(j:Int):=by omega
    have g5:¬0≤cmpD (gt ld (j-1)) (gt ld j):=by
     have:ldLt (gt ld (j-1)) (gt ld j):=Classical.byContradiction fun hh=>g3 ⟨g3',hh⟩
     rw [←cmpD_neg] at this;omega
    have lD1:=fun Z=>(sG.app Z).loadCells zDl (i:=j-1) (by omega)
    have xD1:=ix_N (i:=j-1) sG (by omega) rfl
    by_cases g6:lg.dst=to
    ·rw [if_pos g6] at eA
     simp only [n10,r10,q2,q3,q4,q12,q76,q77,q78,q15,q16,hlt,lD,xD,k12,kM,hfk,hko,w1,hlL,zSa,zDl,zau,zat,zax,zaw,zLl,zL0,zL1,zL2,zL3,zL4,zL5,zL6,zL7,zTa,eq_false g1,eq_false g2,eq_true g4,hwj g3',lD1,xD1,compare_ok,eq_false g5,n10,r10,q2,q3,q4,q12,q76,q77,q78,q15,q16,k20,k21,wd,wn,wa,w1,zDl,zau,zat,zax,zaw,zLl,zL0,zL1,zL2,zL3,zL4,zL5,zL6,zL7,zTa,e2,eq_true g6,SB,seval,zCa,aOp,zB,aUn,reduceCtorEq,zFr,place,zTu,zRe]
     exact hN (j+1,p',c') _ _ ⟨by show j+1≤_;omega,⟨(by exact q2),by exact q3,by exact q4,by exact q12⟩,by exact q76,by exact q77,(by rfl),by rw [eA];exact (by rfl),by rw [show s.length+2*(j+1)=s.length+(2*j+2) by omega];exact (by rfl),by rw [eC];exact O2,hCh2,fun i hi=>by rcases (by omega:i<j∨i=j) with h | h;exact hall i h;rw [h];exact hok⟩ (by show ld.length-(j+1)<ld.length-j;omega)
    ·rw [if_neg g6,Int.add_zero] at eA
     simp only [n10,r10,q2,q3,q4,q12,q76,q77,q78,q15,q16,hlt,lD,xD,k12,kM,hfk,hko,w1,hlL,zSa,zDl,zau,zat,zax,zaw,zLl,zL0,zL1,zL2,zL3,zL4,zL5,zL6,zL7,zTa,eq_false g1,eq_false g2,eq_true g4,hwj g3',lD1,xD1,compare_ok,eq_false g5,n10,r10,q2,q3,q4,q12,q76,q77,q78,q15,q16,k20,k21,wd,wn,wa,w1,zDl,zau,zat,zax,zaw,zLl,zL0,zL1,zL2,zL3,zL4,zL5,zL6,zL7,zTa,e2,eq_false g6,SB,seval,zCa,aOp,zB,aUn,reduceCtorEq,zFr,place,zTu,zRe]
     exact hN (j+1,p',c') _ _ ⟨by show j+1≤_;omega,⟨(by exact q2),by exact q3,by exact q4,by exact q12⟩,by exact q76,by exact q77,(by rfl),by rw [eA];exact (by exact q15),by rw [show s.length+2*(j+1)=s.length+(2*j+2) by omega];exact (by rfl),by rw [eC];exact O2,hCh2,fun i hi=>by rcases (by omega:i<j∨i=j) with h | h;exact hall i h;rw [h];exact hok⟩ (by show ld.length-(j+1)<ld.length-j;omega)
   ·have g4:¬0<(j:Int):=by omega
    by_cases g6:lg.dst=to
    ·rw [if_pos g6] at eA
     simp only [n10,r10,q2,q3,q4,q12,q76,q77,q78,q15,q16,hlt,lD,xD,k12,kM,hfk,hko,w1,hlL,zSa,zDl,zau,zat,zax,zaw,zLl,zL0,zL1,zL2,zL3,zL4,zL5,zL6,zL7,zTa,eq_false g1,eq_false g2,eq_false g4,n10,r10,q2,q3,q4,q12,q76,q77,q78,q15,q16,k20,k21,wd,wn,wa,w1,zDl,zau,zat,zax,zaw,zLl,zL0,zL1,zL2,zL3,zL4,zL5,zL6,zL7,zTa,e2,eq_true g6,SB,seval,zCa,aOp,zB,aUn,reduceCtorEq,zFr,place,zTu,zRe]
     exact hN (j+1,p',c') _ _ ⟨by show j+1≤_;omega,⟨(by exact q2),by exact q3,by exact q4,by exact q12⟩,by exact q76,by exact q77,(by rfl),by rw [eA];exact (by rfl),by rw [show s.length+2*(j+1)=s.length+(2*j+2) by omega];exact (by rfl),by rw [eC];exact O2,hCh2,fun i hi=>by rcases (by omega:i<j∨i=j) with h | h;exact hall i h;rw [h];exact hok⟩ (by show ld.length-(j+1)<ld.length-j;omega)
    ·rw [if_neg g6,Int.add_zero] at eA
     simp only [n10,r10,q2,q3,q4,q12,q76,q77,q78,q15,q16,hlt,lD,xD,k12,kM,hfk,hko,w1,hlL,zSa,zDl,zau,zat,zax,zaw,zLl,zL0,zL1,zL2,zL3,zL4,zL5,zL6,zL7,zTa,eq_false g1,eq_false g2,eq_false g4,n10,r10,q2,q3,q4,q12,q76,q77,q78,q15,q16,k20,k21,wd,wn,wa,w1,zDl,zau,zat,zax,zaw,zLl,zL0,zL1,zL2,zL3,zL4,zL5,zL6,zL7,zTa,e2,eq_false g6,SB,seval,zCa,aOp,zB,aUn,reduceCtorEq,zFr,place,zTu,zRe]
     exact hN (j+1,p',c') _ _ ⟨by show j+1≤_;omega,⟨(by exact q2),by exact q3,by exact q4,by exact q12⟩,by exact q76,by exact q77,(by rfl),by rw [eA];exact (by exact q15),by rw [show s.length+2*(j+1)=s.length+(2*j+2) by omega];exact (by rfl),by rw [eC];exact O2,hCh2,fun i hi=>by rcases (by omega:i<j∨i=j) with h | h;exact hall i h;rw [h];exact hok⟩ (by show ld.length-(j+1)<ld.length-j;omega)
noncomputable def checkV (P:List Int) (L:List Leg) (s:List Flow.Src) (to dl:Int) (ld:List Flow.Ld):Int×Bool:=
 haveI:=Classical.propDecidable (zAn P L s to dl=0∧goodL (zCc L to dl) s ld)
 if zAn P L s to dl=0∧goodL (zCc L to dl) s ld then (arrS to dl s+arrL (zCc L to dl) to ld,true) else (0,false)
theorem checkV_no {P:List Int} {L:List Leg} {s:List Flow.Src} {to dl:Int} {ld:List Flow.Ld} (h:¬(zAn P L s to dl=0∧goodL (zCc L to dl) s ld)):checkV P L s to dl ld=(0,false):=by
 unfold checkV
 rw [if_neg h]
theorem checkV_yes {P:List Int} {L:List Leg} {s:List Flow.Src} {to dl:Int} {ld:List Flow.Ld} (h1:zAn P L s to dl=0) (h2:goodL (zCc L to dl) s ld):checkV P L s to dl ld=(arrS to dl s+arrL (zCc L to dl) to ld,true):=by
 unfold checkV
 rw [if_pos ⟨h1,h2⟩]
theorem check_ok [OB] {mp:Bool} {lim:Nat} {pp pl ps p4:Option Addr} {P:List Int} {L:List Leg} {s:List Flow.Src} {ld:List Flow.Ld} {cp cl cs c4:Nat} {to dl:Int} {H:zH} {Q:Value→zH→Prop} (hn:NetIn H pp pl P L) (hs:Sl H encS 3 ps s) (hsl:s.length<2 ^ 63) (h4:Sl H encD 4 p4 ld) (hl4:ld.length≤200) (hLl:zac P L=0→L.length≤8) :
  za0 E mp lim 10 [.agg (netV pp P.length cp pl L.length cl).toArray,.slice ps s.length cs,.int .i64 to,.int .i64 dl,.slice p4 ld.length c4] H Q=Q (.tuple #[.int .i64 (checkV P L s to dl ld).1,.bool (checkV P L s to dl ld).2]) H:=by
 refine pc (by decide) e10 rfl rfl ?_
 rw [b10,c10]
 have hlim:H.length≤H.length:=Nat.le_refl _
 by_cases ha:zAn P L s to dl=0
 case neg=>
  rw [checkV_no fun h=>ha h.1]
  simp only [n10,r10,zNl,zN0,zN1,hlim,zd2 (hn.app _) (hs.app _) hsl,eq_false ha,SB,seval,zCa,aOp,zB,aUn,reduceCtorEq,zFr,place,zTu,zRe]
 have hA:=zco ha
 have hL8:=hLl (zcn ha)
 have hCn:=zcc (to:=to) (dl:=dl) hA.net.fine
 have hCm:∀c∈zCc L to dl,Fine c.1∧0≤c.2∧c.2+c.1.mins≤za1:=fun c hc=>by
  obtain ⟨h1,h2,d,_,h3,h4,h5⟩:=zav hc
  have:=hA.d1
  exact ⟨hA.net.fine _ h1,by omega,by omega⟩
 have oldl:∀a,pl=some a→L≠[]→a.block<H.length:=fun a ha hn'=>by
  have:=hn.sl
  rw [ha] at this
  exact this.lt hn'
 simp only [n10,r10,zNl,zN0,zN1,hlim,zd2 (hn.app _) (hs.app _) hsl,ha,SB,seval,zCa,aOp,zB,aUn,reduceCtorEq,zFr,place,zTu,zRe]
 refine counted_ok ?_
 rw [Ret_ops_nil,Ret_block]
 try simp only [List.append_nil,List.append_assoc,List.cons_append,List.nil_append,List.length_append,List.length_cons,List.length_nil,Nat.zero_add,Nat.reduceAdd,Nat.add_assoc]
 obtain ⟨G0,hG0⟩:∃G0,G0=H++[Blk.cells false (netV pp P.length cp pl L.length cl),Blk.map [],Blk.cells false [.map (some (H.length+1))],Blk.cells false (netV pp P.length cp pl L.length cl),Blk.cells false [.int .i64 to],Blk.cells false [.int .i64 dl]]:=⟨_,rfl⟩
 have b1:zG G0 (H.length+1)=.map []:=by rw [hG0];exact zHw
 have b2:zG G0 (H.length+2)=.cells false [.map (some (H.length+1))]:=by rw [hG0];exact zHw
 have b3:zG G0 (H.length+3)=.cells false (netV pp P.length cp pl L.length cl):=by rw [hG0];exact zHw
 have b4:zG G0 (H.length+4)=.cells false [.int .i64 to]:=by rw [hG0];exact zHw
 have b5:zG G0 (H.length+5)=.cells false [.int .i64 dl]:=by rw [hG0];exact zHw
 have bo:∀b,b<H.length→zG G0 b=zG H b:=fun b hb=>by rw [hG0];exact zHo hb
 have bl:G0.length=H.length+6:=by rw [hG0];simp
 have sL0:Sl G0 encL 8 pl L:=by rw [hG0];exact hn.sl.app _
 have sS0:Sl G0 encS 3 ps s:=by rw [hG0];exact hs.app _
 have s40:Sl G0 encD 4 p4 ld:=by rw [hG0];exact h4.app _
 rw [←hG0]
 clear hG0
 refine legs_ok (M:=H.length+1) (B12:=H.length+2) (Bd2:=H.length+5) (Bn2:=H.length+3) (Bt2:=H.length+4) (np:=P.length) (cpn:=cp) (cl:=cl) (pp2:=pp) (pl:=pl) (L:=L) (to:=to) (dl:=dl) (Kk:=(H.length+3)::(H.length+4)::(H.length+5)::List.range H.length) (zcn ha) b1 b2 (by omega) (by rfl) (by rfl) b5 b3 b4 sL0 ⟨by simp,by simp,by simp,fun a ha' hne=>by simp [oldl a ha' hne]⟩ (fun b hb=>?_) hA.net.fine (by omega) hA.d0 hA.d1 fun G1 es hes hM1 hk1 hdf1 hl1=>?_
 ·simp only [List.mem_cons,List.mem_range] at hb
  omega
 rw [bl] at hl1
 have sS1:Sl G1 encS 3 ps s:=sl_keep sS0 fun a ha' hne=>by
  have h1:a.block<H.length:=by
   have:=hs;rw [ha'] at this;exact this.lt hne
  exact hk1 _ (by omega) (by omega)
 have s41:Sl G1 encD 4 p4 ld:=sl_keep s40 fun a ha' hne=>by
  have h1:a.block<H.length:=by
   have:=h4;rw [ha'] at this;exact this.lt hne
  exact hk1 _ (by omega) (by omega)
 have b12:zG G1 (H.length+2)=.cells false [.map (some (H.length+1))]:=(hk1 _ (by omega) (by omega)).trans b2
 have hsg:∀x∈s,0≤x.gr∧x.gr≤1000000000:=fun x hx=>(hA.src x hx).2.2.2
 have hs60:s.length≤60:=by have:=hA.ns;omega
 rw [show ∀(a b c d:zAi),[a,b,c]++[d]=[a,b,c,d] from fun _ _ _ _=>rfl]
 refine zRp ?_
 simp only [n10,r10,SB,seval,zCa,aOp,zB,aUn,reduceCtorEq,zFr,place,zTu,zRe]
 refine chkS_ok (p4:=p4) (n4:=ld.length) (c4:=c4) (cs:=cs) (B12:=H.length+2) (to:=to) (dl:=dl) ⟨(by rfl),(by rfl),(by rfl),(by rfl)⟩ (sS1.app _) hs60 hsg (by simp;omega) (by rfl) (by rfl) (by rfl) (by rfl) (by rfl) fun fr2 G2 p c hf2 hO2 hC2 q15 q16=>?_
 obtain ⟨q2,q3,q4,q12⟩:=hf2
 simp only [List.append_nil] at hO2 hC2
 have hl2:=hC2.len
 refine zRp ?_
 simp only [n10,r10,q2,q3,q4,q12,q15,q16,SB,seval,zCa,aOp,zB,aUn,reduceCtorEq,zFr,place,zTu,zRe]
 have hno:∀fr' G',fr' 10=.int .i64 0→fr' 11=.bool false→Chg [] G1 G'→¬goodL (zCc L to dl) s ld→∀K,Ret E a10 H.length [.code .retM,.code K,.code .retM,.mark G0.length] fr' G' fun v' x=>v'=Value.tuple #[Value.int IntKind.i64 (checkV P L s to dl ld).fst,Value.bool (checkV P L s to dl ld).snd]:=fun fr' G' h1 h2 h3 h4 K=>by
  have hd:zG G' G0.length=.dfr:=h3.get hdf1 (by omega) (by simp)
  rw [checkV_no fun h=>h4 h.2]
  simp only [n10,r10,h1,h2,hd,show H.length≤G0.length by omega,SB,seval,zCa,aOp,zB,aUn,reduceCtorEq,zFr,place,zTu,zRe]
 refine chkL_ok (p4:=p4) (c4:=c4) (B12:=H.length+2) (M:=H.length+1) (s:=s) (C:=zCc L to dl) (es:=es) (to:=to) (dl:=dl) ⟨(by exact q2),by exact q3,by exact q4,by exact q12⟩ s41 hl4 hs60 hsg hCm (by omega) b12 hM1 hes (by rw [List.append_nil];exact hC2) (hO2.app _) (by rfl) (by rfl) (by rfl) (by exact q15) (by exact q16) (fun fr3 G3 h1 h2 h3 h4=>?_) fun fr3 G3 p3 c3 hf3 hO3 hC3 hall q15 q16=>?_
 ·obtain ⟨i,hi,hni⟩:=h4
  exact hno _ _ h1 h2 h3 (fun h=>hni (h.1 i hi)) _
 obtain ⟨q2,q3,q4,q12⟩:=hf3
 have hl3:=hC3.len
 have hlen:(allCh (zCc L to dl) s ld).length≤500:=by
  unfold allCh zaz
  rw [List.length_append,List.length_map]
  have hl2:∀l:List Flow.Ld,(l.flatMap (ldCh (zCc L to dl))).length=2*l.length:=fun l=>by
   induction l with
   | nil=>rfl
   | cons x l ih=>rw [List.flatMap_cons,List.length_append,ih,List.length_cons];show 2+_=_;omega
  rw [hl2];omega
 have hbd:∀x∈allCh (zCc L to dl) s ld,-100000000000≤x.2.2∧x.2.2≤100000000000:=fun x hx=>by
  rcases List.mem_append.1 hx with h1 | h1
  ·obtain ⟨y,hy,rfl⟩:=List.mem_map.1 h1
   have:=hsg y hy
   show _≤y.gr∧y.gr≤_;omega
  ·obtain ⟨y,hy,h2⟩:=List.mem_flatMap.1 h1
   obtain ⟨i,hi,rfl⟩:=List.mem_iff_getElem.1 hy
   obtain ⟨⟨lg,g1,g2,g3⟩,_⟩:=hall i hi
   obtain ⟨c2,hc2,_,hk⟩:=zck g1
   have hF:=(hCm c2 hc2).1
   rw [hk] at hF
   unfold Fine at hF
   rw [zGl hi] at g2 g3
   unfold ldCh at h2
   simp only [List.mem_cons,List.not_mem_nil,or_false] at h2
   rcases h2 with rfl | rfl
   ·show _≤-ld[i].gr∧-ld[i].gr≤_;omega
   ·show _≤ld[i].gr∧ld[i].gr≤_;omega
 refine zRp ?_
 simp only [n10,r10,q2,q3,q4,q12,q15,q16,SB,seval,zCa,aOp,zB,aUn,reduceCtorEq,zFr,place,zTu,zRe]
 refine enough_ok (hO3.app _) (by omega) (by simp;omega) (by omega) hbd fun b G4 hb hk4=>?_
 have hd3:zG G3 G0.length=.dfr:=hC3.get hdf1 (by omega) (by simp)
 have hd:zG G4 G0.length=.dfr:=by
  rw [hk4 _ (by simp;omega) (own_dfr hO3 hd3),List.append_nil];exact hd3
 cases b with
 | true=>
   rw [checkV_yes ha ⟨hall,hb.1 rfl⟩]
   simp only [n10,r10,q15,hd,show H.length≤G0.length by omega,SB,seval,zCa,aOp,zB,aUn,reduceCtorEq,zFr,place,zTu,zRe]
 | false=>
   rw [checkV_no fun h=>by cases hb.2 h.2.2]
   simp only [n10,r10,q15,hd,show H.length≤G0.length by omega,SB,seval,zCa,aOp,zB,aUn,reduceCtorEq,zFr,place,zTu,zRe]
end Go.Proofs.Ytohnaffmcjbpoaa.Fn

namespace Go.Flow
open Go.AM Go.Net
def Near:List Pr→List Pr→Prop
 | [],[]=>True
 | p::a,q::b=>(q.head=p.head∧q.tail=p.tail∧0≤q.flow∧q.flow≤p.room)∧Near a b
 | _,_=>False
theorem near_of:∀{a b:List Pr},b.length=a.length→(∀j,j<a.length→(gt b j).head=(gt a j).head∧(gt b j).tail=(gt a j).tail∧0≤(gt b j).flow∧(gt b j).flow≤(gt a j).room)→Near a b
 | [],[],_,_=>trivial
 | [],q::b,h,_=>by simp at h
 | p::a,[],h,_=>by simp at h
 | p::a,q::b,h,hj=>⟨hj 0 (by simp),near_of (by simpa using h) fun j hj'=>by have:=hj (j+1) (by simpa using hj');rw [zGc,zGc] at this;exact this⟩
theorem Near.split:∀{a b l:List Pr},Near (a++b) l→Near a (l.take a.length)∧Near b (l.drop a.length)
 | [],b,l,h=>⟨by simp [Near],h⟩
 | p::a,b,[],h=>by simp [Near] at h
 | p::a,b,q::l,h=>by
   obtain ⟨h1,h2⟩:=h
   obtain ⟨i1,i2⟩:=Near.split h2
   exact ⟨⟨h1,i1⟩,i2⟩
theorem Near.mem:∀{a b:List Pr},Near a b→∀q∈b,∃p∈a,q.head=p.head∧q.tail=p.tail∧0≤q.flow∧q.flow≤p.room
 | [],[],_,q,hq=>by cases hq
 | [],q'::b,h,_,_=>by cases h
 | p::a,[],h,_,_=>by cases h
 | p::a,q'::b,h,q,hq=>by
   rcases List.mem_cons.1 hq with rfl | hq
   ·exact ⟨p,List.mem_cons_self,h.1⟩
   ·obtain ⟨p',h1,h2⟩:=Near.mem h.2 q hq
    exact ⟨p',List.mem_cons_of_mem _ h1,h2⟩
theorem net_app {S:Nat→Bool}:∀{a b:List Pr},net S (a++b)=net S a+net S b
 | [],b=>by simp [net]
 | p::a,b=>by rw [List.cons_append,net,net,net_app];omega
theorem IsFlow.inner {n:Nat} {l:List Pr} (h:IsFlow n l) {S:Nat→Bool} (h0:S 0=false) (h1:S 1=false):net S l=0:=by
 have h2:=sumS_net (S:=S) h.lt
 rw [sumS_two h.bal n h.two,h0,h1] at h2
 simp at h2
 omega
section
variable {PL:List (Int×Int)} {to dl:Int} {s:List Src} {C:List (Leg×Int)} {l:List Pr}
theorem near_graph (h:PlOk PL to dl s C) (hs:∀x∈s,0≤x.gr) (hC:∀c∈C,0≤c.1.grams) (ha:Alike (zao PL to dl s C) l) (hf:IsFlow (PL.length+2) l):Near (zao PL to dl s C) l:=by
 refine near_of ha.len fun j hj=>?_
 obtain ⟨e1,e2⟩:=ha.gts j
 have hjl:j<l.length:=by rw [ha.len];exact hj
 have hn:=hf.nn _ (za9 hjl)
 have hc:=ha.cap (2*j) (by omega)
 rw [show tw (2*j)=2*j+1 by unfold tw;rw [if_pos (by omega)],rm_even,rm_odd,rm_even,rm_odd] at hc
 have h0:=(zc3 h hs hC (za9 hj)).2.2.2
 exact ⟨e1,e2,hn.2,by omega⟩
def upPl (PL:List (Int×Int)) (p t:Int) (v:Nat):Bool:=match v with
 | 0=>false
 | 1=>false
 | i+2=>decide (i<PL.length)&&decide ((gt PL i).1=p∧(gt PL i).2≤t)
theorem upPl_node {p t q u:Int} (hp:p≠to) (h:q≠to→(q,u)∈PL):upPl PL p t (zNo PL to q u)=decide (q=p∧u≤t):=by
 by_cases hq:q=to
 ·unfold zNo
  rw [if_pos hq]
  show false=_
  rw [eq_comm,decide_eq_false_iff_not]
  rintro ⟨e,_⟩
  exact hp (e▸hq)
 ·obtain ⟨h1,h2,h3⟩:=ze2 hq (h hq)
  rw [h1]
  show (decide (PL.idxOf (q,u)<PL.length)&&decide ((gt PL (PL.idxOf (q,u))).1=p∧(gt PL (PL.idxOf (q,u))).2≤t))=_
  rw [h3,decide_eq_true h2];rfl
theorem chain_net {p t:Int} (h:PlOk PL to dl s C) {A:List Pr} (hA:Near (zCp PL 2) A):0≤net (upPl PL p t) A:=by
 refine (flow_le_net fun q hq=>?_).1
 obtain ⟨p',hp',e1,e2,e3,_⟩:=hA.mem q hq
 refine ⟨e3,fun hh=>?_⟩
 obtain ⟨j,h1,h2,rfl⟩:=zcd.1 hp'
 rw [e1] at hh
 rw [e2]
 have e4:upPl PL p t (2+j+1)=(decide (j+1<PL.length)&&decide ((gt PL (j+1)).1=p∧(gt PL (j+1)).2≤t)):=by rw [show 2+j+1=j+1+2 by omega];rfl
 have e5:upPl PL p t (2+j)=(decide (j<PL.length)&&decide ((gt PL j).1=p∧(gt PL j).2≤t)):=by rw [show 2+j=j+2 by omega];rfl
 change upPl PL p t (2+j+1)=true at hh
 show upPl PL p t (2+j)=true
 rw [e4] at hh
 rw [e5]
 simp only [Bool.and_eq_true,decide_eq_true_eq] at hh⊢
 have hpw:=(List.pairwise_iff_getElem.mp h.lt) j (j+1) (by omega) h1 (by omega)
 rw [←zGl (by omega),←zGl h1] at hpw
 unfold plLt at hpw
 omega
theorem src_net {p t:Int} (hp:p≠to):∀{s:List Src} {B:List Pr},(∀x∈s,0≤x.gr)→(∀x∈s,x.rd≤dl→x.pl≠to→(x.pl,x.rd)∈PL)→Near (srcP PL to dl s) B→- net (upPl PL p t) B≤balC p t (zaz s)
 | [],B,_,_,h=>by
   cases B with
   | nil=>exact Int.le_refl _
   | cons q B=>cases h
 | x::s,B,hs,hm,h=>by
   have hx:=hs x List.mem_cons_self
   have hs':=fun y hy=>hs y (List.mem_cons_of_mem x hy)
   have hm':=fun y hy=>hm y (List.mem_cons_of_mem x hy)
   have eb:balC p t (zaz (x::s))=(if x.pl=p∧x.rd≤t then x.gr else 0)+balC p t (zaz s):=rfl
   rw [eb]
   unfold srcP at h
   by_cases hr:x.rd≤dl
   ·rw [if_pos hr] at h
    cases B with
    | nil=>cases h
    | cons q B=>
      obtain ⟨⟨h1,h2,h3,h4⟩,h5⟩:=h
      have ih:=src_net (t:=t) hp (s:=s) (B:=B) hs' hm' h5
      have e1:upPl PL p t q.tail=false:=by rw [h2];rfl
      have e2:upPl PL p t q.head=decide (x.pl=p∧x.rd≤t):=by
       rw [h1];exact upPl_node hp fun hne=>hm x List.mem_cons_self hr hne
      rw [net,e1,e2]
      change q.flow≤x.gr at h4
      by_cases hc:x.pl=p∧x.rd≤t
      ·rw [if_pos hc,decide_eq_true hc];simp;omega
      ·rw [if_neg hc,decide_eq_false hc];simp;omega
   ·rw [if_neg hr] at h
    have ih:=src_net (t:=t) hp (s:=s) (B:=B) hs' hm' h
    split<;>omega
theorem way_net {p t:Int} {C0:List (Leg×Int)} (hp:p≠to) (hl:∀c∈C0,legM C0 (keyD c)=some c.1):∀{C:List (Leg×Int)} {X:List Pr},(∀c∈C,c∈C0)→(∀c∈C,(c.1.frm≠to∧(c.1.frm,c.2-c.1.cut)∈PL)∧(c.1.dst≠to→(c.1.dst,c.2+c.1.mins)∈PL))→Near (wayP PL to C) X→balC p t ((zb1 C X).flatMap (ldCh C0))=- net (upPl PL p t) X
 | [],X,_,_,h=>by
   cases X with
   | nil=>rfl
   | cons q X=>cases h
 | c::C,X,h0,hm,h=>by
   cases X with
   | nil=>cases h
   | cons q X=>
     obtain ⟨⟨h1,h2,h3,h4⟩,h5⟩:=h
     have ih:=way_net (t:=t) hp hl (C:=C) (X:=X) (fun y hy=>h0 y (List.mem_cons_of_mem _ hy)) (fun y hy=>hm y (List.mem_cons_of_mem _ hy)) h5
     obtain ⟨⟨m1,m2⟩,m3⟩:=hm c List.mem_cons_self
     have hk:legD C0 ⟨c.1.id,c.2,c.2+c.1.mins,q.flow⟩=c.1:=by
      unfold legD
      have:=hl c (h0 c List.mem_cons_self)
      unfold keyD at this
      show (legM C0 (c.1.id,c.2,c.2+c.1.mins)).getD default=_
      rw [this];rfl
     have e1:upPl PL p t q.tail=decide (c.1.frm=p∧c.2-c.1.cut≤t):=by rw [h2];exact upPl_node hp fun _=>m2
     have e2:upPl PL p t q.head=decide (c.1.dst=p∧c.2+c.1.mins≤t):=by rw [h1];exact upPl_node hp m3
     rw [zb1,List.flatMap_append,zcg,ih,net,e1,e2]
     by_cases hf:0<q.flow
     ·rw [if_pos hf,List.flatMap_cons,List.flatMap_nil,List.append_nil]
      unfold ldCh
      rw [hk]
      simp only [balC]
      by_cases c1:c.1.frm=p∧c.2-c.1.cut≤t<;>by_cases c2:c.1.dst=p∧c.2+c.1.mins≤t<;>simp [c1,c2]<;>omega
     ·rw [if_neg hf]
      have e0:q.flow=0:=by omega
      rw [e0]
      simp [balC]
theorem chain_exc {A:List Pr} (hA:Near (zCp PL 2) A):exc 1 A=0:=by
 have key:∀l:List Pr,(∀q∈l,q.head≠1∧q.tail≠1)→exc 1 l=0:=fun l=>by
  induction l with
  | nil=>intro _;rfl
  | cons q l ih=>
    intro h
    have:=h q List.mem_cons_self
    rw [exc,if_neg this.1,if_neg this.2,ih fun x hx=>h x (List.mem_cons_of_mem _ hx)];rfl
 refine key A fun q hq=>?_
 obtain ⟨p,hp,e1,e2,_⟩:=hA.mem q hq
 obtain ⟨j,_,_,rfl⟩:=zcd.1 hp
 rw [e1,e2]
 exact ⟨by show 2+j+1≠1;omega,by show 2+j≠1;omega⟩
theorem src_exc:∀{s:List Src} {B:List Pr},(∀x∈s,0≤x.gr)→Near (srcP PL to dl s) B→exc 1 B≤arrS to dl s
 | [],B,_,h=>by
   cases B with
   | nil=>exact Int.le_refl _
   | cons q B=>cases h
 | x::s,B,hs,h=>by
   have hx:=hs x List.mem_cons_self
   have hs':=fun y hy=>hs y (List.mem_cons_of_mem x hy)
   unfold srcP at h
   rw [arrS]
   by_cases hr:x.rd≤dl
   ·rw [if_pos hr] at h
    cases B with
    | nil=>cases h
    | cons q B=>
      obtain ⟨⟨h1,h2,h3,h4⟩,h5⟩:=h
      have ih:=src_exc (s:=s) (B:=B) hs' h5
      have e1:q.tail≠1:=by rw [h2];show 0≠1;omega
      change q.flow≤x.gr at h4
      change q.head=zNo PL to x.pl x.rd at h1
      rw [exc,if_neg e1]
      by_cases hc:x.pl=to
      ·rw [if_pos (show x.pl=to∧x.rd≤dl from ⟨hc,hr⟩)]
       split<;>omega
      ·have:q.head≠1:=by rw [h1];unfold zNo;rw [if_neg hc];omega
       rw [if_neg this,if_neg (show ¬(x.pl=to∧x.rd≤dl) from fun h=>hc h.1)];omega
   ·rw [if_neg hr] at h
    have ih:=src_exc (s:=s) (B:=B) hs' h
    rw [if_neg fun h=>hr h.2];omega
theorem way_exc {C0:List (Leg×Int)} (hl:∀c∈C0,legM C0 (keyD c)=some c.1):∀{C:List (Leg×Int)} {X:List Pr},(∀c∈C,c∈C0)→(∀c∈C,c.1.frm≠to)→Near (wayP PL to C) X→exc 1 X=arrL C0 to (zb1 C X)
 | [],X,_,_,h=>by
   cases X with
   | nil=>rfl
   | cons q X=>cases h
 | c::C,X,h0,hm,h=>by
   cases X with
   | nil=>cases h
   | cons q X=>
     obtain ⟨⟨h1,h2,h3,h4⟩,h5⟩:=h
     have ih:=way_exc hl (C:=C) (X:=X) (fun y hy=>h0 y (List.mem_cons_of_mem _ hy)) (fun y hy=>hm y (List.mem_cons_of_mem _ hy)) h5
     have hk:legD C0 ⟨c.1.id,c.2,c.2+c.1.mins,q.flow⟩=c.1:=by
      unfold legD
      have:=hl c (h0 c List.mem_cons_self)
      unfold keyD at this
      show (legM C0 (c.1.id,c.2,c.2+c.1.mins)).getD default=_
      rw [this];rfl
     have e1:q.tail≠1:=by
      rw [h2]
      show zNo PL to c.1.frm _≠1
      unfold zNo;rw [if_neg (hm c List.mem_cons_self)];omega
     have e2:q.head=1↔c.1.dst=to:=by
      rw [h1]
      show zNo PL to c.1.dst _=1↔_
      unfold zNo
      by_cases hd:c.1.dst=to
      ·simp [hd]
      ·rw [if_neg hd];simp [hd]
     rw [exc,if_neg e1,ih,zb1,arrL_app]
     by_cases hf:0<q.flow
     ·rw [if_pos hf,arrL,arrL,hk]
      by_cases hd:c.1.dst=to
      ·rw [if_pos (e2.2 hd),if_pos hd];dsimp only;omega
      ·rw [if_neg fun h=>hd (e2.1 h),if_neg hd];omega
     ·rw [if_neg hf,arrL]
      split<;>omega
end
theorem planL_mem0:∀{C:List (Leg×Int)} {X:List Pr} {x:Ld},x∈zb1 C X→∃c∈C,x.leg=c.1.id∧x.dep=c.2∧x.arr=c.2+c.1.mins
 | [],X,x,h=>by cases X<;>simp [zb1] at h
 | c::C,[],x,h=>by simp [zb1] at h
 | c::C,q::X,x,h=>by
   rw [zb1] at h
   rcases List.mem_append.1 h with h | h
   ·split at h
    ·rw [List.mem_singleton] at h
     subst h
     exact ⟨c,List.mem_cons_self,rfl,rfl,rfl⟩
    ·cases h
   ·obtain ⟨d,h1,h2⟩:=planL_mem0 h
    exact ⟨d,List.mem_cons_of_mem _ h1,h2⟩
theorem planL_mem {PL:List (Int×Int)} {to:Int}:∀{C:List (Leg×Int)} {X:List Pr} {x:Ld},Near (wayP PL to C) X→x∈zb1 C X→∃c∈C,x.leg=c.1.id∧x.dep=c.2∧x.arr=c.2+c.1.mins∧0<x.gr∧x.gr≤c.1.grams
 | [],X,x,_,h=>by cases X<;>simp [zb1] at h
 | c::C,[],x,_,h=>by simp [zb1] at h
 | c::C,q::X,x,hN,h=>by
   obtain ⟨⟨h1,h2,h3,h4⟩,h5⟩:=hN
   rw [zb1] at h
   rcases List.mem_append.1 h with h | h
   ·split at h
    ·rename_i hf
     rw [List.mem_singleton] at h
     subst h
     exact ⟨c,List.mem_cons_self,rfl,rfl,rfl,hf,h4⟩
    ·cases h
   ·obtain ⟨d,g1,g2⟩:=planL_mem (PL:=PL) (to:=to) h5 h
    exact ⟨d,List.mem_cons_of_mem _ g1,g2⟩
def Apart (c d:Leg×Int):Prop:=¬(c.1.id=d.1.id∧c.2=d.2)
theorem planL_apart:∀{C:List (Leg×Int)} {X:List Pr},C.Pairwise Apart→(zb1 C X).Pairwise fun a b=>¬(a.leg=b.leg∧a.dep=b.dep)
 | [],X,_=>by cases X<;>simp [zb1]
 | c::C,[],_=>by simp [zb1]
 | c::C,q::X,h=>by
   obtain ⟨h1,h2⟩:=List.pairwise_cons.1 h
   have ih:=planL_apart (X:=X) h2
   rw [zb1,List.pairwise_append]
   refine ⟨by split<;>simp,ih,fun a ha b hb e=>?_⟩
   split at ha
   ·rw [List.mem_singleton] at ha
    subst ha
    obtain ⟨d,hd,e1,e2,_⟩:=planL_mem0 hb
    exact h1 d hd ⟨e.1.trans e1,e.2.trans e2⟩
   ·cases ha
theorem countC_apart {L:List Leg} {to dl:Int} (h:L.Pairwise fun a b=>a.id≠b.id):(zCc L to dl).Pairwise Apart:=by
 unfold zCc
 rw [List.pairwise_flatMap]
 refine ⟨fun l _=>?_,h.imp fun {a b} hab x hx y hy e=>?_⟩
 ·unfold oneC
  split
  ·exact List.Pairwise.nil
  ·unfold legC
   rw [List.pairwise_flatMap]
   refine ⟨fun d _=>?_,List.pairwise_lt_range.imp fun {i j} hij x hx y hy e=>?_⟩
   ·unfold cntD;split<;>simp
   ·have e1:=(cntD_mem hx).1
    have e2:=(cntD_mem hy).1
    have e3:=e.2
    rw [e1,e2] at e3
    simp only at e3
    omega
 ·have e1:x.1=a:=by
   unfold oneC at hx
   split at hx
   ·cases hx
   ·exact (legC_mem hx).1
  have e2:y.1=b:=by
   unfold oneC at hy
   split at hy
   ·cases hy
   ·exact (legC_mem hy).1
  exact hab (by rw [←e1,←e2];exact e.1)
theorem legM_of {C:List (Leg×Int)} (hu:∀c∈C,∀d∈C,keyD c=keyD d→c.1=d.1):∀c∈C,legM C (keyD c)=some c.1:=fun c hc=>by
 cases h:legM C (keyD c) with
 | none=>exact absurd rfl (legM_none h c hc)
 | some l=>
   obtain ⟨d,h1,h2,h3⟩:=zck h
   rw [←h3,hu d h1 c hc h2]
section
variable {PL:List (Int×Int)} {to dl:Int} {s:List Src} {C:List (Leg×Int)} {l:List Pr} {SD:List Ld}
theorem bal_srcCh {p t:Int}:∀{s:List Src},(∀x∈s,0≤x.gr)→0≤balC p t (zaz s)
 | [],_=>Int.le_refl _
 | x::s,h=>by
   have ih:=bal_srcCh (p:=p) (t:=t) (s:=s) fun y hy=>h y (List.mem_cons_of_mem _ hy)
   have:=h x List.mem_cons_self
   show 0≤(if x.pl=p∧x.rd≤t then x.gr else 0)+balC p t (zaz s)
   split<;>omega
theorem plan_good (h:PlOk PL to dl s C) (hs:∀x∈s,0≤x.gr) (hC:∀c∈C,0≤c.1.grams) (hu:∀c∈C,∀d∈C,keyD c=keyD d→c.1=d.1) (hap:C.Pairwise Apart) (ha:Alike (zao PL to dl s C) l) (hf:IsFlow (PL.length+2) l)
  (hp:SD.Perm (zb1 C (l.drop (zCp PL 2++srcP PL to dl s).length))) (hpw:SD.Pairwise fun x y=>¬ldLt y x):goodL C s SD∧exc 1 l≤arrS to dl s+arrL C to SD:=by
 have hN:=near_graph h hs hC ha hf
 unfold zao at hN
 obtain ⟨n1,n2⟩:=hN.split
 obtain ⟨n3,n4⟩:=n1.split
 have hleg:=legM_of hu
 have hfrm:∀c∈C,c.1.frm≠to:=fun c hc=>(h.from' c hc).1
 obtain ⟨n,hn⟩:∃n,n=(zCp PL 2++srcP PL to dl s).length:=⟨_,rfl⟩
 rw [←hn] at n1 n2 n3 n4 hp
 have el:l=(l.take n).take (zCp PL 2).length++(l.take n).drop (zCp PL 2).length++l.drop n:=by
  rw [List.take_append_drop,List.take_append_drop]
 have hap2:SD.Pairwise fun a b=>¬(a.leg=b.leg∧a.dep=b.dep):=(hp.pairwise_iff fun {x y} hxy e=>hxy ⟨e.1.symm,e.2.symm⟩).2 (planL_apart hap)
 refine ⟨⟨fun i hi=>⟨?_,fun h0=>?_⟩,fun p t=>?_⟩, ?_⟩
 ·obtain ⟨c,hc,e1,e2,e3,e4,e5⟩:=planL_mem n2 (hp.mem_iff.1 (za9 hi))
  refine ⟨c.1, ?_,by omega,e5⟩
  unfold keyL
  rw [e1,e2,e3]
  exact hleg c hc
 ·have h1:=List.pairwise_iff_getElem.1 hpw (i-1) i (by omega) hi (by omega)
  have h2:=List.pairwise_iff_getElem.1 hap2 (i-1) i (by omega) hi (by omega)
  have g1:=zGl (show i-1<SD.length by omega)
  have g2:=zGl hi
  rw [←g1,←g2] at h1 h2
  unfold ldLt at h1⊢
  omega
 ·unfold allCh
  rw [zcg,balC_perm (hp.flatMap_right _)]
  by_cases hpt:p=to
  ·have h1:=bal_srcCh (p:=p) (t:=t) hs
   have h2:0≤balC p t ((zb1 C (l.drop n)).flatMap (ldCh C)):=by
    have key:∀M:List Ld,(∀x∈M,0≤x.gr∧(legD C x).frm≠to)→0≤balC p t (M.flatMap (ldCh C)):=fun M=>by
     induction M with
     | nil=>intro _;exact Int.le_refl _
     | cons x M ih=>
       intro hM
       have:=hM x List.mem_cons_self
       have ih:=ih fun y hy=>hM y (List.mem_cons_of_mem _ hy)
       rw [List.flatMap_cons,zcg]
       unfold ldCh at ih⊢
       simp only [balC]
       rw [if_neg fun e=>this.2 (e.1.trans hpt)]
       split<;>omega
    refine key _ fun x hx=>?_
    obtain ⟨c,hc,e1,e2,e3,e4,e5⟩:=planL_mem n2 hx
    refine ⟨by omega, ?_⟩
    have:legD C x=c.1:=by
     unfold legD keyL
     rw [e1,e2,e3]
     have:=hleg c hc
     unfold keyD at this
     rw [this];rfl
    rw [this];exact hfrm c hc
   omega
  ·have h1:=way_net (t:=t) hpt hleg (C:=C) (X:=l.drop n) (fun c hc=>hc) (fun c hc=>⟨h.from' c hc,h.dest c hc⟩) n2
   have h2:=src_net (t:=t) hpt hs h.src n4
   have h3:=chain_net (p:=p) (t:=t) h n3
   have h4:=hf.inner (S:=upPl PL p t) rfl rfl
   rw [el,net_app,net_app] at h4
   omega
 ·have h1:=chain_exc n3
  have h2:=src_exc hs n4
  have h3:=way_exc hleg (C:=C) (X:=l.drop n) (fun c hc=>hc) hfrm n2
  have h4:arrL C to SD=arrL C to (zb1 C (l.drop n)):=by
   have key:∀{a b:List Ld},a.Perm b→arrL C to a=arrL C to b:=fun {a b} h=>by
    induction h with
    | nil=>rfl
    | cons x h ih=>rw [arrL,arrL,ih]
    | swap x y l=>simp only [arrL];omega
    | trans h1 h2 i1 i2=>exact i1.trans i2
   exact key hp
  rw [el,exc_app,exc_app,h1,h4]
  omega
end
end Go.Flow
namespace Go.Proofs.Ytohnaffmcjbpoaa.Fn
open Go.AM Go.AM.Sym Go.Net Go.Flow
structure BN (fr:Nat→Value) (v2 v3 v5 v9 v12 v14 v15 v16 v17 v18:Value):Prop where
 f2:fr 2=v2
 f3:fr 3=v3
 f5:fr 5=v5
 f9:fr 9=v9
 f12:fr 12=v12
 f14:fr 14=v14
 f15:fr 15=v15
 f16:fr 16=v16
 f17:fr 17=v17
 f18:fr 18=v18
section
variable {H:zH} {pp pl ps pt q:Option Addr} {P V:List Int} {L:List Leg} {s:List Flow.Src} {cp cl cs ct nq cq:Nat} {to dl:Int}
end
theorem legs_apart {P:List Int} {L:List Leg} (h:zac P L=0):L.Pairwise fun a b=>a.id≠b.id:=by
 have hL:=(validN_0 h).2.2.2
 rw [List.pairwise_iff_getElem]
 intro i j hi hj hij e
 have:=(hL j hj).2.1
 rw [zGl hj,←e] at this
 exact this (List.mem_map.2 ⟨L[i],List.mem_take_iff_getElem.2 ⟨i,by omega,rfl⟩,rfl⟩)
section
variable {P:List Int} {L:List Leg} {s:List Flow.Src} {to dl:Int}
theorem plan_half (ha:zAn P L s to dl=0) {v:Int} {T:Int→Option Int} (hb:BestC s (zCc L to dl) to dl T v) {SD:List Flow.Ld} {SL:List (Int×Int)} {l:List Pr} (hp:SD.Perm (zb1 (zCc L to dl) (l.drop (zCp SL 2++srcP SL to dl s).length))) (hpw:SD.Pairwise fun x y=>¬ldLt y x) (hPO:PlanOf P L s to dl SL l):goodL (zCc L to dl) s SD∧mostN s (zCc L to dl) to dl≤arrS to dl s+arrL (zCc L to dl) to SD:=by
 have hA:=zco ha
 have hv:=zcn ha
 obtain ⟨h1,h2⟩:=plan_good hPO.pl (fun x hx=>(hA.src x hx).2.2.2.1) (fun c hc=>by
  have:=hA.net.fine _ (zav hc).1
  unfold Fine at this;omega) (keyD_uniq hv) (countC_apart (legs_apart hv)) hPO.al hPO.fl hp hpw
 rw [hPO.val] at h2
 exact ⟨h1,by omega⟩
end
end Go.Proofs.Ytohnaffmcjbpoaa.Fn

namespace Go.Flow
open Go.AM Go.Net
def leg2:Leg:=⟨1,1,2,600,60,0,100,127⟩
def P2:List Int:=[1,2]
def L2:List Leg:=[leg2]
def s2:List Src:=[⟨1,0,250⟩]
def T2:Int→Option Int:=fun p=>if p=1 then some 0 else none
theorem c660:zCc L2 2 660=[(leg2,600)]:=by decide
theorem c2100:zCc L2 2 2100=[(leg2,600),(leg2,2040)]:=by decide
theorem c3540:zCc L2 2 3540=[(leg2,600),(leg2,2040),(leg2,3480)]:=by decide
theorem wS2 {U:Int→Option Int} {dl:Int} (h:0≤dl):wS U dl s2=if late U 1 0=true then 250 else 0:=by
 show (if (0:Int)≤dl∧late U 1 0=true then (250:Int) else 0)+0=_
 by_cases hl:late U 1 0=true
 ·rw [if_pos ⟨h,hl⟩,if_pos hl];rfl
 ·rw [if_neg fun q=>hl q.2,if_neg hl];rfl
theorem tC2 {U:Int→Option Int} {a:Int} (hU:U 2=none):tC U (leg2,a)=if late U 1 a=false then 100 else 0:=by
 have h2:late U 2 (a+60)=true:=by unfold late;rw [hU]
 show (if late U 1 (a-0)=false∧late U 2 (a+60)=true then (100:Int) else 0)=_
 rw [Int.sub_zero]
 by_cases hl:late U 1 a=false
 ·rw [if_pos ⟨hl,h2⟩,if_pos hl]
 ·rw [if_neg fun q=>hl q.1,if_neg hl]
theorem late_no {U:Int→Option Int} {a:Int} (h:¬late U 1 0=true) (ha:0≤a):late U 1 a=false∧∃u,U 1=some u∧u≤0:=by
 unfold late at *
 cases hu:U 1 with
 | none=>rw [hu] at h;simp at h
 | some u=>
   rw [hu] at h
   simp only [decide_eq_true_eq] at h
   exact ⟨by simp;omega,u,rfl,by omega⟩
theorem best660:BestC s2 (zCc L2 2 660) 2 660 T2 100:=by
 have hw:∀U:Int→Option Int,U 2=none→wt U s2 (zCc L2 2 660) 660=(if late U 1 0=true then 250 else 0)+(if late U 1 600=false then 100 else 0):=fun U hU=>by
  unfold wt
  rw [wS2 (by decide),c660,wC_cons,tC2 hU]
  show _+(_+0)=_
  omega
 refine ⟨by decide,fun U hU=>?_,by decide,fun U hU h p t hp=>?_⟩
 ·rw [hw U hU]
  by_cases hl:late U 1 0=true
  ·rw [if_pos hl];split<;>omega
  ·rw [if_neg hl,if_pos (late_no hl (by decide)).1];omega
 ·rw [hw U hU] at h
  unfold T2 at hp
  split at hp
  ·rename_i e
   cases hp
   rw [e]
   by_cases hl:late U 1 0=true
   ·rw [if_pos hl] at h;split at h<;>omega
   ·exact (late_no hl (by decide:(0:Int)≤600)).2
  ·cases hp
theorem best2100:BestC s2 (zCc L2 2 2100) 2 2100 T2 200:=by
 have hw:∀U:Int→Option Int,U 2=none→wt U s2 (zCc L2 2 2100) 2100=(if late U 1 0=true then 250 else 0)+((if late U 1 600=false then 100 else 0)+(if late U 1 2040=false then 100 else 0)):=fun U hU=>by
  unfold wt
  rw [wS2 (by decide),c2100,wC_cons,wC_cons,tC2 hU,tC2 hU]
  show _+(_+(_+0))=_
  omega
 refine ⟨by decide,fun U hU=>?_,by decide,fun U hU h p t hp=>?_⟩
 ·rw [hw U hU]
  by_cases hl:late U 1 0=true
  ·rw [if_pos hl];split<;>split<;>omega
  ·rw [if_neg hl,if_pos (late_no hl (by decide)).1,if_pos (late_no hl (by decide)).1];omega
 ·rw [hw U hU] at h
  unfold T2 at hp
  split at hp
  ·rename_i e
   cases hp
   rw [e]
   by_cases hl:late U 1 0=true
   ·rw [if_pos hl] at h;split at h<;>split at h<;>omega
   ·exact (late_no hl (by decide:(0:Int)≤600)).2
  ·cases hp
theorem best3540:BestC s2 (zCc L2 2 3540) 2 3540 noT 250:=by
 have hw:∀U:Int→Option Int,U 2=none→wt U s2 (zCc L2 2 3540) 3540=(if late U 1 0=true then 250 else 0)+((if late U 1 600=false then 100 else 0)+((if late U 1 2040=false then 100 else 0)+(if late U 1 3480=false then 100 else 0))):=fun U hU=>by
  unfold wt
  rw [wS2 (by decide),c3540,wC_cons,wC_cons,wC_cons,tC2 hU,tC2 hU,tC2 hU]
  show _+(_+(_+(_+0)))=_
  omega
 refine ⟨rfl,fun U hU=>?_,by decide,fun U hU h p t hp=>by cases hp⟩
 rw [hw U hU]
 by_cases hl:late U 1 0=true
 ·rw [if_pos hl];split<;>split<;>split<;>omega
 ·rw [if_neg hl,if_pos (late_no hl (by decide)).1,if_pos (late_no hl (by decide)).1,if_pos (late_no hl (by decide)).1];omega
def both2:List Ld:=[⟨1,600,660,100⟩,⟨1,2040,2100,100⟩]
theorem cut2100:cutL T2 (zCc L2 2 2100)=both2:=by decide
theorem cut3540:cutL noT (zCc L2 2 3540)=[]:=by decide
theorem plan2100 {SD:List Ld} (hl:SD.length≤2) (h:goodL (zCc L2 2 2100) s2 SD) (ha:200≤arrS 2 2100 s2+arrL (zCc L2 2 2100) 2 SD):SD=both2:=by
 have e0:arrS 2 2100 s2=0:=by decide
 rw [e0,Int.zero_add] at ha
 have hx:∀i,i<SD.length→(legD (zCc L2 2 2100) (gt SD i)).dst=2∧(gt SD i).gr≤100∧(keyL (gt SD i)=(1,600,660)∨keyL (gt SD i)=(1,2040,2100)):=fun i hi=>by
  obtain ⟨⟨lg,h1,h2,h3⟩,_⟩:=h.1 i hi
  obtain ⟨c,k1,k2,k3⟩:=zck h1
  have hlg:legD (zCc L2 2 2100) (gt SD i)=lg:=by unfold legD;rw [h1];rfl
  rw [c2100] at k1
  simp only [List.mem_cons,List.not_mem_nil,or_false] at k1
  rw [hlg]
  rcases k1 with rfl | rfl
  ·subst k3
   exact ⟨rfl,h3,.inl k2.symm⟩
  ·subst k3
   exact ⟨rfl,h3,.inr k2.symm⟩
 match SD,hl,h,ha,hx with
 | [],_,_,ha,_=>exact absurd ha (by decide)
 | [x],_,_,ha,hx=>
   obtain ⟨h1,h2,_⟩:=hx 0 (by simp)
   change (legD _ x).dst=2 at h1
   change x.gr≤100 at h2
   rw [arrL,if_pos h1] at ha
   change 200≤x.gr+0 at ha
   omega
 | [x,y],_,h,ha,hx=>
   obtain ⟨h1,h2,h3⟩:=hx 0 (by simp)
   obtain ⟨g1,g2,g3⟩:=hx 1 (by simp)
   change (legD _ x).dst=2 at h1
   change x.gr≤100 at h2
   change (legD _ y).dst=2 at g1
   change y.gr≤100 at g2
   change keyL x=_∨keyL x=_ at h3
   change keyL y=_∨keyL y=_ at g3
   rw [arrL,if_pos h1,arrL,if_pos g1] at ha
   change 200≤x.gr+(y.gr+0) at ha
   have hlt:ldLt x y:=(h.1 1 (by simp)).2 (by decide)
   obtain ⟨xl,xd,xa,xg⟩:=x
   obtain ⟨yl,yd,ya,yg⟩:=y
   unfold keyL at h3 g3
   unfold ldLt at hlt
   simp only [Prod.mk.injEq] at h3 g3
   simp only at hlt h2 g2 ha
   unfold both2
   simp only [List.cons.injEq,Ld.mk.injEq,and_true]
   omega
end Go.Flow

namespace Go.Proofs.Ytohnaffmcjbpoaa.Fn
open Go.AM Go.AM.Sym Go.Net Go.Flow
theorem daily_ok [OB] {lim:Nat} {a b c d e f g:Int} {H:zH} {Q:Value→zH→Prop} (hlim:lim≤H.length) (hQ:∀Z,Q (.agg (encL ⟨a,b,c,d,e,f,g,127⟩).toArray) (H++Z)):za0 E false lim 42 [.int .i64 a,.int .i64 b,.int .i64 c,.int .i64 d,.int .i64 e,.int .i64 f,.int .i64 g] H Q:=by
 refine runs' (by decide) e42 rfl ?_
 rw [b42,c42]
 simp only [n42,r42,encL,hlim,zSa,SB,seval,zCa,aOp,zB,aUn,reduceCtorEq,zFr,place,zTu,zRe]
 exact hQ _
theorem two_ok [OB] {lim:Nat} {H:zH} {Q:Value→zH→Prop} (hlim:lim≤H.length) (hQ:∀H' a b,Ext H H'→NetIn H' a b P2 L2→Q (.agg (netV a P2.length 2 b L2.length 1).toArray) H'):za0 E false lim 25 [] H Q:=by
 refine runs' (by decide) e25 rfl ?_
 rw [b25,c25]
 simp only [n25,r25,hlim,SB,seval,zCa,aOp,zB,aUn,reduceCtorEq,zFr,place,zTu,zRe]
 refine daily_ok (by simp;omega) fun Z=>?_
 obtain ⟨G,hG⟩:∃G,G=H++[Blk.cells false [.slice none 0 0,.slice none 0 0],Blk.cells false [.int .i64 1,.int .i64 2]]++Z:=⟨_,rfl⟩
 have b0:zG G H.length=.cells false [.slice none 0 0,.slice none 0 0]:=by rw [hG,List.append_assoc];exact zHn
 have b1:zG G (H.length+1)=.cells false [.int .i64 1,.int .i64 2]:=by rw [hG,List.append_assoc];exact zHw
 have hE:Ext H G:=by rw [hG,List.append_assoc];exact Ext.refl.app
 have hl:=zHa b1
 rw [←hG]
 clear hG
 obtain ⟨G2,e2,k2,m2⟩:=za3 (zHa b0) (.cells false [.slice (some ⟨H.length+1,0,none⟩) 2 2,.slice (some ⟨G.length,0,none⟩) 1 1])
 have b0X:=fun Z=>(Ext.refl.app (X:=Z)).cells b0
 have k2X:=fun Z=>(Ext.refl.app (X:=Z)).cells k2
 refine zRp ?_
 simp only [n25,r25,encL,zSa,hlim,b0X,e2,k2X,SB,seval,zCa,aOp,zB,aUn,reduceCtorEq,zFr,place,zTu,zRe]
 have hl2:=m2.len
 refine hQ _ (some ⟨H.length+1,0,none⟩) (some ⟨G.length,0,none⟩) ((m2.ext hE (Nat.le_refl _)).app) ⟨Sl.row (ro:=false) zIl (by rw [zHo (by omega)];exact m2.cells b1 (by omega)),Sl.row (ro:=false) zLl (by rw [←hl2,zHn];rfl),by decide,by decide, ?_⟩
 intro l hl
 simp only [L2,List.mem_cons,List.not_mem_nil,or_false] at hl
 subst hl
 unfold By;decide
theorem al2:∀j,j<3→zAn P2 L2 s2 2 (gt [660,2100,3540] j)=0∧mostA P2 L2 s2 2 (gt [660,2100,3540] j)=gt [100,200,250] j:=fun j hj=>by
 rcases (by omega:j=0∨j=1∨j=2) with rfl | rfl | rfl
 ·have h:zAn P2 L2 s2 2 660=0:=by decide
  exact ⟨h,(if_pos h).trans (zc0 best660).1.symm⟩
 ·have h:zAn P2 L2 s2 2 2100=0:=by decide
  exact ⟨h,(if_pos h).trans (zc0 best2100).1.symm⟩
 ·have h:zAn P2 L2 s2 2 3540=0:=by decide
  exact ⟨h,(if_pos h).trans (zc0 best3540).1.symm⟩
theorem A2100:zAn P2 L2 s2 2 2100=0:=by decide
theorem A3540:zAn P2 L2 s2 2 3540=0:=by decide
theorem awake_go [OB] {mp:Bool} {lim:Nat} {H:zH} {Q:Value→zH→Prop} (hoff:OB.on 9=false):za0 E mp lim 9 [] H Q=Q (.bool true) H:=by
 refine CallR_pure (E:=E) (by simp [E,orc,hoff]) (show E.tr 9=some a9 from e9) rfl rfl (zRp ?_)
 rw [b9,c9]
 simp only [n9,r9,SB,seval,zCa,aOp,zB,aUn,reduceCtorEq,zFr,place,zTu,zRe]
 refine zRr (fun j=>3-j) (fun j fr G=>j≤3∧fr 1=.slice (some ⟨H.length,0,none⟩) 1 1∧fr 17=.slice (some ⟨H.length+1,0,none⟩) 3 3∧fr 18=.int .i64 3∧fr 19=.int .i64 (j:Int)∧H.length+2≤G.length∧zG G H.length=.cells false (s2.flatMap encS)∧zG G (H.length+1)=.cells false ([660,2100,3540].flatMap encI)) 0 ⟨by decide,(by rfl),(by rfl),(by rfl),by rfl,by simp,zHn,zHw⟩ ?_
 intro j fr G ⟨hj,f1,f17,f18,f19,hlG,hs1,hs17⟩ hN
 rw [zRc l9_1.eq_1]
 refine zRp ?_
 by_cases hlt:j<3
 case pos=>
  obtain ⟨ha,hm⟩:=al2 j hlt
  have sT:Sl G encI 1 (some ⟨H.length+1,0,none⟩) [660,2100,3540]:=Sl.row (ro:=false) zIl hs17
  have lT:=zdw sT hlt
  have xT:=ix_ints sT hlt rfl
  have hjc:(j:Int)<3:=by omega
  have w1:IntKind.i64.wrap ((j:Int)+1)=((j+1:Nat):Int):=zWn (by omega)
  simp only [n9,r9,f1,f17,f18,f19,eq_true hjc,lT,xT,SB,seval,zCa,aOp,zB,aUn,reduceCtorEq,zFr,place,zTu,zRe]
  rw [List.append_nil]
  refine two_ok (by omega) fun G1 a b hE hn=>?_
  have hl1:=hE.len
  have s1:Sl G1 encS 3 (some ⟨H.length,0,none⟩) s2:=hE.sl (Sl.row (ro:=false) zEl hs1)
  have hmo:=fun Z (mp:Bool) (lim:Nat) (Q:Value→zH→Prop)=>most_ok (mp:=mp) (lim:=lim) (cp:=2) (cl:=1) (cs:=1) (to:=2) (dl:=gt [660,2100,3540] j) (Q:=Q) (hn.app Z) (s1.app Z) (by decide) fun _=>by decide
  rw [hm,ha] at hmo
  have sA:Sl (G1++[Blk.cells false [.int .i64 100,.int .i64 200,.int .i64 250]]) encI 1 (some ⟨G1.length,0,none⟩) [100,200,250]:=Sl.row (ro:=false) zIl zHn
  have lA:=zdw (i:=j) sA hlt []
  rw [List.append_nil] at lA
  have xA:=ix_ints (i:=j) (n:=3) sA hlt rfl
  simp only [show s2.length=1 from rfl] at hmo
  have hmo0:=hmo []
  rw [List.append_nil] at hmo0
  simp only [n9,r9,f1,f17,f18,f19,hmo0,lA,xA,w1,SB,seval,zCa,aOp,zB,aUn,reduceCtorEq,zFr,place,zTu,zRe]
  refine hN (j+1) _ _ ⟨by omega,by exact f1,by exact f17,by exact f18,(by rfl),by simp;omega,(hE.app).cells hs1,(hE.app).cells hs17⟩ (by omega)
 obtain rfl:j=3:=by omega
 simp only [n9,r9,f1,f17,f18,f19,SB,seval,zCa,aOp,zB,aUn,reduceCtorEq,zFr,place,zTu,zRe]
 refine two_ok (by simp;omega) fun G1 a1 b1 hE1 hn1=>?_
 have hl1:=hE1.len
 simp only [List.length_append,List.length_cons,List.length_nil] at hl1
 have s1:Sl G1 encS 3 (some ⟨H.length,0,none⟩) s2:=hE1.sl ((Sl.row (ro:=false) zEl hs1).app _)
 have d1:Sl G1 encD 4 (some ⟨G.length,0,none⟩) both2:=hE1.sl (Sl.row (ro:=false) zDl zHn)
 clear hE1
 refine zRp ?_
 simp only [n9,r9,f1,SB,seval,zCa,aOp,zB,aUn,reduceCtorEq,zFr,place,zTu,zRe]
 refine plan_ok (s:=s2) (hn1.app _) (s1.app _) (by decide) (by simp;omega) A2100 fun G2 q2 cq2 SD SL l hO hp hpw hPO hC2=>?_
 obtain ⟨hgo,hge⟩:=plan_half A2100 best2100 hp hpw hPO
 rw [←(zc0 best2100).1] at hge
 have hSD:SD=both2:=plan2100 (by rw [hp.length_eq];refine Nat.le_trans planL_len ?_;decide) hgo hge
 have hck:checkV P2 L2 s2 2 2100 SD=(200,true):=by
  rw [checkV_yes A2100 hgo,hSD]
  rw [show arrS 2 2100 s2+arrL (zCc L2 2 2100) 2 both2=200 by decide]
 subst hSD
 have hl2:=hC2.len
 simp only [List.length_append,List.length_cons,List.length_nil] at hl2
 have q2S:=hO.sl zDl
 have s2S:=hC2.sl (s1.app _) fun _ _ _=>by simp
 have d2S:=hC2.sl (d1.app _) fun _ _ _=>by simp
 clear hO hp hpw hPO hC2 hgo hge s1 d1 hn1
 refine zRp ?_
 simp only [n9,r9,f1,SB,seval,zCa,aOp,zB,aUn,reduceCtorEq,zFr,place,zTu,zRe]
 refine two_ok (by simp;omega) fun G3 a3 b3 hE3 hn3=>?_
 have hl3:=hE3.len
 simp only [List.length_append,List.length_cons,List.length_nil] at hl3
 have q3S:=hE3.sl (q2S.app _)
 have s3S:=hE3.sl (s2S.app _)
 have d3S:=hE3.sl (d2S.app _)
 clear hE3 q2S s2S d2S
 have hcm:=fun Z (mp:Bool) (lim:Nat) (Q:Value→zH→Prop)=>check_ok (mp:=mp) (lim:=lim) (Q:=Q) (cp:=2) (cl:=1) (cs:=1) (c4:=cq2) (to:=2) (dl:=2100) (hn3.app Z) (s3S.app Z) (by decide) (q3S.app Z) (by decide) fun _=>by decide
 simp only [hck,show s2.length=1 from rfl] at hcm
 refine zRp ?_
 simp only [n9,r9,f1,hcm,SB,seval,zCa,aOp,zB,aUn,reduceCtorEq,zFr,place,zTu,zRe]
 refine two_ok (by simp;omega) fun G4 a4 b4 hE4 hn4=>?_
 have hl4:=hE4.len
 simp only [List.length_append,List.length_cons,List.length_nil] at hl4
 have q4S:=hE4.sl (q3S.app _)
 have s4S:=hE4.sl (s3S.app _)
 have d4S:=hE4.sl (d3S.app _)
 clear hE4 q3S s3S d3S hcm hn3
 refine zRp ?_
 simp only [n9,r9,f1,SB,seval,zCa,aOp,zB,aUn,reduceCtorEq,zFr,place,zTu,zRe]
 refine bind_ok (s:=s2) (hn4.app _) (s4S.app _) (by decide) (by decide) (by simp;omega) A2100 fun G5 pt5 ct5 q5 c5 SD5 hOt5 hOq5 hp5 hpw5 hC5=>?_
 simp only [List.length_append,List.length_cons,List.length_nil] at hOt5 hOq5
 have hSD5:SD5=both2:=by
  rw [←(zc0 best2100).2,cut2100] at hp5
  exact sorted_uniq hp5 hpw5 (by decide) fun x hx y hy hd _=>by
   have h1:=hp5.mem_iff.1 hx
   have h2:=hp5.mem_iff.1 hy
   simp only [both2,List.mem_cons,List.not_mem_nil,or_false] at h1 h2
   rcases h1 with rfl | rfl<;>rcases h2 with rfl | rfl<;>first | rfl | exact absurd hd (by decide)
 subst hSD5
 rw [←(zc0 best2100).2,show timesT T2 P2=[0,-1] by decide] at hOt5
 have hl5:=hC5.len
 simp only [List.length_append,List.length_cons,List.length_nil] at hl5
 have t5S:=hOt5.sl zIl
 have p5S:=hOq5.sl zDl
 have q5S:=hC5.sl (q4S.app _) fun _ _ _=>by simp
 have s5S:=hC5.sl (s4S.app _) fun _ _ _=>by simp
 have d5S:=hC5.sl (d4S.app _) fun _ _ _=>by simp
 clear hOt5 hOq5 hp5 hpw5 hC5 q4S s4S d4S hn4
 refine zRp ?_
 simp only [n9,r9,f1,zSa,show H.length≤G5.length by omega,SB,seval,zCa,aOp,zB,aUn,reduceCtorEq,zFr,place,zTu,zRe]
 refine two_ok (by simp;omega) fun G6 a6 b6 hE6 hn6=>?_
 have hl6:=hE6.len
 simp only [List.length_append,List.length_cons,List.length_nil] at hl6
 have k6:zG G6 G5.length=.cells false [.slice pt5 2 ct5,.slice q5 2 c5]:=hE6.cells zHn
 have k6X:=fun Z=>(Ext.refl.app (X:=Z)).cells k6
 have t6S:=hE6.sl (t5S.app _)
 have p6S:=hE6.sl (p5S.app _)
 have q6S:=hE6.sl (q5S.app _)
 have s6S:=hE6.sl (s5S.app _)
 have d6S:=hE6.sl (d5S.app _)
 clear hE6 t5S p5S q5S s5S d5S
 refine zRp ?_
 simp only [n9,r9,f1,SB,seval,zCa,aOp,zB,aUn,reduceCtorEq,zFr,place,zTu,zRe]
 refine bind_ok (s:=s2) (hn6.app _) (s6S.app _) (by decide) (by decide) (by simp;omega) A3540 fun G7 pt7 ct7 q7 c7 SD7 hOt7 hOq7 hp7 hpw7 hC7=>?_
 simp only [List.length_append,List.length_cons,List.length_nil] at hOt7 hOq7
 have hSD7:SD7=[]:=by
  rw [←(zc0 best3540).2,cut3540] at hp7
  exact hp7.eq_nil
 subst hSD7
 rw [←(zc0 best3540).2,show timesT noT P2=[-1,-1] by decide] at hOt7
 have hl7:=hC7.len
 simp only [List.length_append,List.length_cons,List.length_nil] at hl7
 have k7:zG G7 G5.length=.cells false [.slice pt5 2 ct5,.slice q5 2 c5]:=hC7.cells ((Ext.refl.app).cells k6) (by simp)
 have k7X:=fun Z=>(Ext.refl.app (X:=Z)).cells k7
 have t7S:=hC7.sl (t6S.app _) fun _ _ _=>by simp
 have p7S:=hC7.sl (p6S.app _) fun _ _ _=>by simp
 have q7S:=hC7.sl (q6S.app _) fun _ _ _=>by simp
 have d7S:=hC7.sl (d6S.app _) fun _ _ _=>by simp
 have u7S:=hOt7.sl zIl
 clear hOt7 hOq7 hp7 hpw7 hC7 t6S p6S q6S s6S d6S hn6
 have hm1:∀Z mp lim Q,za0 E mp lim 24 [.slice q2 both2.length cq2,.slice (some ⟨G.length,0,none⟩) 2 2] (G7++Z) Q=Q (.bool true) (G7++Z):=fun Z mp lim Q=>(same_ok (ca:=cq2) (cb:=2) (q7S.app Z) (d7S.app Z) (by decide)).trans (by rw [decide_eq_true rfl])
 have hm2:∀Z mp lim Q,za0 E mp lim 24 [.slice q5 2 c5,.slice (some ⟨G.length,0,none⟩) 2 2] (G7++Z) Q=Q (.bool true) (G7++Z):=fun Z mp lim Q=>(same_ok (ca:=c5) (cb:=2) (p7S.app Z) (d7S.app Z) (by decide)).trans (by rw [decide_eq_true rfl])
 refine zRp ?_
 simp only [n9,r9,f1,zSa,show H.length≤G7.length by omega,hm1,hm2,k7X,SB,seval,zCa,aOp,zB,aUn,reduceCtorEq,zFr,place,zTu,zRe]
 rw [show za0 E false H.length 23 [.slice pt5 2 ct5,.slice (some ⟨G7.length+1,0,none⟩) 2 2] (G7++[Blk.cells false [.slice pt7 P2.length ct7,.slice q7 0 c7],Blk.cells false [.int .i64 0,.int .i64 (-1)]]) _=_ from sameints_ok (a:=[0,-1]) (b:=[0,-1]) (ca:=ct5) (cb:=2) (t7S.app _) (Sl.row (ro:=false) zIl zHw) (by decide),decide_eq_true rfl]
 simp only [n9,r9,f1,zSa,show H.length≤G7.length by omega,hm2,k7X,SB,seval,zCa,aOp,zB,aUn,reduceCtorEq,zFr,place,zTu,zRe]
 rw [show za0 E false H.length 23 [.slice pt7 P2.length ct7,.slice (some ⟨G7.length+2,0,none⟩) 2 2] (G7++[Blk.cells false [.slice pt7 P2.length ct7,.slice q7 0 c7],Blk.cells false [.int .i64 0,.int .i64 (-1)],Blk.cells false [.int .i64 (-1),.int .i64 (-1)]]) _=_ from sameints_ok (a:=[-1,-1]) (b:=[-1,-1]) (ca:=ct7) (cb:=2) (u7S.app _) (Sl.row (ro:=false) zIl (zHw (j:=2))) (by decide),decide_eq_true rfl]
 simp only [n9,r9,f1,zSa,show H.length≤G7.length by omega,k7X,SB,seval,zCa,aOp,zB,aUn,reduceCtorEq,zFr,place,zTu,zRe]
end Go.Proofs.Ytohnaffmcjbpoaa.Fn

namespace Go.Proofs.Ytohnaffmcjbpoaa.Fn
open Go.AM Go.AM.Sym Go.Net
theorem plants_iffR {P:List Int}:zbn P↔(∀p∈P,1≤p∧p≤999999)∧P.Nodup:=by
 constructor
 ·intro h
  refine ⟨fun p hp=>?_, ?_⟩
  ·obtain ⟨i,hi,rfl⟩:=List.mem_iff_getElem.1 hp
   have:=h i hi
   unfold pOk at this
   rw [zGl hi] at this
   exact ⟨this.1,this.2.1⟩
  ·unfold List.Nodup
   rw [List.pairwise_iff_getElem]
   intro i j hi hj hij e
   have h2:=(h j hj).2.2
   rw [zGl hj] at h2
   exact h2 (List.mem_take_iff_getElem.2 ⟨i,by omega,e⟩)
 ·rintro ⟨h1,h2⟩ i hi
  unfold pOk
  rw [zGl hi]
  refine ⟨(h1 _ (List.getElem_mem hi)).1,(h1 _ (List.getElem_mem hi)).2,fun hm=>?_⟩
  obtain ⟨j,hj,e⟩:=List.mem_take_iff_getElem.1 hm
  unfold List.Nodup at h2
  rw [List.pairwise_iff_getElem] at h2
  exact h2 j i (by omega) hi (by omega) e
theorem in_ok [OB] {mp:Bool} {lim:Nat} {n a b:Int} {H:zH} {Q:Value→zH→Prop}:za0 E mp lim 65 [.int .i64 n,.int .i64 a,.int .i64 b] H Q=Q (.bool (decide (a≤n∧n≤b))) H:=by
 refine pc (by decide) e65 rfl rfl ?_
 rw [b65,c65]
 by_cases h1:a≤n
 ·simp only [n65,r65,eq_true h1,SB,Nat.reduceLT,zCa,aOp,Nat.reduceEqDiff,zB,aUn,reduceCtorEq,zFr,place,zTu,Nat.reduceAdd,Nat.reduceLeDiff,zRe,Int.reduceEq,Int.reduceLT,Int.reduceLE]
 ·simp only [n65,r65,eq_false h1,SB,Nat.reduceLT,zCa,aOp,Nat.reduceEqDiff,zB,aUn,reduceCtorEq,zFr,place,zTu,Nat.reduceAdd,Nat.reduceLeDiff,zRe,Int.reduceEq,Int.reduceLT,Int.reduceLE]
theorem rright_ok [OB] {mp:Bool} {lim:Nat} {l:Leg} {H:zH} {Q:Value→zH→Prop} (hd:By l):za0 E mp lim 67 [.agg (encL l).toArray] H Q=Q (.bool (decide (Fine l))) H:=by
 refine pc (by decide) e67 rfl rfl ?_
 rw [b67,c67]
 have no:¬Fine l→decide (Fine l)=false:=fun h=>decide_eq_false h
 by_cases h1:1≤l.id∧l.id≤999999
 case neg=>simp only [n67,r67,zLl,zL0,zL1,zL2,zL3,zL4,zL5,zL6,zL7,zTa,in_ok,decide_eq_false h1,no (fun h=>h1 (by unfold Fine at h;omega)),SB,Nat.reduceLT,zCa,aOp,Nat.reduceEqDiff,zB,aUn,reduceCtorEq,zFr,place,zTu,Nat.reduceAdd,Nat.reduceLeDiff,zRe,Int.reduceEq,Int.reduceLT,Int.reduceLE]
 by_cases h2:1≤l.frm∧l.frm≤999999
 case neg=>simp only [n67,r67,zLl,zL0,zL1,zL2,zL3,zL4,zL5,zL6,zL7,zTa,in_ok,decide_eq_true h1,decide_eq_false h2,no (fun h=>h2 (by unfold Fine at h;omega)),SB,Nat.reduceLT,zCa,aOp,Nat.reduceEqDiff,zB,aUn,reduceCtorEq,zFr,place,zTu,Nat.reduceAdd,Nat.reduceLeDiff,zRe,Int.reduceEq,Int.reduceLT,Int.reduceLE]
 by_cases h3:1≤l.dst∧l.dst≤999999
 case neg=>simp only [n67,r67,zLl,zL0,zL1,zL2,zL3,zL4,zL5,zL6,zL7,zTa,in_ok,decide_eq_true h1,decide_eq_true h2,decide_eq_false h3,no (fun h=>h3 (by unfold Fine at h;omega)),SB,Nat.reduceLT,zCa,aOp,Nat.reduceEqDiff,zB,aUn,reduceCtorEq,zFr,place,zTu,Nat.reduceAdd,Nat.reduceLeDiff,zRe,Int.reduceEq,Int.reduceLT,Int.reduceLE]
 by_cases h4:l.frm=l.dst
 ·simp only [n67,r67,zLl,zL0,zL1,zL2,zL3,zL4,zL5,zL6,zL7,zTa,in_ok,decide_eq_true h1,decide_eq_true h2,decide_eq_true h3,eq_true h4,no (fun h=>by unfold Fine at h;omega),SB,Nat.reduceLT,zCa,aOp,Nat.reduceEqDiff,zB,aUn,reduceCtorEq,zFr,place,zTu,Nat.reduceAdd,Nat.reduceLeDiff,zRe,Int.reduceEq,Int.reduceLT,Int.reduceLE]
 by_cases h5:0≤l.dep∧l.dep≤1439
 case neg=>simp only [n67,r67,zLl,zL0,zL1,zL2,zL3,zL4,zL5,zL6,zL7,zTa,in_ok,decide_eq_true h1,decide_eq_true h2,decide_eq_true h3,eq_false h4,decide_eq_false h5,no (fun h=>h5 (by unfold Fine at h;omega)),SB,Nat.reduceLT,zCa,aOp,Nat.reduceEqDiff,zB,aUn,reduceCtorEq,zFr,place,zTu,Nat.reduceAdd,Nat.reduceLeDiff,zRe,Int.reduceEq,Int.reduceLT,Int.reduceLE]
 by_cases h6:1≤l.mins∧l.mins≤20160
 case neg=>simp only [n67,r67,zLl,zL0,zL1,zL2,zL3,zL4,zL5,zL6,zL7,zTa,in_ok,decide_eq_true h1,decide_eq_true h2,decide_eq_true h3,eq_false h4,decide_eq_true h5,decide_eq_false h6,no (fun h=>h6 (by unfold Fine at h;omega)),SB,Nat.reduceLT,zCa,aOp,Nat.reduceEqDiff,zB,aUn,reduceCtorEq,zFr,place,zTu,Nat.reduceAdd,Nat.reduceLeDiff,zRe,Int.reduceEq,Int.reduceLT,Int.reduceLE]
 by_cases h7:0≤l.cut∧l.cut≤10080
 case neg=>simp only [n67,r67,zLl,zL0,zL1,zL2,zL3,zL4,zL5,zL6,zL7,zTa,in_ok,decide_eq_true h1,decide_eq_true h2,decide_eq_true h3,eq_false h4,decide_eq_true h5,decide_eq_true h6,decide_eq_false h7,no (fun h=>h7 (by unfold Fine at h;omega)),SB,Nat.reduceLT,zCa,aOp,Nat.reduceEqDiff,zB,aUn,reduceCtorEq,zFr,place,zTu,Nat.reduceAdd,Nat.reduceLeDiff,zRe,Int.reduceEq,Int.reduceLT,Int.reduceLE]
 by_cases h8:0≤l.grams∧l.grams≤1000000000
 case neg=>simp only [n67,r67,zLl,zL0,zL1,zL2,zL3,zL4,zL5,zL6,zL7,zTa,in_ok,decide_eq_true h1,decide_eq_true h2,decide_eq_true h3,eq_false h4,decide_eq_true h5,decide_eq_true h6,decide_eq_true h7,decide_eq_false h8,no (fun h=>h8 (by unfold Fine at h;omega)),SB,Nat.reduceLT,zCa,aOp,Nat.reduceEqDiff,zB,aUn,reduceCtorEq,zFr,place,zTu,Nat.reduceAdd,Nat.reduceLeDiff,zRe,Int.reduceEq,Int.reduceLT,Int.reduceLE]
 by_cases h9:1≤l.days
 case neg=>simp only [n67,r67,zLl,zL0,zL1,zL2,zL3,zL4,zL5,zL6,zL7,zTa,in_ok,decide_eq_true h1,decide_eq_true h2,decide_eq_true h3,eq_false h4,decide_eq_true h5,decide_eq_true h6,decide_eq_true h7,decide_eq_true h8,eq_false h9,no (fun h=>h9 (by unfold Fine at h;omega)),SB,Nat.reduceLT,zCa,aOp,Nat.reduceEqDiff,zB,aUn,reduceCtorEq,zFr,place,zTu,Nat.reduceAdd,Nat.reduceLeDiff,zRe,Int.reduceEq,Int.reduceLT,Int.reduceLE]
 simp only [n67,r67,zLl,zL0,zL1,zL2,zL3,zL4,zL5,zL6,zL7,zTa,in_ok,decide_eq_true h1,decide_eq_true h2,decide_eq_true h3,eq_false h4,decide_eq_true h5,decide_eq_true h6,decide_eq_true h7,decide_eq_true h8,eq_true h9,SB,Nat.reduceLT,zCa,aOp,Nat.reduceEqDiff,zB,aUn,reduceCtorEq,zFr,place,zTu,Nat.reduceAdd,Nat.reduceLeDiff,zRe,Int.reduceEq,Int.reduceLT,Int.reduceLE]
 congr 2
 unfold Fine
 exact propext (by omega)
theorem rhas32_ok [OB] {mp:Bool} {lim c:Nat} {p:Option Addr} {P:List Int} {a:Int} {H:zH} {Q:Value→zH→Prop} (hs:Sl H encI 1 p P) (hn:P.length<2 ^ 62):za0 E mp lim 66 [.slice p P.length c,.int .i64 a] H Q=Q (.int .i64 (P.count a:Int)) H:=by
 refine pc (by decide) e66 rfl rfl ?_
 rw [b66,c66]
 simp only [n66,r66,SB,Nat.reduceLT,zCa,aOp,Nat.reduceEqDiff,zB,aUn,reduceCtorEq,zFr,place,zTu,Nat.reduceAdd,Nat.reduceLeDiff,zRe,Int.reduceEq,Int.reduceLT,Int.reduceLE]
 refine zRr (fun j=>P.length-j) (fun j fr G=>j≤P.length∧fr 0=.slice p P.length c∧fr 1=.int .i64 a∧fr 5=.int .i64 ((P.take j).count a:Int)∧fr 6=.int .i64 (j:Int)∧Ext H G) 0 ⟨Nat.zero_le _,(by rfl),(by rfl),by rfl,by rfl,Ext.refl.app⟩ ?_
 intro j fr G ⟨hj,f0,f1,f5,f6,hE⟩ hN
 rw [zRc l66_1.eq_1]
 refine zRp ?_
 by_cases hlt:j<P.length
 case neg=>
  obtain rfl:j=P.length:=by omega
  rw [List.take_length] at f5
  simp only [n66,r66,f0,f1,f5,f6,hlt,SB,Nat.reduceLT,zCa,aOp,Nat.reduceEqDiff,zB,aUn,reduceCtorEq,zFr,place,zTu,Nat.reduceAdd,Nat.reduceLeDiff,zRe,Int.reduceEq,Int.reduceLT,Int.reduceLE]
 have l1:=fun X=>((hE.sl hs).app X).loadCell0 zIl hlt (by decide)
 simp only [encI,List.getElem?_cons_zero] at l1
 have x1:=fun c (kk:IntKind) (H1:zH)=>(hE.sl hs).idx (c:=c) (k:=kk) (H1:=H1) hlt
 have hw1:IntKind.i64.wrap ((j:Int)+1)=((j+1:Nat):Int):=zWn (by omega)
 have hc:(P.take j).count a≤P.length:=Nat.le_trans List.count_le_length (by rw [List.length_take];omega)
 have hst:(P.take (j+1)).count a=(P.take j).count a+if gt P j=a then 1 else 0:=by
  rw [zad hlt,List.count_append,List.count_cons,List.count_nil];simp
 have hw2:IntKind.i64.wrap (((P.take j).count a:Int)+1)=(((P.take j).count a+1:Nat):Int):=zWn (by omega)
 by_cases he:gt P j=a
 ·rw [if_pos he] at hst
  simp only [n66,r66,f0,f1,f5,f6,hlt,l1,x1,hw1,hw2,eq_true he,SB,Nat.reduceLT,zCa,aOp,Nat.reduceEqDiff,zB,aUn,reduceCtorEq,zFr,place,zTu,Nat.reduceAdd,Nat.reduceLeDiff,zRe,Int.reduceEq,Int.reduceLT,Int.reduceLE]
  exact hN (j+1) _ _ ⟨by omega,by exact f0,by exact f1,by rw [hst];exact (by rfl),(by rfl),hE.app⟩ (by omega)
 ·rw [if_neg he] at hst
  replace hst:(P.take (j+1)).count a=(P.take j).count a:=hst
  simp only [n66,r66,f0,f1,f5,f6,hlt,l1,x1,hw1,eq_false he,SB,Nat.reduceLT,zCa,aOp,Nat.reduceEqDiff,zB,aUn,reduceCtorEq,zFr,place,zTu,Nat.reduceAdd,Nat.reduceLeDiff,zRe,Int.reduceEq,Int.reduceLT,Int.reduceLE]
  exact hN (j+1) _ _ ⟨by omega,by exact f0,by exact f1,by rw [hst];exact (by exact f5),(by rfl),hE.app⟩ (by omega)
theorem plants_count {P:List Int}:zbn P↔∀i,i<P.length→(1≤gt P i∧gt P i≤999999)∧P.count (gt P i)≤1:=by
 rw [plants_iffR,List.nodup_iff_count]
 constructor
 ·rintro ⟨h1,h2⟩ i hi
  exact ⟨h1 _ (za9 hi),h2 _⟩
 ·intro h
  refine ⟨fun p hp=>?_,fun a=>?_⟩
  ·obtain ⟨i,hi,rfl⟩:=List.mem_iff_getElem.1 hp
   rw [←zGl hi];exact (h i hi).1
  ·by_cases ha:a∈P
   ·obtain ⟨i,hi,rfl⟩:=List.mem_iff_getElem.1 ha
    rw [←zGl hi];exact (h i hi).2
   ·rw [List.count_eq_zero_of_not_mem ha];omega
theorem rvalid_inner [OB] {H G:zH} {i R5:Nat} {pp pl:Option Addr} {P:List Int} {L:List Leg} {cp cl:Nat} {fr:Nat→Value} {K:List zAi} {Z:Value→zH→Prop}
  (hn:NetIn G pp pl P L) (hi:i<L.length) (hB:zG G H.length=.cells false (netV pp P.length cp pl L.length cl)) (h5:zG G R5=.cells false (encL (gt L i)))
  (f1:fr 1=.pointer (some ⟨H.length,0,none⟩)) (f4:fr 4=.int .i64 (i:Int)) (f5:fr 5=.pointer (some ⟨R5,0,none⟩)) (f6:fr 6=.int .i64 0)
  (hbad:(gt L i).id∈(L.take i).map (·.id)→Z (.int .i64 321) (G++[]))
  (hR:(gt L i).id∉(L.take i).map (·.id)→∀fr',fr' 1=fr 1→fr' 4=fr 4→Ret E a49 H.length K fr' (G++[]) Z) :
  Ret E a49 H.length (.code (.loop l49_1)::.inBlock 4::K) fr G Z:=by
 have hBX:=fun X=>(Ext.refl.app (X:=X)).cells hB
 have h5X:=fun X=>(Ext.refl.app (X:=X)).cells h5
 refine zRr (fun j=>i-j) (fun j fr' G'=>j≤i∧fr' 1=.pointer (some ⟨H.length,0,none⟩)∧fr' 4=.int .i64 (i:Int)∧fr' 5=.pointer (some ⟨R5,0,none⟩)∧fr' 6=.int .i64 (j:Int)∧G'=G++[]∧∀k,k<j→(gt L k).id≠(gt L i).id) 0 ⟨Nat.zero_le _,f1,f4,f5,f6,by simp,fun k hk=>by omega⟩ ?_
 rintro j fr' G' ⟨hj,g1,g4,g5,g6,rfl,hall⟩ hN
 rw [zRc l49_1.eq_1]
 by_cases hlt:j<i
 case neg=>
  obtain rfl:j=i:=by omega
  simp only [n49,r49,g1,g4,g5,g6,hlt,SB,Nat.reduceLT,zCa,aOp,Nat.reduceEqDiff,zB,aUn,reduceCtorEq,zFr,place,zTu,Nat.reduceAdd,Nat.reduceLeDiff,zRe,Int.reduceEq,Int.reduceLT,Int.reduceLE]
  refine hR (fun hm=>?_) _ (by rw [f1];exact (by exact g1)) (by rw [f4];exact (by exact g4))
  obtain ⟨l,hl,e⟩:=List.mem_map.1 hm
  obtain ⟨k,hk,rfl⟩:=List.mem_take_iff_getElem.1 hl
  exact hall k (by omega) (by rw [zGl (by omega)];exact e)
 have hjl:j<L.length:=by omega
 have ld:=fun X=>(hn.sl.app X).loadCell zLl hjl (j:=0) (by decide)
 rw [zL0] at ld
 have ix:=fun c (kk:IntKind) (H1:zH)=>hn.sl.idx (c:=c) (k:=kk) (H1:=H1) hjl
 have hw1:IntKind.i64.wrap ((j:Int)+1)=((j+1:Nat):Int):=zWn (by have:=hn.nl;omega)
 by_cases he:(gt L j).id=(gt L i).id
 ·simp only [n49,r49,g1,g4,g5,g6,hlt,hBX,h5X,ld,ix,hw1,zNl,zN0,zN1,zLl,zL0,zL1,zL2,zL3,zL4,zL5,zL6,zL7,zTa,eq_true he,SB,Nat.reduceLT,zCa,aOp,Nat.reduceEqDiff,zB,aUn,reduceCtorEq,zFr,place,zTu,Nat.reduceAdd,Nat.reduceLeDiff,zRe,Int.reduceEq,Int.reduceLT,Int.reduceLE]
  rw [List.append_nil] at hbad
  rw [List.append_nil]
  refine hbad (List.mem_map.2 ⟨gt L j, ?_,he⟩)
  rw [zGl hjl]
  exact List.mem_take_iff_getElem.2 ⟨j,by omega,rfl⟩
 ·simp only [n49,r49,g1,g4,g5,g6,hlt,hBX,h5X,ld,ix,hw1,zNl,zN0,zN1,zLl,zL0,zL1,zL2,zL3,zL4,zL5,zL6,zL7,zTa,eq_false he,SB,Nat.reduceLT,zCa,aOp,Nat.reduceEqDiff,zB,aUn,reduceCtorEq,zFr,place,zTu,Nat.reduceAdd,Nat.reduceLeDiff,zRe,Int.reduceEq,Int.reduceLT,Int.reduceLE]
  exact hN (j+1) _ _ ⟨by omega,by exact g1,by exact g4,by exact g5,(by rfl),rfl,fun k hk=>by
   rcases Nat.lt_or_ge k j with h | h
   ·exact hall k h
   ·obtain rfl:k=j:=by omega
    exact he⟩ (by omega)
theorem rvalid_ok [OB] {mp:Bool} {lim:Nat} {pp pl:Option Addr} {P:List Int} {L:List Leg} {cp cl:Nat} {H:zH} {Q:Value→zH→Prop} (hn:NetIn H pp pl P L) :
  za0 E mp lim 49 [.agg (netV pp P.length cp pl L.length cl).toArray] H Q=Q (.int .i64 (zac P L)) H:=by
 refine pc (by decide) e49 rfl rfl ?_
 rw [b49,c49]
 by_cases h50:50<(P.length:Int)
 ·simp only [n49,r49,zNl,zN0,zN1,eq_true h50,SB,Nat.reduceLT,zCa,aOp,Nat.reduceEqDiff,zB,aUn,reduceCtorEq,zFr,place,zTu,Nat.reduceAdd,Nat.reduceLeDiff,zRe,Int.reduceEq,Int.reduceLT,Int.reduceLE]
  rw [zac,if_pos (by omega)]
 by_cases h200:200<(L.length:Int)
 ·simp only [n49,r49,zNl,zN0,zN1,eq_false h50,eq_true h200,SB,Nat.reduceLT,zCa,aOp,Nat.reduceEqDiff,zB,aUn,reduceCtorEq,zFr,place,zTu,Nat.reduceAdd,Nat.reduceLeDiff,zRe,Int.reduceEq,Int.reduceLT,Int.reduceLE]
  rw [zac,if_pos (by omega)]
 simp only [n49,r49,zNl,zN0,zN1,eq_false h50,eq_false h200,SB,Nat.reduceLT,zCa,aOp,Nat.reduceEqDiff,zB,aUn,reduceCtorEq,zFr,place,zTu,Nat.reduceAdd,Nat.reduceLeDiff,zRe,Int.reduceEq,Int.reduceLT,Int.reduceLE]
 have hv:zac P L=if ¬zbn P then 320 else if ¬LegsOk P L then 321 else 0:=by rw [zac,if_neg (by omega)]
 refine zRr (fun i=>P.length-i) (fun i fr G=>i≤P.length∧fr 1=.pointer (some ⟨H.length,0,none⟩)∧fr 3=.int .i64 (i:Int)∧Ext H G∧zG G H.length=.cells false (netV pp P.length cp pl L.length cl)∧∀j,j<i→(1≤gt P j∧gt P j≤999999)∧P.count (gt P j)≤1) 0
  ⟨Nat.zero_le _,(by rfl),by rfl,Ext.refl.app,zHn,fun j hj=>by omega⟩ ?_
 intro i fr G ⟨hi,f1,f3,hE,hB,hall⟩ hN
 rw [zRc l49_3.eq_1]
 refine zRp ?_
 have hBX:=fun X=>(Ext.refl.app (X:=X)).cells hB
 have hnG:=hn.ext hE
 by_cases hlt:i<P.length
 case pos=>
  have ld:=fun X=>(hnG.sp.app X).loadCell0 zIl hlt (by decide)
  simp only [encI,List.getElem?_cons_zero] at ld
  have ix:=fun c (kk:IntKind) (H1:zH)=>hnG.sp.idx (c:=c) (k:=kk) (H1:=H1) hlt
  have hw1:IntKind.i64.wrap ((i:Int)+1)=((i+1:Nat):Int):=zWn (by omega)
  have hhas:=fun X (mp:Bool) (lim:Nat) (Q:Value→zH→Prop)=>rhas32_ok (mp:=mp) (lim:=lim) (c:=cp) (a:=gt P i) (Q:=Q) (hnG.sp.app X) (by omega)
  have bad:¬((1≤gt P i∧gt P i≤999999)∧P.count (gt P i)≤1)→zac P L=320:=fun h=>by
   rw [hv,if_pos fun hh=>h (plants_count.1 hh i hlt)]
  by_cases h1:1≤gt P i∧gt P i≤999999
  case neg=>
   simp only [n49,r49,f1,f3,hBX,zNl,zN0,zN1,hlt,ld,ix,in_ok,decide_eq_false h1,SB,Nat.reduceLT,zCa,aOp,Nat.reduceEqDiff,zB,aUn,reduceCtorEq,zFr,place,zTu,Nat.reduceAdd,Nat.reduceLeDiff,zRe,Int.reduceEq,Int.reduceLT,Int.reduceLE]
   rw [bad fun h=>h1 h.1]
  by_cases h2:1<(P.count (gt P i):Int)
  ·simp only [n49,r49,f1,f3,hBX,zNl,zN0,zN1,hlt,ld,ix,in_ok,decide_eq_true h1,hhas,eq_true h2,SB,Nat.reduceLT,zCa,aOp,Nat.reduceEqDiff,zB,aUn,reduceCtorEq,zFr,place,zTu,Nat.reduceAdd,Nat.reduceLeDiff,zRe,Int.reduceEq,Int.reduceLT,Int.reduceLE]
   rw [bad fun h=>by omega]
  ·simp only [n49,r49,f1,f3,hBX,zNl,zN0,zN1,hlt,ld,ix,in_ok,decide_eq_true h1,hhas,eq_false h2,hw1,SB,Nat.reduceLT,zCa,aOp,Nat.reduceEqDiff,zB,aUn,reduceCtorEq,zFr,place,zTu,Nat.reduceAdd,Nat.reduceLeDiff,zRe,Int.reduceEq,Int.reduceLT,Int.reduceLE]
   exact hN (i+1) _ _ ⟨by omega,by exact f1,(by rfl),hE.app,(Ext.refl.app).cells hB,fun j hj=>by
    rcases Nat.lt_or_ge j i with h | h
    ·exact hall j h
    ·obtain rfl:j=i:=by omega
     exact ⟨h1,by omega⟩⟩ (by omega)
 obtain rfl:i=P.length:=by omega
 have hP:zbn P:=plants_count.2 hall
 rw [if_neg (by simpa using hP)] at hv
 simp only [n49,r49,f1,f3,hBX,zNl,zN0,zN1,hlt,SB,Nat.reduceLT,zCa,aOp,Nat.reduceEqDiff,zB,aUn,reduceCtorEq,zFr,place,zTu,Nat.reduceAdd,Nat.reduceLeDiff,zRe,Int.reduceEq,Int.reduceLT,Int.reduceLE]
 refine zRr (fun i=>L.length-i) (fun i fr2 G2=>i≤L.length∧fr2 1=.pointer (some ⟨H.length,0,none⟩)∧fr2 4=.int .i64 (i:Int)∧Ext H G2∧zG G2 H.length=.cells false (netV pp P.length cp pl L.length cl)∧∀j,j<i→lOk P L j) 0
  ⟨Nat.zero_le _,by exact f1,by rfl,hE.app,(Ext.refl.app).cells hB,fun j hj=>by omega⟩ ?_
 intro i fr2 G2 ⟨hi2,g1,g4,hE2,hB2,hall2⟩ hM
 rw [zRc l49_2.eq_1]
 refine zRp ?_
 have hB2X:=fun X=>(Ext.refl.app (X:=X)).cells hB2
 have hn2:=hn.ext hE2
 have hl2:=hE2.len
 by_cases hlt2:i<L.length
 case neg=>
  obtain rfl:i=L.length:=by omega
  rw [if_neg (show ¬¬LegsOk P L from fun h=>h hall2)] at hv
  simp only [n49,r49,g1,g4,hB2X,zNl,zN0,zN1,hlt2,hv,SB,Nat.reduceLT,zCa,aOp,Nat.reduceEqDiff,zB,aUn,reduceCtorEq,zFr,place,zTu,Nat.reduceAdd,Nat.reduceLeDiff,zRe,Int.reduceEq,Int.reduceLT,Int.reduceLE]
 have ld:=fun X=>(hn2.sl.app X).loadCells zLl hlt2
 have ix:=fun c (kk:IntKind) (H1:zH)=>hn2.sl.idx (c:=c) (k:=kk) (H1:=H1) hlt2
 have hw1:IntKind.i64.wrap ((i:Int)+1)=((i+1:Nat):Int):=zWn (by omega)
 have hby:=hn.bys _ (za9 hlt2)
 have hrt:=fun (H:zH) (mp:Bool) (lim:Nat) (Q:Value→zH→Prop)=>rright_ok (mp:=mp) (lim:=lim) (H:=H) (Q:=Q) hby
 have hhas:=fun X (a:Int) (mp:Bool) (lim:Nat) (Q:Value→zH→Prop)=>rhas32_ok (mp:=mp) (lim:=lim) (c:=cp) (a:=a) (Q:=Q) (hn2.sp.app X) (by omega)
 have bad:¬lOk P L i→zac P L=321:=fun h=>by rw [hv,if_pos fun hh=>h (hh i hlt2)]
 have cnt:∀a:Int,(P.count a:Int)=0↔a∉P:=fun a=>by rw [←List.count_eq_zero];omega
 by_cases h1:Fine (gt L i)
 case neg=>
  simp only [n49,r49,g1,g4,hB2X,zNl,zN0,zN1,zLl,zL0,zL1,zL2,zL3,zL4,zL5,zL6,zL7,zTa,hlt2,ld,ix,zSa,hl2,hrt,hhas,decide_eq_false h1,SB,Nat.reduceLT,zCa,aOp,Nat.reduceEqDiff,zB,aUn,reduceCtorEq,zFr,place,zTu,Nat.reduceAdd,Nat.reduceLeDiff,zRe,Int.reduceEq,Int.reduceLT,Int.reduceLE]
  rw [bad fun h=>h1 h.1]
 by_cases h2:(gt L i).frm∈P
 case neg=>
  simp only [n49,r49,g1,g4,hB2X,zNl,zN0,zN1,zLl,zL0,zL1,zL2,zL3,zL4,zL5,zL6,zL7,zTa,hlt2,ld,ix,zSa,hl2,hrt,hhas,decide_eq_true h1,eq_true ((cnt _).2 h2),SB,Nat.reduceLT,zCa,aOp,Nat.reduceEqDiff,zB,aUn,reduceCtorEq,zFr,place,zTu,Nat.reduceAdd,Nat.reduceLeDiff,zRe,Int.reduceEq,Int.reduceLT,Int.reduceLE]
  rw [bad fun h=>h2 h.2.2.1]
 by_cases h3:(gt L i).dst∈P
 case neg=>
  simp only [n49,r49,g1,g4,hB2X,zNl,zN0,zN1,zLl,zL0,zL1,zL2,zL3,zL4,zL5,zL6,zL7,zTa,hlt2,ld,ix,zSa,hl2,hrt,hhas,decide_eq_true h1,eq_false (fun h=>(cnt _).1 h h2),eq_true ((cnt _).2 h3),SB,Nat.reduceLT,zCa,aOp,Nat.reduceEqDiff,zB,aUn,reduceCtorEq,zFr,place,zTu,Nat.reduceAdd,Nat.reduceLeDiff,zRe,Int.reduceEq,Int.reduceLT,Int.reduceLE]
  rw [bad fun h=>h3 h.2.2.2]
 simp only [n49,r49,g1,g4,hB2X,zNl,zN0,zN1,zLl,zL0,zL1,zL2,zL3,zL4,zL5,zL6,zL7,zTa,hlt2,ld,ix,zSa,hl2,hrt,hhas,decide_eq_true h1,eq_false (fun h=>(cnt _).1 h h2),eq_false (fun h=>(cnt _).1 h h3),SB,Nat.reduceLT,zCa,aOp,Nat.reduceEqDiff,zB,aUn,reduceCtorEq,zFr,place,zTu,Nat.reduceAdd,Nat.reduceLeDiff,zRe,Int.reduceEq,Int.reduceLT,Int.reduceLE]
 refine rvalid_inner (R5:=G2.length) (cp:=cp) (cl:=cl) (hn2.app _) hlt2 ((Ext.refl.app).cells hB2) zHn (by exact g1) (by exact g4) (by rfl) (by rfl) (fun hm=>?_) (fun hm fr3 k1 k4=>?_)
 ·rw [bad fun h=>h.2.1 hm]
 ·replace k1:fr3 1=.pointer (some ⟨H.length,0,none⟩):=k1.trans (by exact g1)
  replace k4:fr3 4=.int .i64 (i:Int):=k4.trans (by exact g4)
  simp only [n49,r49,k1,k4,hw1,SB,Nat.reduceLT,zCa,aOp,Nat.reduceEqDiff,zB,aUn,reduceCtorEq,zFr,place,zTu,Nat.reduceAdd,Nat.reduceLeDiff,zRe,Int.reduceEq,Int.reduceLT,Int.reduceLE]
  exact hM (i+1) _ _ ⟨by omega,by exact k1,(by rfl),hE2.app,(Ext.refl.app).cells hB2,fun j hj=>by
   rcases Nat.lt_or_ge j i with h | h
   ·exact hall2 j h
   ·obtain rfl:j=i:=by omega
    exact ⟨h1,hm,h2,h3⟩⟩ (by omega)
def onDay (l:Leg) (d:Int):Option (Int×Int):=if 0≤d∧d<730485 then depOn l d.toNat else none
theorem rfind_ok [OB] {mp:Bool} {lim:Nat} {pp pl:Option Addr} {P:List Int} {L:List Leg} {cp cl:Nat} {a:Int} {H:zH} {Q:Value→zH→Prop} (hn:NetIn H pp pl P L) :
  za0 E mp lim 33 [.agg (netV pp P.length cp pl L.length cl).toArray,.int .i64 a] H Q=Q (match L.find? (fun l=>l.id=a) with | some l=>.tuple #[.agg (encL l).toArray,.bool true] | none=>.tuple #[.agg #[.int .i64 0,.int .i64 0,.int .i64 0,.int .i64 0,.int .i64 0,.int .i64 0,.int .i64 0,.int .u8 0],.bool false]) H:=by
 refine pc (by decide) e33 rfl (by cases L.find? (fun l=>l.id=a)<;>rfl) ?_
 rw [b33,c33]
 simp only [n33,r33,zNl,zN0,zN1,SB,Nat.reduceLT,zCa,aOp,Nat.reduceEqDiff,zB,aUn,reduceCtorEq,zFr,place,zTu,Nat.reduceAdd,Nat.reduceLeDiff,zRe,Int.reduceEq,Int.reduceLT,Int.reduceLE]
 refine zRr (fun i=>L.length-i) (fun i fr G=>i≤L.length∧fr 1=.int .i64 a∧fr 2=.pointer (some ⟨H.length,0,none⟩)∧fr 4=.pointer (some ⟨H.length+1,0,none⟩)∧fr 6=.int .i64 (i:Int)∧Ext H G∧zG G H.length=.cells false (netV pp P.length cp pl L.length cl)∧
  zG G (H.length+1)=.cells false [.int .i64 0,.int .i64 0,.int .i64 0,.int .i64 0,.int .i64 0,.int .i64 0,.int .i64 0,.int .u8 0]∧L.find? (fun l=>l.id=a)=(L.drop i).find? (fun l=>l.id=a)) 0
  ⟨Nat.zero_le _,(by rfl),(by rfl),(by rfl),by rfl,Ext.refl.app,zHn,zHw,rfl⟩ ?_
 intro i fr G ⟨hi,h1,h2,h4,h6,hE,hB,h0,hf⟩ hN
 have hl:=hE.len
 rw [zRc l33_1.eq_1]
 refine zRp ?_
 have hBX:=fun X=>(Ext.refl.app (X:=X)).cells hB
 have h0X:=fun X=>(Ext.refl.app (X:=X)).cells h0
 by_cases hlt:i<L.length
 ·have hld:=fun X=>((hE.sl hn.sl).app X).loadCells zLl hlt
  have ld0:=fun X=>((hE.sl hn.sl).app X).loadCell zLl hlt (j:=0) (by decide)
  rw [zL0] at ld0
  have hidx:=fun c (k:IntKind) (H1:zH)=>(hE.sl hn.sl).idx (c:=c) (k:=k) (H1:=H1) hlt
  have hw1:IntKind.i64.wrap ((i:Int)+1)=((i+1:Nat):Int):=zWn (by have:=hn.nl;omega)
  rw [find_drop hlt] at hf
  obtain ⟨G2,e2,k2,m2⟩:=za3 (zHa h0) (.cells false (encL (gt L i)))
  have h2X:=fun X=>(Ext.refl.app (X:=X)).cells k2
  by_cases hid:(gt L i).id=a
  ·simp only [hid,decide_true,if_true] at hf
   simp only [n33,r33,h1,h2,h4,h6,hlt,hidx,hld,ld0,hw1,hBX,h0X,zNl,zN0,zN1,zLl,zL0,zL1,zL2,zL3,zL4,zL5,zL6,zL7,zTa,show H.length≤H.length+1 by omega,eq_true hid,zSa,e2,h2X,SB,Nat.reduceLT,zCa,aOp,Nat.reduceEqDiff,zB,aUn,reduceCtorEq,zFr,place,zTu,Nat.reduceAdd,Nat.reduceLeDiff,zRe,Int.reduceEq,Int.reduceLT,Int.reduceLE]
   rw [hf]
  ·simp only [hid,decide_false,Bool.false_eq_true,if_false] at hf
   simp only [n33,r33,h1,h2,h4,h6,hlt,hidx,hld,ld0,hw1,hBX,h0X,zNl,zN0,zN1,zLl,zL0,zL1,zL2,zL3,zL4,zL5,zL6,zL7,zTa,eq_false hid,SB,Nat.reduceLT,zCa,aOp,Nat.reduceEqDiff,zB,aUn,reduceCtorEq,zFr,place,zTu,Nat.reduceAdd,Nat.reduceLeDiff,zRe,Int.reduceEq,Int.reduceLT,Int.reduceLE]
   exact hN (i+1) _ _ ⟨by omega,by exact h1,by exact h2,by exact h4,(by rfl),hE.app,(Ext.refl.app).cells hB,(Ext.refl.app).cells h0,hf⟩ (by omega)
 ·obtain rfl:i=L.length:=by omega
  rw [List.drop_length,List.find?_nil] at hf
  obtain ⟨G2,e2,k2,m2⟩:=za3 (zHa h0) (.cells false [.int .i64 0,.int .i64 0,.int .i64 0,.int .i64 0,.int .i64 0,.int .i64 0,.int .i64 0,.int .u8 0])
  have h2X:=fun X=>(Ext.refl.app (X:=X)).cells k2
  simp only [n33,r33,h1,h2,h4,h6,hlt,hBX,h0X,zNl,zN0,zN1,show H.length≤H.length+1 by omega,zSa,e2,h2X,SB,Nat.reduceLT,zCa,aOp,Nat.reduceEqDiff,zB,aUn,reduceCtorEq,zFr,place,zTu,Nat.reduceAdd,Nat.reduceLeDiff,zRe,Int.reduceEq,Int.reduceLT,Int.reduceLE]
  rw [hf]
theorem rruns_ok [OB] {mp:Bool} {lim w:Nat} {l:Leg} {H:zH} {Q:Value→zH→Prop} (hd:By l) (hw:w≤6):za0 E mp lim 68 [.agg (encL l).toArray,.int .i64 (w:Int)] H Q=Q (.bool (l.days.toNat / 2 ^ w % 2 == 1)) H:=by
 refine pc (by decide) e68 rfl rfl ?_
 rw [b68,c68]
 unfold By at hd
 obtain ⟨D,hD⟩:∃D:Nat,l.days=(D:Int):=⟨l.days.toNat,by omega⟩
 have wd:IntKind.i64.wrap l.days=l.days:=zWi (by omega) (by omega)
 simp only [n68,r68,zLl,zL0,zL1,zL2,zL3,zL4,zL5,zL6,zL7,zTa,wd,SB,Nat.reduceLT,zCa,aOp,Nat.reduceEqDiff,zB,aUn,reduceCtorEq,zFr,place,zTu,Nat.reduceAdd,Nat.reduceLeDiff,zRe,Int.reduceEq,Int.reduceLT,Int.reduceLE]
 rw [hD,Int.toNat_natCast]
 refine zRr (fun j=>w-j) (fun j fr G=>j≤w∧fr 1=.int .i64 (w:Int)∧fr 5=.int .i64 ((D / 2 ^ j:Nat):Int)∧fr 6=.int .i64 (j:Int)) 0 ⟨Nat.zero_le _,(by rfl),by simp only [FB,Nat.reduceEqDiff,hD,Nat.pow_zero,Nat.div_one],by rfl⟩ ?_
 intro j fr G ⟨hj,f1,f5,f6⟩ hN
 rw [zRc l68_1.eq_1]
 refine zRp ?_
 have hle:D / 2 ^ j≤D:=Nat.div_le_self _ _
 by_cases hlt:j<w
 ·have hw1:IntKind.i64.wrap ((j:Int)+1)=((j+1:Nat):Int):=zWn (by omega)
  have hw2:IntKind.i64.wrap (Int.tdiv ((D / 2 ^ j:Nat):Int) 2)=((D / 2 ^ (j+1):Nat):Int):=by
   rw [show Int.tdiv ((D / 2 ^ j:Nat):Int) 2=((D / 2 ^ j / 2:Nat):Int) from rfl,Nat.div_div_eq_div_mul,show 2 ^ j*2=2 ^ (j+1) from rfl]
   have:D / 2 ^ (j+1)≤D:=Nat.div_le_self _ _
   generalize D / 2 ^ (j+1)=z at this⊢
   exact zWi (by omega) (by omega)
  simp only [n68,r68,f1,f5,f6,hlt,hw1,hw2,SB,Nat.reduceLT,zCa,aOp,Nat.reduceEqDiff,zB,aUn,reduceCtorEq,zFr,place,zTu,Nat.reduceAdd,Nat.reduceLeDiff,zRe,Int.reduceEq,Int.reduceLT,Int.reduceLE]
  exact hN (j+1) _ _ ⟨by omega,by exact f1,(by rfl),(by rfl)⟩ (by omega)
 ·obtain rfl:j=w:=by omega
  have hm:Int.tmod ((D / 2 ^ j:Nat):Int) 2=((D / 2 ^ j % 2:Nat):Int):=rfl
  have hz:D / 2 ^ j % 2<2:=Nat.mod_lt _ (by decide)
  generalize D / 2 ^ j % 2=z at hm hz
  have hw3:IntKind.i64.wrap (z:Int)=(z:Int):=zWi (by omega) (by omega)
  match z,hz,hm,hw3 with
  | 0,_,hm,hw3=>
    replace hm:Int.tmod ((D / 2 ^ j:Nat):Int) 2=0:=hm
    have w0:IntKind.i64.wrap 0=0:=by decide
    simp only [n68,r68,f1,f5,f6,hlt,hm,w0,SB,Nat.reduceLT,zCa,aOp,Nat.reduceEqDiff,zB,aUn,reduceCtorEq,zFr,place,zTu,Nat.reduceAdd,Nat.reduceLeDiff,zRe,Int.reduceEq,Int.reduceLT,Int.reduceLE]
    rfl
  | 1,_,hm,hw3=>
    replace hm:Int.tmod ((D / 2 ^ j:Nat):Int) 2=1:=hm
    have w0:IntKind.i64.wrap 1=1:=by decide
    simp only [n68,r68,f1,f5,f6,hlt,hm,w0,SB,Nat.reduceLT,zCa,aOp,Nat.reduceEqDiff,zB,aUn,reduceCtorEq,zFr,place,zTu,Nat.reduceAdd,Nat.reduceLeDiff,zRe,Int.reduceEq,Int.reduceLT,Int.reduceLE]
    rfl
theorem ron_ok [OB] {mp:Bool} {lim:Nat} {l:Leg} {d:Int} {H:zH} {Q:Value→zH→Prop} (hl:Fine l):za0 E mp lim 51 [.agg (encL l).toArray,.int .i64 d] H Q=Q (depV (onDay l d)) H:=by
 refine pc (by decide) e51 rfl depV_flat ?_
 rw [b51,c51]
 have hrt:=fun (H:zH) (mp:Bool) (lim:Nat) (Q:Value→zH→Prop)=>rright_ok (mp:=mp) (lim:=lim) (H:=H) (Q:=Q) hl.by
 rw [decide_eq_true hl] at hrt
 have hF:=hl
 unfold Fine at hF
 by_cases h1:0≤d∧d≤730484
 case neg=>
  have e:onDay l d=none:=by unfold onDay;rw [if_neg (by omega)]
  simp only [n51,r51,zLl,zL0,zL1,zL2,zL3,zL4,zL5,zL6,zL7,zTa,hrt,in_ok,decide_eq_false h1,zSa,e,depV,SB,Nat.reduceLT,zCa,aOp,Nat.reduceEqDiff,zB,aUn,reduceCtorEq,zFr,place,zTu,Nat.reduceAdd,Nat.reduceLeDiff,zRe,Int.reduceEq,Int.reduceLT,Int.reduceLE]
 obtain ⟨n,rfl⟩:∃n:Nat,d=(n:Int):=⟨d.toNat,by omega⟩
 have e:onDay l (n:Int)=depOn l n:=by unfold onDay;rw [if_pos (by omega),Int.toNat_natCast]
 rw [e]
 have hm:Int.tmod (n:Int) 7=((n % 7:Nat):Int):=rfl
 have wm:IntKind.i64.wrap ((n % 7:Nat):Int)=((n % 7:Nat):Int):=zWi (by omega) (by omega)
 have hrn:=fun (H:zH) (mp:Bool) (lim:Nat) (Q:Value→zH→Prop)=>rruns_ok (mp:=mp) (lim:=lim) (H:=H) (Q:=Q) (w:=n % 7) hl.by (by omega)
 have hg:goes l n=(l.days.toNat / 2 ^ (n % 7) % 2 == 1&&decide (0≤1440*(n:Int)+l.dep-l.cut)&&decide (1440*(n:Int)+l.dep+l.mins≤1051898399)):=rfl
 generalize (l.days.toNat / 2 ^ (n % 7) % 2 == 1)=b at hrn hg
 have w1:IntKind.i64.wrap ((n:Int)*1440)=1440*(n:Int):=by rw [zWi (by omega) (by omega)];omega
 have w2:IntKind.i64.wrap (1440*(n:Int)+l.dep)=1440*(n:Int)+l.dep:=zWi (by omega) (by omega)
 have w3:IntKind.i64.wrap (1440*(n:Int)+l.dep-l.cut)=1440*(n:Int)+l.dep-l.cut:=zWi (by omega) (by omega)
 have w4:IntKind.i64.wrap (1440*(n:Int)+l.dep+l.mins)=1440*(n:Int)+l.dep+l.mins:=zWi (by omega) (by omega)
 have no:goes l n=false→depOn l n=none:=fun h=>by unfold depOn;rw [h];rfl
 cases b with
 | false=>
   have e2:=no (by rw [hg];rfl)
   simp only [n51,r51,zLl,zL0,zL1,zL2,zL3,zL4,zL5,zL6,zL7,zTa,hrt,in_ok,decide_eq_true h1,hm,wm,hrn,w1,w2,w3,w4,zSa,e2,depV,SB,Nat.reduceLT,zCa,aOp,Nat.reduceEqDiff,zB,aUn,reduceCtorEq,zFr,place,zTu,Nat.reduceAdd,Nat.reduceLeDiff,zRe,Int.reduceEq,Int.reduceLT,Int.reduceLE]
 | true=>
   by_cases h2:1440*(n:Int)+l.dep-l.cut<0
   ·have e2:=no (by rw [hg,decide_eq_false (by omega)];rfl)
    simp only [n51,r51,zLl,zL0,zL1,zL2,zL3,zL4,zL5,zL6,zL7,zTa,hrt,in_ok,decide_eq_true h1,hm,wm,hrn,w1,w2,w3,w4,zSa,eq_true h2,e2,depV,SB,Nat.reduceLT,zCa,aOp,Nat.reduceEqDiff,zB,aUn,reduceCtorEq,zFr,place,zTu,Nat.reduceAdd,Nat.reduceLeDiff,zRe,Int.reduceEq,Int.reduceLT,Int.reduceLE]
   ·by_cases h3:1051898399<1440*(n:Int)+l.dep+l.mins
    ·have e2:=no (by rw [hg,decide_eq_false (p:=_≤(1051898399:Int)) (by omega),Bool.and_false])
     simp only [n51,r51,zLl,zL0,zL1,zL2,zL3,zL4,zL5,zL6,zL7,zTa,hrt,in_ok,decide_eq_true h1,hm,wm,hrn,w1,w2,w3,w4,zSa,eq_false h2,eq_true h3,e2,depV,SB,Nat.reduceLT,zCa,aOp,Nat.reduceEqDiff,zB,aUn,reduceCtorEq,zFr,place,zTu,Nat.reduceAdd,Nat.reduceLeDiff,zRe,Int.reduceEq,Int.reduceLT,Int.reduceLE]
    ·have e2:depOn l n=some (1440*(n:Int)+l.dep,1440*(n:Int)+l.dep+l.mins):=by
      unfold depOn
      rw [hg,decide_eq_true (p:=_≤(1051898399:Int)) (by omega),decide_eq_true (by omega)];rfl
     simp only [n51,r51,zLl,zL0,zL1,zL2,zL3,zL4,zL5,zL6,zL7,zTa,hrt,in_ok,decide_eq_true h1,hm,wm,hrn,w1,w2,w3,w4,zSa,eq_false h2,eq_false h3,e2,depV,SB,Nat.reduceLT,zCa,aOp,Nat.reduceEqDiff,zB,aUn,reduceCtorEq,zFr,place,zTu,Nat.reduceAdd,Nat.reduceLeDiff,zRe,Int.reduceEq,Int.reduceLT,Int.reduceLE]
end Go.Proofs.Ytohnaffmcjbpoaa.Fn

namespace Go.Proofs.Ytohnaffmcjbpoaa.Fn
open Go.AM Go.AM.Sym Go.Net Go.Flow
theorem rhas_ok [OB] {mp:Bool} {lim:Nat} {pp pl:Option Addr} {P:List Int} {L:List Leg} {cp cl:Nat} {a:Int} {H:zH} {Q:Value→zH→Prop} (hn:NetIn H pp pl P L) :
  za0 E mp lim 50 [.agg (netV pp P.length cp pl L.length cl).toArray,.int .i64 a] H Q=Q (.bool (decide (a∈P))) H:=by
 refine pc (by decide) e50 rfl rfl ?_
 rw [b50,c50]
 simp only [n50,r50,zNl,zN0,zN1,SB,seval,zCa,aOp,zB,aUn,reduceCtorEq,zFr,place,zTu,zRe]
 refine zRr (fun i=>P.length-i) (fun i fr G=>i≤P.length∧fr 1=.int .i64 a∧fr 2=.pointer (some ⟨H.length,0,none⟩)∧fr 5=.int .i64 (i:Int)∧Ext H G∧zG G H.length=.cells false (netV pp P.length cp pl L.length cl)∧∀j,j<i→gt P j≠a) 0
  ⟨Nat.zero_le _,(by rfl),(by rfl),by rfl,Ext.refl.app,zHn,fun j hj=>by omega⟩ ?_
 intro i fr G ⟨hi,f1,f2,f5,hE,hB,hall⟩ hN
 rw [zRc l50_1.eq_1]
 refine zRp ?_
 have bX:=fun X=>(Ext.refl.app (X:=X)).cells hB
 by_cases hlt:i<P.length
 case neg=>
  obtain rfl:i=P.length:=by omega
  simp only [n50,r50,f1,f2,f5,hlt,bX,zNl,zN0,zN1,SB,seval,zCa,aOp,zB,aUn,reduceCtorEq,zFr,place,zTu,zRe]
  rw [decide_eq_false]
  intro hm
  obtain ⟨j,hj,he⟩:=List.mem_iff_getElem.1 hm
  exact hall j hj (by rw [zGl hj];exact he)
 have lP:=zdw (hE.sl hn.sp) hlt
 have xP:=ix_ints (hE.sl hn.sp) hlt rfl
 have w1:IntKind.i64.wrap ((i:Int)+1)=((i+1:Nat):Int):=zWn (by have:=hn.np;omega)
 by_cases he:gt P i=a
 ·simp only [n50,r50,f1,f2,f5,hlt,bX,zNl,zN0,zN1,lP,xP,eq_true he,SB,seval,zCa,aOp,zB,aUn,reduceCtorEq,zFr,place,zTu,zRe]
  rw [decide_eq_true (he▸za9 hlt)]
 ·simp only [n50,r50,f1,f2,f5,hlt,bX,zNl,zN0,zN1,lP,xP,eq_false he,w1,SB,seval,zCa,aOp,zB,aUn,reduceCtorEq,zFr,place,zTu,zRe]
  exact hN (i+1) _ _ ⟨by omega,by exact f1,by exact f2,(by rfl),hE.app,(Ext.refl.app).cells hB,fun j hj=>by
   rcases (by omega:j<i∨j=i) with h | h
   ·exact hall j h
   ·rw [h];exact he⟩ (by omega)
theorem rallowed_ok [OB] {mp:Bool} {lim:Nat} {pp pl ps:Option Addr} {P:List Int} {L:List Leg} {s:List Flow.Src} {cp cl cs:Nat} {to dl:Int} {H:zH} {Q:Value→zH→Prop} (hn:NetIn H pp pl P L) (hs:Sl H encS 3 ps s) (hsl:s.length<2 ^ 63) :
  za0 E mp lim 30 [.agg (netV pp P.length cp pl L.length cl).toArray,.slice ps s.length cs,.int .i64 to,.int .i64 dl] H Q=Q (.int .i64 (zAn P L s to dl)) H:=by
 refine pc (by decide) e30 rfl rfl ?_
 rw [b30,c30]
 have mt:za1=1051898399:=rfl
 have hv:=fun X (mp:Bool) (lim:Nat) (Q:Value→zH→Prop)=>rvalid_ok (mp:=mp) (lim:=lim) (cp:=cp) (cl:=cl) (Q:=Q) (hn.app X)
 have hh:=fun X (mp:Bool) (lim:Nat) (a:Int) (Q:Value→zH→Prop)=>rhas_ok (mp:=mp) (lim:=lim) (cp:=cp) (cl:=cl) (a:=a) (Q:=Q) (hn.app X)
 by_cases h0:zac P L=0
 case neg=>
  simp only [n30,r30,zNl,zN0,zN1,hv,h0,zSa,SB,seval,zCa,aOp,zB,aUn,reduceCtorEq,zFr,place,zTu,zRe]
  rw [zAn,if_pos h0]
 have key:zAn P L s to dl=if ¬(to∈P∧0≤dl∧dl≤za1) then 2 else if 50<s.length then 5 else if ∀x∈s,SOk P x then 0 else 340:=if_neg fun h=>h h0
 rw [key]
 by_cases hto:to∈P
 case neg=>
  simp only [n30,r30,zNl,zN0,zN1,hv,h0,zSa,hh,eq_false hto,SB,seval,zCa,aOp,zB,aUn,reduceCtorEq,zFr,place,zTu,zRe]
 by_cases hd0:dl<0
 ·simp only [n30,r30,zNl,zN0,zN1,hv,h0,zSa,hh,eq_true hto,eq_true hd0,SB,seval,zCa,aOp,zB,aUn,reduceCtorEq,zFr,place,zTu,zRe]
  rw [if_pos fun h=>by omega]
 by_cases hd1:1051898399<dl
 ·simp only [n30,r30,zNl,zN0,zN1,hv,h0,zSa,hh,eq_true hto,eq_false hd0,eq_true hd1,SB,seval,zCa,aOp,zB,aUn,reduceCtorEq,zFr,place,zTu,zRe]
  rw [if_pos fun h=>by omega]
 rw [if_neg fun h=>h ⟨hto,by omega,by omega⟩]
 by_cases h50:50<(s.length:Int)
 ·simp only [n30,r30,zNl,zN0,zN1,hv,h0,zSa,hh,eq_true hto,eq_false hd0,eq_false hd1,h50,SB,seval,zCa,aOp,zB,aUn,reduceCtorEq,zFr,place,zTu,zRe]
  rw [if_pos (by omega)]
 rw [if_neg (by omega)]
 simp only [n30,r30,zNl,zN0,zN1,hv,h0,zSa,hh,eq_true hto,eq_false hd0,eq_false hd1,h50,SB,seval,zCa,aOp,zB,aUn,reduceCtorEq,zFr,place,zTu,zRe]
 refine zRr (fun i=>s.length-i) (fun i fr G=>i≤s.length∧fr 4=.pointer (some ⟨H.length,0,none⟩)∧fr 1=.slice ps s.length cs∧fr 10=.int .i64 (i:Int)∧H.length<G.length∧Ext H G∧zG G H.length=.cells false (netV pp P.length cp pl L.length cl)∧∀j,j<i→SOk P (gt s j)) 0
  ⟨Nat.zero_le _,(by rfl),(by rfl),by rfl,by simp,Ext.refl.app,zHn,fun j hj=>by omega⟩ ?_
 intro i fr G ⟨hi,f4,f1,f10,hlG,hE,hB,hall⟩ hN
 rw [zRc l30_1.eq_1]
 refine zRp ?_
 by_cases hlt:i<s.length
 case neg=>
  obtain rfl:i=s.length:=by omega
  simp only [n30,r30,f4,f1,f10,hlt,SB,seval,zCa,aOp,zB,aUn,reduceCtorEq,zFr,place,zTu,zRe]
  rw [if_pos]
  intro x hx
  obtain ⟨j,hj,rfl⟩:=List.mem_iff_getElem.1 hx
  rw [←zGl hj];exact hall j hj
 have sG:=hE.sl hs
 have lS:=fun X=>(sG.app X).loadCells zEl hlt
 have xS:=ix_N sG hlt rfl
 have bX:=fun X=>(Ext.refl.app (X:=X)).cells hB
 have hh2:=fun X (mp:Bool) (lim:Nat) (a:Int) (Q:Value→zH→Prop)=>rhas_ok (mp:=mp) (lim:=lim) (cp:=cp) (cl:=cl) (a:=a) (Q:=Q) ((hn.ext hE).app X)
 have w1:IntKind.i64.wrap ((i:Int)+1)=((i+1:Nat):Int):=zWn (by omega)
 have hsi:gt s i∈s:=za9 hlt
 have bad:¬SOk P (gt s i)→¬∀x∈s,SOk P x:=fun h hh=>h (hh _ hsi)
 have hsok:SOk P (gt s i)↔(gt s i).pl∈P∧0≤(gt s i).rd∧(gt s i).rd≤za1∧0≤(gt s i).gr∧(gt s i).gr≤1000000000:=Iff.rfl
 have hlG':H.length≤G.length:=by omega
 by_cases g1:(gt s i).pl∈P
 case neg=>
  simp only [n30,r30,f4,f1,f10,hlt,lS,xS,bX,hh2,zNl,zN0,zN1,zEl,zbh,zbg,zbf,zSa,hlG',zTa,eq_false g1,SB,seval,zCa,aOp,zB,aUn,reduceCtorEq,zFr,place,zTu,zRe]
  rw [if_neg (bad fun h=>g1 h.1)]
 by_cases g2:(gt s i).rd<0
 ·simp only [n30,r30,f4,f1,f10,hlt,lS,xS,bX,hh2,zNl,zN0,zN1,zEl,zbh,zbg,zbf,zSa,hlG',zTa,eq_true g1,eq_true g2,SB,seval,zCa,aOp,zB,aUn,reduceCtorEq,zFr,place,zTu,zRe]
  rw [if_neg (bad fun h=>by have:=hsok.1 h;omega)]
 by_cases g3:1051898399<(gt s i).rd
 ·simp only [n30,r30,f4,f1,f10,hlt,lS,xS,bX,hh2,zNl,zN0,zN1,zEl,zbh,zbg,zbf,zSa,hlG',zTa,eq_true g1,eq_false g2,eq_true g3,SB,seval,zCa,aOp,zB,aUn,reduceCtorEq,zFr,place,zTu,zRe]
  rw [if_neg (bad fun h=>by have:=hsok.1 h;omega)]
 by_cases g4:(gt s i).gr<0
 ·simp only [n30,r30,f4,f1,f10,hlt,lS,xS,bX,hh2,zNl,zN0,zN1,zEl,zbh,zbg,zbf,zSa,hlG',zTa,eq_true g1,eq_false g2,eq_false g3,eq_true g4,SB,seval,zCa,aOp,zB,aUn,reduceCtorEq,zFr,place,zTu,zRe]
  rw [if_neg (bad fun h=>by have:=hsok.1 h;omega)]
 by_cases g5:1000000000<(gt s i).gr
 ·simp only [n30,r30,f4,f1,f10,hlt,lS,xS,bX,hh2,zNl,zN0,zN1,zEl,zbh,zbg,zbf,zSa,hlG',zTa,eq_true g1,eq_false g2,eq_false g3,eq_false g4,eq_true g5,SB,seval,zCa,aOp,zB,aUn,reduceCtorEq,zFr,place,zTu,zRe]
  rw [if_neg (bad fun h=>by have:=hsok.1 h;omega)]
 simp only [n30,r30,f4,f1,f10,hlt,lS,xS,bX,hh2,zNl,zN0,zN1,zEl,zbh,zbg,zbf,zSa,hlG',zTa,eq_true g1,eq_false g2,eq_false g3,eq_false g4,eq_false g5,w1,SB,seval,zCa,aOp,zB,aUn,reduceCtorEq,zFr,place,zTu,zRe]
 exact hN (i+1) _ _ ⟨by omega,by exact f4,by exact f1,(by rfl),by simp;omega,hE.app,(Ext.refl.app).cells hB,fun j hj=>by
  rcases Nat.lt_or_ge j i with hji | hji
  ·exact hall j hji
  ·obtain rfl:j=i:=by omega
   exact hsok.2 ⟨g1,by omega,by omega,by omega,by omega⟩⟩ (by omega)
theorem after_ok [OB] {mp:Bool} {lim:Nat} {a b:Flow.Ld} {H:zH} {Q:Value→zH→Prop}:za0 E mp lim 32 [.agg (encD a).toArray,.agg (encD b).toArray] H Q=Q (.bool (decide (ldLt b a))) H:=by
 refine pc (by decide) e32 rfl rfl ?_
 rw [b32,c32]
 by_cases h1:b.dep<a.dep
 ·simp only [n32,r32,zDl,zau,zat,zax,zaw,eq_true h1,SB,seval,zCa,aOp,zB,aUn,reduceCtorEq,zFr,place,zTu,zRe]
  rw [decide_eq_true (show ldLt b a from by unfold ldLt;omega)]
 by_cases h2:a.dep=b.dep
 ·by_cases h3:b.leg<a.leg
  ·simp only [n32,r32,zDl,zau,zat,zax,zaw,eq_false h1,eq_true h2,eq_true h3,SB,seval,zCa,aOp,zB,aUn,reduceCtorEq,zFr,place,zTu,zRe]
   rw [decide_eq_true (show ldLt b a from by unfold ldLt;omega)]
  ·simp only [n32,r32,zDl,zau,zat,zax,zaw,eq_false h1,eq_true h2,eq_false h3,SB,seval,zCa,aOp,zB,aUn,reduceCtorEq,zFr,place,zTu,zRe]
   rw [decide_eq_false (show ¬ldLt b a from by unfold ldLt;omega)]
 ·simp only [n32,r32,zDl,zau,zat,zax,zaw,eq_false h1,eq_false h2,SB,seval,zCa,aOp,zB,aUn,reduceCtorEq,zFr,place,zTu,zRe]
  rw [decide_eq_false (show ¬ldLt b a from by unfold ldLt;omega)]
theorem others_ok [OB] {lim c:Nat} {p:Option Addr} {s:List Flow.Src} {H:zH} {Q:Value→zH→Prop} (hs:Sl H encS 3 p s) (hn:s.length≤200) (hlim:lim≤H.length)
  (hQ:∀G p' c',Own H.length G encS 3 p' c' s→Chg [] H G→Q (.slice p' s.length c') G):za0 E false lim 12 [.slice p s.length c] H Q:=by
 refine runs' (by decide) e12 rfl ?_
 rw [b12,c12]
 refine zRp ?_
 simp only [n12,r12,SB,seval,zCa,aOp,zB,aUn,reduceCtorEq,zFr,place,zTu,zRe]
 refine zRr (fun z:Nat×Option Addr×Nat=>s.length-z.1) (fun z fr G'=>z.1≤s.length∧fr 0=.slice p s.length c∧fr 3=.slice z.2.1 z.1 z.2.2∧fr 4=.int .i64 (z.1:Int)∧Own H.length G' encS 3 z.2.1 z.2.2 (s.take z.1)∧Chg [] H G') (0,none,0) ⟨Nat.zero_le _,(by rfl),by rfl,by rfl,.nil,Chg.refl.app⟩ ?_
 rintro ⟨j,q,k⟩ fr G' ⟨hj,f0,f3,f4,hO,hC⟩ hN
 simp only at hj f3 f4 hO
 have hl:=hC.len
 rw [zRc l12_1.eq_1]
 refine zRp ?_
 by_cases hlt:j<s.length
 case neg=>
  obtain rfl:j=s.length:=by omega
  rw [List.take_length] at hO
  simp only [n12,r12,f0,f3,f4,hlt,SB,seval,zCa,aOp,zB,aUn,reduceCtorEq,zFr,place,zTu,zRe]
  exact hQ _ q k (hO.app _) hC.app
 have sG:=hC.sl hs (fun _ _ _=>by simp)
 have ld0:=fun X=>(sG.app X).loadCell zEl hlt (j:=0) (by decide)
 rw [zbh] at ld0
 have ld1:=fun X=>(sG.app X).loadCell zEl hlt (j:=1) (by decide)
 rw [zbg] at ld1
 have ld2:=fun X=>(sG.app X).loadCell zEl hlt (j:=2) (by decide)
 rw [zbf] at ld2
 have xS:=fun c (kk:IntKind) (H1:zH)=>sG.idx (c:=c) (k:=kk) (H1:=H1) hlt
 have hlj:(s.take j).length=j:=by rw [List.length_take];omega
 have w1:IntKind.i64.wrap ((j:Int)+1)=((j+1:Nat):Int):=zWn (by omega)
 have hlG:lim≤G'.length:=by omega
 obtain ⟨G2,p2,c2,e2,O2,C2,hold2,l2,hp2,_⟩:=hO.moreD (d:=G'.length+1) (lim':=lim) (bytes:=24) hlim zEl (by decide) [gt s j] (by rw [hlj];unfold za2;simp;omega) (by rw [hlj];simp;omega) hl [.cells false (encS (gt s j)),.dead] (by omega) (by simp) (x:=.slice (some ⟨G'.length,0,none⟩) 1 1) (str:=false)
  (zb3 (m:=[gt s j]) (Sl.row zEl (by rw [zHn];simp;rfl))) rfl
 rw [hlj] at e2
 rw [←zad hlt] at O2
 simp only [encS,List.length_cons,List.length_nil,Nat.zero_add] at e2
 simp only [n12,r12,f0,f3,f4,hlt,ld0,ld1,ld2,xS,w1,e2,hlG,SB,seval,zCa,aOp,zB,aUn,reduceCtorEq,zFr,place,zTu,zRe]
 exact hN (j+1,p2,c2) _ _ ⟨by show j+1≤_;omega,by exact f0,(by rfl),(by rfl),O2,C2 [] H (Nat.le_refl _) hC⟩ (by show s.length-(j+1)<s.length-j;omega)
theorem otherLoads_ok [OB] {lim c:Nat} {p:Option Addr} {s:List Flow.Ld} {H:zH} {Q:Value→zH→Prop} (hs:Sl H encD 4 p s) (hn:s.length≤200) (hlim:lim≤H.length)
  (hQ:∀G p' c',Own H.length G encD 4 p' c' s→Chg [] H G→Q (.slice p' s.length c') G):za0 E false lim 13 [.slice p s.length c] H Q:=by
 refine runs' (by decide) e13 rfl ?_
 rw [b13,c13]
 refine zRp ?_
 simp only [n13,r13,SB,seval,zCa,aOp,zB,aUn,reduceCtorEq,zFr,place,zTu,zRe]
 refine zRr (fun z:Nat×Option Addr×Nat=>s.length-z.1) (fun z fr G'=>z.1≤s.length∧fr 0=.slice p s.length c∧fr 3=.slice z.2.1 z.1 z.2.2∧fr 4=.int .i64 (z.1:Int)∧Own H.length G' encD 4 z.2.1 z.2.2 (s.take z.1)∧Chg [] H G') (0,none,0) ⟨Nat.zero_le _,(by rfl),by rfl,by rfl,.nil,Chg.refl.app⟩ ?_
 rintro ⟨j,q,k⟩ fr G' ⟨hj,f0,f3,f4,hO,hC⟩ hN
 simp only at hj f3 f4 hO
 have hl:=hC.len
 rw [zRc l13_1.eq_1]
 refine zRp ?_
 by_cases hlt:j<s.length
 case neg=>
  obtain rfl:j=s.length:=by omega
  rw [List.take_length] at hO
  simp only [n13,r13,f0,f3,f4,hlt,SB,seval,zCa,aOp,zB,aUn,reduceCtorEq,zFr,place,zTu,zRe]
  exact hQ _ q k (hO.app _) hC.app
 have sG:=hC.sl hs (fun _ _ _=>by simp)
 have ld0:=fun X=>(sG.app X).loadCell zDl hlt (j:=0) (by decide)
 rw [zau] at ld0
 have ld1:=fun X=>(sG.app X).loadCell zDl hlt (j:=1) (by decide)
 rw [zat] at ld1
 have ld2:=fun X=>(sG.app X).loadCell zDl hlt (j:=2) (by decide)
 rw [zax] at ld2
 have ld3:=fun X=>(sG.app X).loadCell zDl hlt (j:=3) (by decide)
 rw [zaw] at ld3
 have xS:=fun c (kk:IntKind) (H1:zH)=>sG.idx (c:=c) (k:=kk) (H1:=H1) hlt
 have hlj:(s.take j).length=j:=by rw [List.length_take];omega
 have w1:IntKind.i64.wrap ((j:Int)+1)=((j+1:Nat):Int):=zWn (by omega)
 have hlG:lim≤G'.length:=by omega
 obtain ⟨G2,p2,c2,e2,O2,C2,hold2,l2,hp2,_⟩:=hO.moreD (d:=G'.length+1) (lim':=lim) (bytes:=32) hlim zDl (by decide) [gt s j] (by rw [hlj];unfold za2;simp;omega) (by rw [hlj];simp;omega) hl [.cells false (encD (gt s j)),.dead] (by omega) (by simp) (x:=.slice (some ⟨G'.length,0,none⟩) 1 1) (str:=false)
  (zb3 (m:=[gt s j]) (Sl.row zDl (by rw [zHn];simp;rfl))) rfl
 rw [hlj] at e2
 rw [←zad hlt] at O2
 simp only [encD,List.length_cons,List.length_nil,Nat.zero_add] at e2
 simp only [n13,r13,f0,f3,f4,hlt,ld0,ld1,ld2,ld3,xS,w1,e2,hlG,SB,seval,zCa,aOp,zB,aUn,reduceCtorEq,zFr,place,zTu,zRe]
 exact hN (j+1,p2,c2) _ _ ⟨by show j+1≤_;omega,by exact f0,(by rfl),(by rfl),O2,C2 [] H (Nat.le_refl _) hC⟩ (by show s.length-(j+1)<s.length-j;omega)
end Go.Proofs.Ytohnaffmcjbpoaa.Fn

namespace Go.Flow
open Go.AM Go.Net
theorem ldLe_trans {a b c:Ld} (h1:¬ldLt b a) (h2:¬ldLt c b):¬ldLt c a:=by unfold ldLt at *;omega
theorem put_sorted {O:List Ld} {x:Ld} {k:Nat} (hO:O.Pairwise (fun a b=>¬ldLt b a)) (hk:k≤O.length) (h1:∀j,k≤j→j<O.length→ldLt x (gt O j)) (h2:∀j,j+1=k→¬ldLt x (gt O j)) :
  (O.take k++[x]++O.drop k).Pairwise (fun a b=>¬ldLt b a)∧(O.take k++[x]++O.drop k).Perm (O++[x]):=by
 have hsp:=hO
 rw [←List.take_append_drop k O,List.pairwise_append] at hsp
 obtain ⟨ha,hb,hab⟩:=hsp
 have hd:∀y∈O.drop k,ldLt x y:=fun y hy=>by
  obtain ⟨j,hj,rfl⟩:=List.mem_iff_getElem.1 hy
  rw [List.length_drop] at hj
  rw [List.getElem_drop]
  have:=h1 (k+j) (by omega) (by omega)
  rwa [zGl (by omega)] at this
 have ht:∀y∈O.take k,¬ldLt x y:=fun y hy=>by
  obtain ⟨j,hj,rfl⟩:=List.mem_iff_getElem.1 hy
  rw [List.length_take] at hj
  rw [List.getElem_take]
  have hl:=h2 (k-1) (by omega)
  rcases Nat.lt_or_ge j (k-1) with hlt | hge
  ·have hp:=List.pairwise_iff_getElem.1 hO j (k-1) (by omega) (by omega) hlt
   rw [zGl (by omega)] at hl
   exact ldLe_trans hp hl
  ·obtain rfl:j=k-1:=by omega
   rwa [zGl (by omega)] at hl
 refine ⟨?_, ?_⟩
 ·rw [List.append_assoc,List.pairwise_append]
  refine ⟨ha, ?_,fun a h b hb'=>?_⟩
  ·rw [List.singleton_append,List.pairwise_cons]
   exact ⟨fun y hy h=>by have:=hd y hy;unfold ldLt at *;omega,hb⟩
  ·rcases List.mem_append.1 hb' with h' | h'
   ·simp only [List.mem_singleton] at h';subst h';exact ht a h
   ·exact hab a h b h'
 ·have:=(List.perm_append_comm (l₁:=[x]) (l₂:=O.drop k)).append_left (O.take k)
  rw [←List.append_assoc (O.take k) (O.drop k),List.take_append_drop] at this
  rwa [List.append_assoc]
end Go.Flow
namespace Go.Proofs.Ytohnaffmcjbpoaa.Fn
open Go.AM Go.AM.Sym Go.Net Go.Flow
theorem ins_loop [OB] {lim n c B13:Nat} {p:Option Addr} {O:List Flow.Ld} {x:Flow.Ld} {v1 v2 v3 v8 v9 v10:Value} {G:zH} {fr:Nat→Value} {K:List zAi} {Q:Value→zH→Prop}
  (hs:Sl G encD 4 p O) (hn:O.length=n) (hn1:n<2 ^ 40) (hB:zG G B13=.cells false (encD x))
  (f1:fr 1=v1) (f2:fr 2=v2) (f3:fr 3=v3) (f8:fr 8=v8) (f9:fr 9=v9) (f10:fr 10=v10) (f7:fr 7=.slice p n c) (f13:fr 13=.pointer (some ⟨B13,0,none⟩)) (f14:fr 14=.int .i64 (n:Int))
  (hK:∀fr' k,k≤n→(∀j,k≤j→j<O.length→ldLt x (gt O j))→(∀j,j+1=k→¬ldLt x (gt O j))→fr' 1=v1→fr' 2=v2→fr' 3=v3→fr' 8=v8→fr' 9=v9→fr' 10=v10→fr' 7=.slice p n c→fr' 13=.pointer (some ⟨B13,0,none⟩)→fr' 14=.int .i64 (k:Int)→Ret E a31 lim K fr' (G++[]) Q) :
  Ret E a31 lim (.code (.loop l31_1)::.inBlock 4::K) fr G Q:=by
 subst hn
 refine zRr (fun k:Nat=>k) (fun k fr2 G2=>k≤O.length∧(∀j,k≤j→j<O.length→ldLt x (gt O j))∧fr2 1=v1∧fr2 2=v2∧fr2 3=v3∧fr2 8=v8∧fr2 9=v9∧fr2 10=v10∧fr2 7=.slice p O.length c∧fr2 13=.pointer (some ⟨B13,0,none⟩)∧fr2 14=.int .i64 (k:Int)∧G2=G++[]) O.length ⟨Nat.le_refl _,fun j h1 h2=>by omega,f1,f2,f3,f8,f9,f10,f7,f13,f14,by simp⟩ ?_
 rintro k fr2 G2 ⟨hk,hall,q1,q2,q3,q8,q9,q10,q7,q13,q14,rfl⟩ hN
 rw [zRc l31_1.eq_1]
 have bX:=fun X=>(Ext.refl.app (X:=X)).cells hB
 match k,hk,hall,q14,hN with
 | 0,hk,hall,q14,hN=>
   replace q14:fr2 14=.int .i64 0:=q14
   have h0:¬(0:Int)<0:=by decide
   simp only [n31,r31,q1,q2,q3,q8,q9,q10,q7,q13,q14,eq_false h0,SB,seval,zCa,aOp,zB,aUn,reduceCtorEq,zFr,place,zTu,zRe]
   exact hK _ 0 (Nat.zero_le _) hall (fun j hj=>by omega) (by exact q1) (by exact q2) (by exact q3) (by exact q8) (by exact q9) (by exact q10) (by exact q7) (by exact q13) (by rw [show (.int .i64 ((0:Nat):Int):Value)=.int .i64 0 from rfl];exact (by exact q14))
 | k+1,hk,hall,q14,hN=>
   have hlt:k<O.length:=by omega
   have hp:(0:Int)<((k+1:Nat):Int):=by omega
   have w1:IntKind.i64.wrap (((k+1:Nat):Int)-1)=(k:Int):=by rw [show ((k+1:Nat):Int)-1=(k:Int) by omega];exact zWi (by omega) (by omega)
   obtain ⟨kk,hkk⟩:∃kk:Int,kk=((k+1:Nat):Int):=⟨_,rfl⟩
   rw [←hkk] at hp w1 q14
   have lD:=fun X=>(hs.app X).loadCells zDl hlt
   have xD:=ix_N hs hlt rfl
   have haf:=fun (H:zH) (mp:Bool) (lim:Nat) (Q:Value→zH→Prop)=>after_ok (a:=gt O k) (b:=x) (mp:=mp) (lim:=lim) (H:=H) (Q:=Q)
   by_cases h1:ldLt x (gt O k)
   ·rw [decide_eq_true h1] at haf
    simp only [n31,r31,q1,q2,q3,q8,q9,q10,q7,q13,q14,eq_true hp,w1,lD,xD,bX,haf,zDl,zTa,zSa,SB,seval,zCa,aOp,zB,aUn,reduceCtorEq,zFr,place,zTu,zRe]
    exact hN k _ _ ⟨by omega,fun j h2 h3=>by
     rcases (by omega:j=k∨k+1≤j) with h | h
     ·rw [h];exact h1
     ·exact hall j h h3,by exact q1,by exact q2,by exact q3,by exact q8,by exact q9,by exact q10,by exact q7,by exact q13,(by rfl),rfl⟩ (by omega)
   ·rw [decide_eq_false h1] at haf
    simp only [n31,r31,q1,q2,q3,q8,q9,q10,q7,q13,q14,eq_true hp,w1,lD,xD,bX,haf,zDl,zTa,zSa,SB,seval,zCa,aOp,zB,aUn,reduceCtorEq,zFr,place,zTu,zRe]
    exact hK _ (k+1) hk hall (fun j hj=>by rw [show j=k by omega];exact h1) (by exact q1) (by exact q2) (by exact q3) (by exact q8) (by exact q9) (by exact q10) (by exact q7) (by exact q13) (by rw [←hkk];exact (by exact q14))
theorem put_in {lim n c k:Nat} {p:Option Addr} {O:List Flow.Ld} {x:Flow.Ld} {H G:zH} (hO:Own H.length G encD 4 p c O) (hC:Chg [] H G) (hn:O.length=n) (hk:k≤n) (hn1:n<2 ^ 30) (hlim:lim≤H.length) :
  ∃p1 c1 G2 pA cA G3 p2 c2 G4 pC cC,zdl 4 (.slice p n c) none (some (.int .i64 (k:Int))) none=some (.slice p1 k c1)∧
   zAa lim none 4 32 false (.slice none 0 0) (.slice p1 k c1) (G++[])=some (.slice pA k cA,G2++[])∧
   zAa lim none 4 32 false (.slice pA k cA) (.slice (some ⟨G2.length,0,none⟩) 1 1) (G2++[.cells false (encD x)])=some (.slice (some ⟨G2.length+1,0,none⟩) (k+1) (loose 4),G3++[])∧
   zdl 4 (.slice p n c) (some (.int .i64 (k:Int))) none none=some (.slice p2 (n-k) c2)∧
   zAa lim none 4 32 false (.slice (some ⟨G2.length+1,0,none⟩) (k+1) (loose 4)) (.slice p2 (n-k) c2) (G3++[])=some (.slice pC (n+1) cC,G4++[])∧
   Own H.length G4 encD 4 pC cC (O.take k++[x]++O.drop k)∧Chg [] G G4∧Chg [] G G2∧Chg [] G G3∧lim≤G2.length:=by
 subst hn
 have hl:=hC.len
 have hs:=hO.sl zDl
 have hcap:=hO.capOk
 obtain ⟨p1,c1,x1,s1,_,_,_⟩:=slice_cut (vlo:=none) (vhi:=some (.int .i64 (k:Int))) (lo:=0) (hi:=k) hs hcap zDl (fun cap h=>by rw [bv_010 (by omega) (by omega),Int.toNat_natCast]) (Nat.zero_le _) hk (by omega)
 rw [Nat.sub_zero,List.drop_zero] at *
 have ht:(O.take k).length=k:=by rw [List.length_take];omega
 have hf1:firstCells (G++[]) 4 false (.slice p1 k c1)=some ((O.take k).flatMap encD):=by
  have:=zb3 (k:=c1) (s1.app [])
  rw [ht] at this
  exact this
 obtain ⟨G2,pA,cA,eA,OA,CA,KA,lA⟩:=(Own.nil (lim:=G.length) (G:=G) (enc:=encD) (e:=4)).more (lim':=lim) (bytes:=32) (by omega) zDl (by decide) (O.take k) (by simp;unfold za2;omega) (by simp;omega) (Nat.le_refl _) [] (x:=.slice p1 k c1) (str:=false) hf1 (by show some k=some _;rw [ht])
 simp only [List.length_nil,Nat.zero_add,List.nil_append,ht,List.append_nil] at eA OA CA
 have c2':=CA [] G (Nat.le_refl _) Chg.refl
 have hl2:=c2'.len
 obtain ⟨G3,eB,OB3,CB,KB,hl3,_⟩:=OA.step (lim':=lim) (bytes:=32) (by omega) zDl (by decide) x (by rw [ht];unfold za2;omega) (by rw [ht];omega) hl2 [.cells false (encD x)] G2.length 1 (by rw [zHn];rfl)
 simp only [List.length_cons,List.length_nil,Nat.zero_add,ht,List.append_nil] at eB OB3 CB
 have c3':=CB [] G (Nat.le_refl _) c2'
 have s3:=c3'.sl hs fun _ _ _=>by simp
 obtain ⟨p2,c2,x2,s2,_,_,_⟩:=slice_cut (vlo:=some (.int .i64 (k:Int))) (vhi:=none) (lo:=k) (hi:=O.length) s3 hcap zDl (fun cap h=>by rw [bv_100 (by omega) (by omega),Int.toNat_natCast]) hk (Nat.le_refl _) (by omega)
 rw [List.take_length] at s2
 have hd:(O.drop k).length=O.length-k:=List.length_drop
 have hf2:firstCells (G3++[]) 4 false (.slice p2 (O.length-k) c2)=some ((O.drop k).flatMap encD):=by
  have:=zb3 (k:=c2) (s2.app [])
  rw [hd] at this
  exact this
 have htl:(O.take k++[x]).length=k+1:=by rw [List.length_append,ht];rfl
 obtain ⟨G4,pC,cC,eC,OC,CC,KC,lC⟩:=OB3.more (lim':=lim) (bytes:=32) (by omega) zDl (by decide) (O.drop k) (by rw [htl,hd];unfold za2;omega) (by rw [htl,hd];omega) c3'.len [] (x:=.slice p2 (O.length-k) c2) (str:=false) hf2 (by show some (O.length-k)=some _;rw [hd])
 rw [htl,hd,show k+1+(O.length-k)=O.length+1 by omega] at eC
 simp only [List.append_nil] at OC CC eC eA eB
 refine ⟨p1,c1,G2,pA,cA,G3,p2,c2,G4,pC,cC,x1,by simpa using eA,by simpa using eB,x2,by simpa using eC,OC.le (by omega),CC [] G (Nat.le_refl _) c3',c2',c3',by omega⟩
theorem ldOf_map {C:List (Leg×Int)} {c:Leg×Int} {O:List Flow.Ld} (h:O.Perm (C.map ldOf)):(O++[ldOf c]).Perm ((C++[c]).map ldOf):=by
 rw [List.map_append];exact h.append_right _
theorem rcounted_ok [OB] {lim cp cl:Nat} {pp pl:Option Addr} {P:List Int} {L:List Leg} {to dl:Int} {H:zH} {Q:Value→zH→Prop} (hn:NetIn H pp pl P L) (hF:∀l∈L,Fine l) (hL8:L.length≤8) (hd0:0≤dl) (hd1:dl≤za1) (hlim:lim≤H.length)
  (hQ:∀G q c O,Own H.length G encD 4 q c O→O.Perm ((zCc L to dl).map ldOf)→O.Pairwise (fun x y=>¬ldLt y x)→Chg [] H G→Q (.slice q O.length c) G) :
  za0 E false lim 31 [.agg (netV pp P.length cp pl L.length cl).toArray,.int .i64 to,.int .i64 dl] H Q:=by
 have mt:za1=1051898399:=rfl
 refine runs' (by decide) e31 rfl ?_
 rw [b31,c31]
 refine zRp ?_
 simp only [n31,r31,hlim,SB,seval,zCa,aOp,zB,aUn,reduceCtorEq,zFr,place,zTu,zRe]
 refine zRr (fun z:Nat×List Flow.Ld×Option Addr×Nat=>L.length-z.1) (fun z fr G=>z.1≤L.length∧fr 1=.int .i64 to∧fr 2=.int .i64 dl∧fr 3=.pointer (some ⟨H.length,0,none⟩)∧fr 8=.int .i64 (z.1:Int)∧fr 7=.slice z.2.2.1 z.2.1.length z.2.2.2∧H.length<G.length∧zG G H.length=.cells false (netV pp P.length cp pl L.length cl)∧Own H.length G encD 4 z.2.2.1 z.2.2.2 z.2.1∧z.2.1.Perm ((zCc (L.take z.1) to dl).map ldOf)∧z.2.1.Pairwise (fun x y=>¬ldLt y x)∧Chg [] H G) (0,[],none,0)
  ⟨Nat.zero_le _,(by rfl),(by rfl),(by rfl),by rfl,by rfl,by simp,zHn,.nil,List.Perm.refl _,List.Pairwise.nil,Chg.refl.app⟩ ?_
 rintro ⟨i,O,q,c⟩ fr G ⟨hi,f1,f2,f3,f8,f7,hlG,hB,hO,hp,hpw,hC⟩ hN
 simp only at hi f8 f7 hO hp hpw
 rw [zRc l31_3.eq_1]
 refine zRp ?_
 have bX:=fun X=>(Ext.refl.app (X:=X)).cells hB
 by_cases hlt:i<L.length
 case neg=>
  obtain rfl:i=L.length:=by omega
  rw [List.take_length] at hp
  simp only [n31,r31,f1,f2,f3,f8,f7,hlt,bX,zNl,zN0,zN1,SB,seval,zCa,aOp,zB,aUn,reduceCtorEq,zFr,place,zTu,zRe]
  exact hQ _ q c O (hO.app _) hp hpw hC.app
 have nG:=hn.ext hC.ext
 have lL:=fun X=>(nG.sl.app X).loadCells zLl hlt
 have xL:=ix_N nG.sl hlt rfl
 obtain ⟨l,hl⟩:∃l,l=gt L i:=⟨_,rfl⟩
 rw [←hl] at lL
 have hFl:Fine l:=by rw [hl];exact hF _ (za9 hlt)
 have hFu:=hFl
 unfold Fine at hFu
 obtain ⟨d0,hq,hq1,hq2,hq3⟩:=div_first hd0 hd1
 have wdl:=div_day hd0 hd1
 have ws:IntKind.i64.wrap (dl-20160)=dl-20160:=zWi (by omega) (by omega)
 have wd0:IntKind.i64.wrap (d0-1)=d0-1:=zWi (by omega) (by omega)
 have w1:IntKind.i64.wrap ((i:Int)+1)=((i+1:Nat):Int):=zWn (by omega)
 have hlG':lim≤G.length:=by omega
 simp only [n31,r31,f1,f2,f3,f8,f7,hlt,bX,zNl,zN0,zN1,lL,xL,zLl,zTa,zSa,hlG',ws,hq,wd0,SB,seval,zCa,aOp,zB,aUn,reduceCtorEq,zFr,place,zTu,zRe]
 have enext:zCc (L.take (i+1)) to dl=zCc (L.take i) to dl++oneC to dl l:=by rw [hl];exact countC_take hlt
 have hcl:=zcc (L:=L.take i) (to:=to) (dl:=dl) fun x hx=>hF x (List.mem_of_mem_take hx)
 rw [List.length_take] at hcl
 refine zRr (fun z:Int×List Flow.Ld×Option Addr×Nat=>(dl / 1440+1-z.1).toNat) (fun z fr2 G2=>d0-1≤z.1∧z.1≤dl / 1440+1∧fr2 1=.int .i64 to∧fr2 2=.int .i64 dl∧fr2 3=.pointer (some ⟨H.length,0,none⟩)∧fr2 8=.int .i64 (i:Int)∧fr2 9=.pointer (some ⟨G.length,0,none⟩)∧fr2 10=.int .i64 z.1∧fr2 7=.slice z.2.2.1 z.2.1.length z.2.2.2∧zG G2 H.length=.cells false (netV pp P.length cp pl L.length cl)∧zG G2 G.length=.cells false (encL l)∧Own H.length G2 encD 4 z.2.2.1 z.2.2.2 z.2.1∧z.2.1.Perm ((zCc (L.take i) to dl++(if l.frm=to then [] else upC l dl z.1.toNat)).map ldOf)∧z.2.1.Pairwise (fun x y=>¬ldLt y x)∧Chg [] H G2) (d0-1,O,q,c)
  ⟨Int.le_refl _,by show d0-1≤_;omega,by exact f1,by exact f2,by exact f3,by exact f8,(by rfl),(by rfl),by exact f7,(Ext.refl.app).cells hB,zHn,hO.app _,by rw [upC_early hFl (by show (((d0-1).toNat:Nat):Int)≤_;omega),ite_self,List.append_nil];exact hp,hpw,hC.app⟩ ?_
 rintro ⟨d,O2,q2,c2⟩ fr2 G2 ⟨hda,hdb,g1,g2,g3,g8,g9,g10,g7,hB2,b9,hO2,hp2,hpw2,hC2⟩ hN2
 simp only at hda hdb g10 g7 hO2 hp2 hpw2
 rw [zRc l31_2.eq_1]
 refine zRp ?_
 have k9:=fun X=>(Ext.refl.app (X:=X)).cells b9
 have hl2:=zHa b9
 have hlen2:=hp2.length_eq
 rw [List.length_map,List.length_append] at hlen2
 by_cases hdl:d≤dl / 1440
 case neg=>
  simp only [n31,r31,g1,g2,g3,g8,g9,g10,g7,k9,zLl,zL0,zL1,zL2,zL3,zL4,zL5,zL6,zL7,zTa,wdl,hdl,w1,SB,seval,zCa,aOp,zB,aUn,reduceCtorEq,zFr,place,zTu,zRe]
  refine hN (i+1,O2,q2,c2) _ _ ⟨by show i+1≤_;omega,by exact g1,by exact g2,by exact g3,(by rfl),by exact g7,by simp;omega,(Ext.refl.app).cells hB2,hO2.app _, ?_,hpw2,hC2.app⟩ (by show L.length-(i+1)<L.length-i;omega)
  show O2.Perm ((zCc (L.take (i+1)) to dl).map ldOf)
  rw [enext]
  rw [show d=dl / 1440+1 by omega] at hp2
  exact hp2
 by_cases hto:l.frm=to
 ·simp only [n31,r31,g1,g2,g3,g8,g9,g10,g7,k9,zLl,zL0,zL1,zL2,zL3,zL4,zL5,zL6,zL7,zTa,wdl,hdl,w1,eq_true hto,SB,seval,zCa,aOp,zB,aUn,reduceCtorEq,zFr,place,zTu,zRe]
  rw [if_pos hto,List.append_nil] at hp2
  refine hN (i+1,O2,q2,c2) _ _ ⟨by show i+1≤_;omega,by exact g1,by exact g2,by exact g3,(by rfl),by exact g7,by simp;omega,(Ext.refl.app).cells hB2,hO2.app _, ?_,hpw2,hC2.app⟩ (by show L.length-(i+1)<L.length-i;omega)
  show O2.Perm ((zCc (L.take (i+1)) to dl).map ldOf)
  rw [enext,show oneC to dl l=[] from if_pos hto,List.append_nil]
  exact hp2
 rw [if_neg hto] at hp2 hlen2
 have hul:=upC_len (l:=l) (dl:=dl) (k:=d.toNat)
 have wd1:IntKind.i64.wrap (d+1)=d+1:=zWi (by omega) (by omega)
 have hon:=fun (H:zH) (mp:Bool) (lim:Nat) (Q:Value→zH→Prop)=>ron_ok (mp:=mp) (lim:=lim) (d:=d) (H:=H) (Q:=Q) hFl
 have hlG2:lim≤G2.length:=by omega
 by_cases hneg:d<0
 ·rw [show onDay l d=none from if_neg (by omega)] at hon
  simp only [depV] at hon
  have eup:upC l dl (d+1).toNat=upC l dl d.toNat:=by rw [show (d+1).toNat=0 by omega,show d.toNat=0 by omega]
  simp only [n31,r31,g1,g2,g3,g8,g9,g10,g7,k9,zLl,zL0,zL1,zL2,zL3,zL4,zL5,zL6,zL7,zTa,wdl,hdl,eq_false hto,zSa,hlG2,hon,wd1,ws,SB,seval,zCa,aOp,zB,aUn,reduceCtorEq,zFr,place,zTu,zRe]
  refine hN2 (d+1,O2,q2,c2) _ _ ⟨by show d0-1≤d+1;omega,by show d+1≤_;omega,by exact g1,by exact g2,by exact g3,by exact g8,by exact g9,(by rfl),by exact g7,(Ext.refl.app).cells hB2,(Ext.refl.app).cells b9,hO2.app _,by rw [if_neg hto];show O2.Perm ((_++upC l dl (d+1).toNat).map ldOf);rw [eup];exact hp2,hpw2,hC2.app⟩ (by show (dl / 1440+1-(d+1)).toNat<(dl / 1440+1-d).toNat;omega)
 have eu1:upC l dl (d+1).toNat=upC l dl d.toNat++cntD l dl d.toNat:=by rw [show (d+1).toNat=d.toNat+1 by omega,upC_succ]
 have hdd:((d.toNat:Nat):Int)=d:=by omega
 rw [show onDay l d=depOn l d.toNat from if_pos ⟨by omega,by omega⟩] at hon
 by_cases hg:goes l d.toNat=true
 case neg=>
  have ec:cntD l dl d.toNat=[]:=if_neg fun h=>hg h.1
  have eup:upC l dl (d+1).toNat=upC l dl d.toNat:=by rw [eu1,ec,List.append_nil]
  rw [show depOn l d.toNat=none from if_neg hg] at hon
  simp only [depV] at hon
  simp only [n31,r31,g1,g2,g3,g8,g9,g10,g7,k9,zLl,zL0,zL1,zL2,zL3,zL4,zL5,zL6,zL7,zTa,wdl,hdl,eq_false hto,zSa,hlG2,hon,wd1,ws,SB,seval,zCa,aOp,zB,aUn,reduceCtorEq,zFr,place,zTu,zRe]
  refine hN2 (d+1,O2,q2,c2) _ _ ⟨by show d0-1≤d+1;omega,by show d+1≤_;omega,by exact g1,by exact g2,by exact g3,by exact g8,by exact g9,(by rfl),by exact g7,(Ext.refl.app).cells hB2,(Ext.refl.app).cells b9,hO2.app _,by rw [if_neg hto];show O2.Perm ((_++upC l dl (d+1).toNat).map ldOf);rw [eup];exact hp2,hpw2,hC2.app⟩ (by show (dl / 1440+1-(d+1)).toNat<(dl / 1440+1-d).toNat;omega)
 rw [show depOn l d.toNat=some (1440*d+l.dep,1440*d+l.dep+l.mins) from by unfold depOn;rw [if_pos hg,hdd]] at hon
 simp only [depV] at hon
 by_cases h1:dl-20160≤1440*d+l.dep
 case neg=>
  have ec:cntD l dl d.toNat=[]:=if_neg fun h=>by have:=h.2.1;omega
  have eup:upC l dl (d+1).toNat=upC l dl d.toNat:=by rw [eu1,ec,List.append_nil]
  have h1':1440*d+l.dep<dl-20160:=by omega
  simp only [n31,r31,g1,g2,g3,g8,g9,g10,g7,k9,zLl,zL0,zL1,zL2,zL3,zL4,zL5,zL6,zL7,zTa,wdl,hdl,eq_false hto,zSa,hlG2,hon,wd1,ws,eq_true h1',SB,seval,zCa,aOp,zB,aUn,reduceCtorEq,zFr,place,zTu,zRe]
  refine hN2 (d+1,O2,q2,c2) _ _ ⟨by show d0-1≤d+1;omega,by show d+1≤_;omega,by exact g1,by exact g2,by exact g3,by exact g8,by exact g9,(by rfl),by exact g7,(Ext.refl.app).cells hB2,(Ext.refl.app).cells b9,hO2.app _,by rw [if_neg hto];show O2.Perm ((_++upC l dl (d+1).toNat).map ldOf);rw [eup];exact hp2,hpw2,hC2.app⟩ (by show (dl / 1440+1-(d+1)).toNat<(dl / 1440+1-d).toNat;omega)
 have h1':¬1440*d+l.dep<dl-20160:=by omega
 by_cases h2:dl<1440*d+l.dep+l.mins
 ·have ec:cntD l dl d.toNat=[]:=if_neg fun h=>by have:=h.2.2;omega
  have eup:upC l dl (d+1).toNat=upC l dl d.toNat:=by rw [eu1,ec,List.append_nil]
  simp only [n31,r31,g1,g2,g3,g8,g9,g10,g7,k9,zLl,zL0,zL1,zL2,zL3,zL4,zL5,zL6,zL7,zTa,wdl,hdl,eq_false hto,zSa,hlG2,hon,wd1,ws,eq_false h1',eq_true h2,SB,seval,zCa,aOp,zB,aUn,reduceCtorEq,zFr,place,zTu,zRe]
  refine hN2 (d+1,O2,q2,c2) _ _ ⟨by show d0-1≤d+1;omega,by show d+1≤_;omega,by exact g1,by exact g2,by exact g3,by exact g8,by exact g9,(by rfl),by exact g7,(Ext.refl.app).cells hB2,(Ext.refl.app).cells b9,hO2.app _,by rw [if_neg hto];show O2.Perm ((_++upC l dl (d+1).toNat).map ldOf);rw [eup];exact hp2,hpw2,hC2.app⟩ (by show (dl / 1440+1-(d+1)).toNat<(dl / 1440+1-d).toNat;omega)
 have ec:cntD l dl d.toNat=[(l,1440*d+l.dep)]:=by
  unfold cntD
  rw [hdd]
  exact if_pos ⟨hg,by omega,by omega⟩
 obtain ⟨x,hx⟩:∃x,x=ldOf (l,1440*d+l.dep):=⟨_,rfl⟩
 simp only [n31,r31,g1,g2,g3,g8,g9,g10,g7,k9,zLl,zL0,zL1,zL2,zL3,zL4,zL5,zL6,zL7,zTa,wdl,hdl,eq_false hto,zSa,hlG2,hon,wd1,ws,eq_false h1',eq_false h2,SB,seval,zCa,aOp,zB,aUn,reduceCtorEq,zFr,place,zTu,zRe]
 obtain ⟨G3,hG3⟩:∃G3,G3=G2++[Blk.cells false [.int .i64 (1440*d+l.dep),.int .i64 (1440*d+l.dep+l.mins)],Blk.cells false [.int .i64 l.id,.int .i64 (1440*d+l.dep),.int .i64 (1440*d+l.dep+l.mins),.int .i64 l.grams]]:=⟨_,rfl⟩
 have b13:zG G3 (G2.length+1)=.cells false (encD x):=by rw [hG3,zHw,hx];rfl
 have hC3:Chg [] H G3:=by rw [hG3];exact hC2.app
 have hO3:Own H.length G3 encD 4 q2 c2 O2:=by rw [hG3];exact hO2.app _
 have hB3:zG G3 H.length=.cells false (netV pp P.length cp pl L.length cl):=by rw [hG3];exact (Ext.refl.app).cells hB2
 have b93:zG G3 G.length=.cells false (encL l):=by rw [hG3];exact (Ext.refl.app).cells b9
 have hl3:G3.length=G2.length+2:=by rw [hG3];simp
 rw [←hG3]
 clear hG3
 refine ins_loop (O:=O2) (x:=x) (B13:=G2.length+1) (c:=c2) (p:=q2) (v1:=.int .i64 to) (v2:=.int .i64 dl) (v3:=.pointer (some ⟨H.length,0,none⟩)) (v8:=.int .i64 (i:Int)) (v9:=.pointer (some ⟨G.length,0,none⟩)) (v10:=.int .i64 d) (hO3.sl zDl) rfl (by omega) b13 (by exact g1) (by exact g2) (by exact g3) (by exact g8) (by exact g9) (by exact g10) (by exact g7) (by rfl) (by rfl) fun fr3 k hk hge hle r1 r2 r3 r8 r9 r10 r7 r13 r14=>?_
 obtain ⟨p1,c1,G4,pA,cA,G5,p2,c2',G6,pC,cC,x1,eA,eB,x2,eC,O6,C6,C4,C5,hl4⟩:=put_in (x:=x) hO3 hC3 rfl hk (by omega) hlim
 have k13:=fun X=>(Ext.refl.app (X:=X)).cells (C4.cells b13 (by simp))
 obtain ⟨hs1,hs2⟩:=put_sorted hpw2 hk hge hle
 have hlen:(O2.take k++[x]++O2.drop k).length=O2.length+1:=by rw [hs2.length_eq,List.length_append];rfl
 simp only [n31,r31,r1,r2,r3,r8,r9,r10,r7,r13,r14,x1,eA,k13,zDl,zTa,zSa,eB,x2,eC,wd1,hlG2,SB,seval,zCa,aOp,zB,aUn,reduceCtorEq,zFr,place,zTu,zRe]
 have hCC:Chg [] H G6:=hC3.trans C6
 refine hN2 (d+1,O2.take k++[x]++O2.drop k,pC,cC) _ _ ⟨by show d0-1≤d+1;omega,by show d+1≤_;omega,by exact r1,by exact r2,by exact r3,by exact r8,by exact r9,(by rfl),by rw [hlen];exact (by rfl),(Ext.refl.app).cells (C6.cells hB3 (by simp)),(Ext.refl.app).cells (C6.cells b93 (by simp)),O6.app _, ?_,hs1,hCC.app⟩ (by show (dl / 1440+1-(d+1)).toNat<(dl / 1440+1-d).toNat;omega)
 rw [if_neg hto]
 show (O2.take k++[x]++O2.drop k).Perm ((_++upC l dl (d+1).toNat).map ldOf)
 rw [eu1,ec,←List.append_assoc]
 refine hs2.trans ?_
 rw [hx]
 exact ldOf_map hp2
def legF (L:List Leg) (a:Int):Leg:=(L.find? fun l=>l.id=a).getD ⟨0,0,0,0,0,0,0,0⟩
def chR (L:List Leg) (x:Flow.Ld):List Cg:=[((legF L x.leg).frm,x.dep-(legF L x.leg).cut,-x.gr),((legF L x.leg).dst,x.arr,x.gr)]
theorem rfind_ok' [OB] {mp:Bool} {lim:Nat} {pp pl:Option Addr} {P:List Int} {L:List Leg} {cp cl:Nat} {a:Int} {H:zH} {Q:Value→zH→Prop} (hn:NetIn H pp pl P L) :
  za0 E mp lim 33 [.agg (netV pp P.length cp pl L.length cl).toArray,.int .i64 a] H Q=Q (.tuple #[.agg (encL (legF L a)).toArray,.bool (L.find? fun l=>l.id=a).isSome]) H:=by
 rw [rfind_ok hn]
 unfold legF
 cases L.find? (fun l=>l.id=a)<;>rfl
theorem balC_abs {p t b:Int}:∀{l:List Cg},(∀x∈l,-b≤x.2.2∧x.2.2≤b)→0≤b→-(b*l.length)≤balC p t l∧balC p t l≤b*l.length
 | [],_,_=>by simp [balC]
 | x::l,h,hb=>by
   have ih:=balC_abs (p:=p) (t:=t) (l:=l) (fun y hy=>h y (List.mem_cons_of_mem _ hy)) hb
   have hx:=h x List.mem_cons_self
   rw [balC,List.length_cons,Int.natCast_succ,Int.mul_add,Int.mul_one]
   generalize b*(l.length:Int)=z at *
   split<;>omega
theorem rbal_ok [OB] {mp:Bool} {lim:Nat} {pp pl ps p4:Option Addr} {P:List Int} {L:List Leg} {s:List Flow.Src} {ld:List Flow.Ld} {cp cl cs c4:Nat} {p m:Int} {H:zH} {Q:Value→zH→Prop} (hn:NetIn H pp pl P L) (hs:Sl H encS 3 ps s) (h4:Sl H encD 4 p4 ld) (hns:s.length≤60) (hn4:ld.length≤200) (hg:∀x∈s,0≤x.gr∧x.gr≤1000000000) (hd:∀x∈ld,0≤x.gr∧x.gr≤1000000000) (hw:∀x∈ld,IntKind.i64.wrap (x.dep-(legF L x.leg).cut)=x.dep-(legF L x.leg).cut) :
  za0 E mp lim 34 [.agg (netV pp P.length cp pl L.length cl).toArray,.slice ps s.length cs,.slice p4 ld.length c4,.int .i64 p,.int .i64 m] H Q=Q (.int .i64 (balC p m (zaz s++ld.flatMap (chR L)))) H:=by
 refine pc (by decide) e34 rfl rfl ?_
 rw [b34,c34]
 have hab:∀j k,-(1000000000*(460:Int))≤balC p m (zaz (s.take j)++(ld.take k).flatMap (chR L))∧balC p m (zaz (s.take j)++(ld.take k).flatMap (chR L))≤1000000000*460:=fun j k=>by
  have h1:=balC_abs (p:=p) (t:=m) (b:=1000000000) (l:=zaz (s.take j)++(ld.take k).flatMap (chR L)) (fun x hx=>by
   rcases List.mem_append.1 hx with hx | hx
   ·obtain ⟨y,hy,rfl⟩:=List.mem_map.1 hx
    have:=hg y (List.mem_of_mem_take hy)
    show -1000000000≤y.gr∧y.gr≤1000000000
    omega
   ·obtain ⟨y,hy,hx⟩:=List.mem_flatMap.1 hx
    have:=hd y (List.mem_of_mem_take hy)
    unfold chR at hx
    simp only [List.mem_cons,List.not_mem_nil,or_false] at hx
    rcases hx with rfl | rfl
    ·show -1000000000≤-y.gr∧-y.gr≤1000000000
     omega
    ·show -1000000000≤y.gr∧y.gr≤1000000000
     omega) (by decide)
  have h2:(zaz (s.take j)++(ld.take k).flatMap (chR L)).length≤460:=by
   have e:∀l:List Flow.Ld,(l.flatMap (chR L)).length=2*l.length:=fun l=>by
    induction l with
    | nil=>rfl
    | cons x l ih=>rw [List.flatMap_cons,List.length_append,ih];show 2+_=_;simp only [List.length_cons];omega
   have e1:(zaz (s.take j)).length=(s.take j).length:=by unfold zaz;simp
   rw [List.length_append,e,e1,List.length_take,List.length_take]
   omega
  omega
 simp only [n34,r34,zNl,zN0,zN1,SB,seval,zCa,aOp,zB,aUn,reduceCtorEq,zFr,place,zTu,zRe]
 refine zRr (fun j=>s.length-j) (fun j fr G=>j≤s.length∧fr 1=.slice ps s.length cs∧fr 2=.slice p4 ld.length c4∧fr 3=.int .i64 p∧fr 4=.int .i64 m∧fr 5=.pointer (some ⟨H.length,0,none⟩)∧fr 12=.int .i64 (j:Int)∧fr 11=.int .i64 (balC p m (zaz (s.take j)))∧Ext H G∧zG G H.length=.cells false (netV pp P.length cp pl L.length cl)) 0
  ⟨Nat.zero_le _,(by rfl),(by rfl),(by rfl),(by rfl),(by rfl),by rfl,by rfl,Ext.refl.app,zHn⟩ ?_
 intro j fr G ⟨hj,f1,f2,f3,f4,f5,f12,f11,hE,hB⟩ hN
 rw [zRc l34_2.eq_1]
 refine zRp ?_
 have bX:=fun X=>(Ext.refl.app (X:=X)).cells hB
 by_cases hlt:j<s.length
 case pos=>
  have sG:=hE.sl hs
  have l0:=fun X=>(sG.app X).loadCell zEl hlt (j:=0) (by decide)
  rw [zbh] at l0
  have l1:=fun X=>(sG.app X).loadCell zEl hlt (j:=1) (by decide)
  rw [zbg] at l1
  have l2:=fun X=>(sG.app X).loadCell zEl hlt (j:=2) (by decide)
  rw [zbf] at l2
  have xS:=ix_N sG hlt rfl
  have w1:IntKind.i64.wrap ((j:Int)+1)=((j+1:Nat):Int):=zWn (by omega)
  have hb:=hab j 0
  rw [show (ld.take 0).flatMap (chR L)=[] from rfl,List.append_nil] at hb
  have hgj:=hg _ (za9 hlt)
  have eA:balC p m (zaz (s.take (j+1)))=balC p m (zaz (s.take j))+(if (gt s j).pl=p∧(gt s j).rd≤m then (gt s j).gr else 0):=by
   unfold zaz
   rw [zad hlt,List.map_append,zcg]
   show _+((if (gt s j).pl=p∧(gt s j).rd≤m then (gt s j).gr else 0)+0)=_
   omega
  obtain ⟨z,hz⟩:∃z,z=balC p m (zaz (s.take j)):=⟨_,rfl⟩
  rw [←hz] at f11 hb eA
  have wa:IntKind.i64.wrap (z+(gt s j).gr)=z+(gt s j).gr:=zWi (by omega) (by omega)
  by_cases h1:(gt s j).pl=p
  case neg=>
   rw [if_neg fun h=>h1 h.1,Int.add_zero] at eA
   simp only [n34,r34,f1,f2,f3,f4,f5,f12,f11,hlt,l0,l1,l2,xS,w1,wa,eq_false h1,SB,seval,zCa,aOp,zB,aUn,reduceCtorEq,zFr,place,zTu,zRe]
   exact hN (j+1) _ _ ⟨by omega,by exact f1,by exact f2,by exact f3,by exact f4,by exact f5,(by rfl),by rw [eA];exact (by exact f11),hE.app,(Ext.refl.app).cells hB⟩ (by omega)
  by_cases h2:(gt s j).rd≤m
  case neg=>
   rw [if_neg fun h=>h2 h.2,Int.add_zero] at eA
   simp only [n34,r34,f1,f2,f3,f4,f5,f12,f11,hlt,l0,l1,l2,xS,w1,wa,eq_true h1,eq_false h2,SB,seval,zCa,aOp,zB,aUn,reduceCtorEq,zFr,place,zTu,zRe]
   exact hN (j+1) _ _ ⟨by omega,by exact f1,by exact f2,by exact f3,by exact f4,by exact f5,(by rfl),by rw [eA];exact (by exact f11),hE.app,(Ext.refl.app).cells hB⟩ (by omega)
  rw [if_pos ⟨h1,h2⟩] at eA
  simp only [n34,r34,f1,f2,f3,f4,f5,f12,f11,hlt,l0,l1,l2,xS,w1,wa,eq_true h1,eq_true h2,SB,seval,zCa,aOp,zB,aUn,reduceCtorEq,zFr,place,zTu,zRe]
  exact hN (j+1) _ _ ⟨by omega,by exact f1,by exact f2,by exact f3,by exact f4,by exact f5,(by rfl),by rw [eA];exact (by rfl),hE.app,(Ext.refl.app).cells hB⟩ (by omega)
 obtain rfl:j=s.length:=by omega
 rw [List.take_length] at f11
 simp only [n34,r34,f1,f2,f3,f4,f5,f12,f11,hlt,SB,seval,zCa,aOp,zB,aUn,reduceCtorEq,zFr,place,zTu,zRe]
 refine zRr (fun j=>ld.length-j) (fun j fr2 G2=>j≤ld.length∧fr2 2=.slice p4 ld.length c4∧fr2 3=.int .i64 p∧fr2 4=.int .i64 m∧fr2 5=.pointer (some ⟨H.length,0,none⟩)∧fr2 13=.int .i64 (j:Int)∧fr2 11=.int .i64 (balC p m (zaz s++(ld.take j).flatMap (chR L)))∧Ext H G2∧zG G2 H.length=.cells false (netV pp P.length cp pl L.length cl)) 0
  ⟨Nat.zero_le _,by exact f2,by exact f3,by exact f4,by exact f5,by rfl,by rw [show (ld.take 0).flatMap (chR L)=[] from rfl,List.append_nil];exact (by exact f11),hE.app,(Ext.refl.app).cells hB⟩ ?_
 intro j fr2 G2 ⟨hj2,q2,q3,q4,q5,q13,q11,hE2,hB2⟩ hN2
 rw [zRc l34_1.eq_1]
 refine zRp ?_
 have kX:=fun X=>(Ext.refl.app (X:=X)).cells hB2
 by_cases hlt2:j<ld.length
 case neg=>
  obtain rfl:j=ld.length:=by omega
  rw [List.take_length] at q11
  simp only [n34,r34,q2,q3,q4,q5,q13,q11,hlt2,SB,seval,zCa,aOp,zB,aUn,reduceCtorEq,zFr,place,zTu,zRe]
 have dG:=hE2.sl h4
 have l0:=fun X=>(dG.app X).loadCell zDl hlt2 (j:=0) (by decide)
 rw [zau] at l0
 have l1:=fun X=>(dG.app X).loadCell zDl hlt2 (j:=1) (by decide)
 rw [zat] at l1
 have l2:=fun X=>(dG.app X).loadCell zDl hlt2 (j:=2) (by decide)
 rw [zax] at l2
 have l3:=fun X=>(dG.app X).loadCell zDl hlt2 (j:=3) (by decide)
 rw [zaw] at l3
 have xD:=ix_N dG hlt2 rfl
 have w1:IntKind.i64.wrap ((j:Int)+1)=((j+1:Nat):Int):=zWn (by omega)
 have hb:=hab s.length j
 rw [List.take_length] at hb
 have hdj:=hd _ (za9 hlt2)
 have ww:=hw _ (za9 hlt2)
 obtain ⟨x,hx⟩:∃x,x=gt ld j:=⟨_,rfl⟩
 rw [←hx] at l0 l1 l2 l3 hdj ww
 obtain ⟨lg,hlg⟩:∃lg,lg=legF L x.leg:=⟨_,rfl⟩
 rw [←hlg] at ww
 have hfi:=fun X (mp:Bool) (lim:Nat) (Q:Value→zH→Prop)=>rfind_ok' (mp:=mp) (lim:=lim) (cp:=cp) (cl:=cl) (a:=x.leg) (Q:=Q) ((hn.ext hE2).app X)
 rw [←hlg] at hfi
 have eA:balC p m (zaz s++(ld.take (j+1)).flatMap (chR L))=balC p m (zaz s++(ld.take j).flatMap (chR L))+(if lg.dst=p∧x.arr≤m then x.gr else 0)+(if lg.frm=p∧x.dep-lg.cut≤m then -x.gr else 0):=by
  rw [zad hlt2,List.flatMap_append,←List.append_assoc,zcg,←hx,hlg]
  show _+((if (legF L x.leg).frm=p∧x.dep-(legF L x.leg).cut≤m then -x.gr else 0)+((if (legF L x.leg).dst=p∧x.arr≤m then x.gr else 0)+0))=_
  omega
 obtain ⟨z,hz⟩:∃z,z=balC p m (zaz s++(ld.take j).flatMap (chR L)):=⟨_,rfl⟩
 rw [←hz] at q11 hb eA
 have hlG:H.length≤G2.length:=hE2.len
 have wa:IntKind.i64.wrap (z+x.gr)=z+x.gr:=zWi (by omega) (by omega)
 have wb:IntKind.i64.wrap (z-x.gr)=z-x.gr:=zWi (by omega) (by omega)
 have wc:IntKind.i64.wrap (z+x.gr-x.gr)=z:=by rw [show z+x.gr-x.gr=z by omega];exact zWi (by omega) (by omega)
 by_cases h1:lg.dst=p
 case neg=>
  by_cases h3:lg.frm=p
  case neg=>
   rw [if_neg fun h=>h1 h.1,Int.add_zero,if_neg fun h=>h3 h.1,Int.add_zero] at eA
   simp only [n34,r34,q2,q3,q4,q5,q13,q11,hlt2,kX,l0,l1,l2,l3,xD,hfi,w1,wa,wb,wc,ww,zLl,zL0,zL1,zL2,zL3,zL4,zL5,zL6,zL7,zTa,zNl,zN0,zN1,zSa,hlG,eq_false h1,eq_false h3,SB,seval,zCa,aOp,zB,aUn,reduceCtorEq,zFr,place,zTu,zRe]
   exact hN2 (j+1) _ _ ⟨by omega,by exact q2,by exact q3,by exact q4,by exact q5,(by rfl),by rw [eA];exact (by exact q11),hE2.app,(Ext.refl.app).cells hB2⟩ (by omega)
  by_cases h4:x.dep-lg.cut≤m
  case neg=>
   rw [if_neg fun h=>h1 h.1,Int.add_zero,if_neg fun h=>h4 h.2,Int.add_zero] at eA
   simp only [n34,r34,q2,q3,q4,q5,q13,q11,hlt2,kX,l0,l1,l2,l3,xD,hfi,w1,wa,wb,wc,ww,zLl,zL0,zL1,zL2,zL3,zL4,zL5,zL6,zL7,zTa,zNl,zN0,zN1,zSa,hlG,eq_false h1,eq_true h3,eq_false h4,SB,seval,zCa,aOp,zB,aUn,reduceCtorEq,zFr,place,zTu,zRe]
   exact hN2 (j+1) _ _ ⟨by omega,by exact q2,by exact q3,by exact q4,by exact q5,(by rfl),by rw [eA];exact (by exact q11),hE2.app,(Ext.refl.app).cells hB2⟩ (by omega)
  rw [if_neg fun h=>h1 h.1,Int.add_zero,if_pos ⟨h3,h4⟩,show z+-x.gr=z-x.gr by omega] at eA
  simp only [n34,r34,q2,q3,q4,q5,q13,q11,hlt2,kX,l0,l1,l2,l3,xD,hfi,w1,wa,wb,wc,ww,zLl,zL0,zL1,zL2,zL3,zL4,zL5,zL6,zL7,zTa,zNl,zN0,zN1,zSa,hlG,eq_false h1,eq_true h3,eq_true h4,SB,seval,zCa,aOp,zB,aUn,reduceCtorEq,zFr,place,zTu,zRe]
  exact hN2 (j+1) _ _ ⟨by omega,by exact q2,by exact q3,by exact q4,by exact q5,(by rfl),by rw [eA];exact (by rfl),hE2.app,(Ext.refl.app).cells hB2⟩ (by omega)
 by_cases h2:x.arr≤m
 case neg=>
  by_cases h3:lg.frm=p
  case neg=>
   rw [if_neg fun h=>h2 h.2,Int.add_zero,if_neg fun h=>h3 h.1,Int.add_zero] at eA
   simp only [n34,r34,q2,q3,q4,q5,q13,q11,hlt2,kX,l0,l1,l2,l3,xD,hfi,w1,wa,wb,wc,ww,zLl,zL0,zL1,zL2,zL3,zL4,zL5,zL6,zL7,zTa,zNl,zN0,zN1,zSa,hlG,eq_true h1,eq_false h2,eq_false h3,SB,seval,zCa,aOp,zB,aUn,reduceCtorEq,zFr,place,zTu,zRe]
   exact hN2 (j+1) _ _ ⟨by omega,by exact q2,by exact q3,by exact q4,by exact q5,(by rfl),by rw [eA];exact (by exact q11),hE2.app,(Ext.refl.app).cells hB2⟩ (by omega)
  by_cases h4:x.dep-lg.cut≤m
  case neg=>
   rw [if_neg fun h=>h2 h.2,Int.add_zero,if_neg fun h=>h4 h.2,Int.add_zero] at eA
   simp only [n34,r34,q2,q3,q4,q5,q13,q11,hlt2,kX,l0,l1,l2,l3,xD,hfi,w1,wa,wb,wc,ww,zLl,zL0,zL1,zL2,zL3,zL4,zL5,zL6,zL7,zTa,zNl,zN0,zN1,zSa,hlG,eq_true h1,eq_false h2,eq_true h3,eq_false h4,SB,seval,zCa,aOp,zB,aUn,reduceCtorEq,zFr,place,zTu,zRe]
   exact hN2 (j+1) _ _ ⟨by omega,by exact q2,by exact q3,by exact q4,by exact q5,(by rfl),by rw [eA];exact (by exact q11),hE2.app,(Ext.refl.app).cells hB2⟩ (by omega)
  rw [if_neg fun h=>h2 h.2,Int.add_zero,if_pos ⟨h3,h4⟩,show z+-x.gr=z-x.gr by omega] at eA
  simp only [n34,r34,q2,q3,q4,q5,q13,q11,hlt2,kX,l0,l1,l2,l3,xD,hfi,w1,wa,wb,wc,ww,zLl,zL0,zL1,zL2,zL3,zL4,zL5,zL6,zL7,zTa,zNl,zN0,zN1,zSa,hlG,eq_true h1,eq_false h2,eq_true h3,eq_true h4,SB,seval,zCa,aOp,zB,aUn,reduceCtorEq,zFr,place,zTu,zRe]
  exact hN2 (j+1) _ _ ⟨by omega,by exact q2,by exact q3,by exact q4,by exact q5,(by rfl),by rw [eA];exact (by rfl),hE2.app,(Ext.refl.app).cells hB2⟩ (by omega)
 by_cases h3:lg.frm=p
 case neg=>
  rw [if_pos ⟨h1,h2⟩,if_neg fun h=>h3 h.1,Int.add_zero] at eA
  simp only [n34,r34,q2,q3,q4,q5,q13,q11,hlt2,kX,l0,l1,l2,l3,xD,hfi,w1,wa,wb,wc,ww,zLl,zL0,zL1,zL2,zL3,zL4,zL5,zL6,zL7,zTa,zNl,zN0,zN1,zSa,hlG,eq_true h1,eq_true h2,eq_false h3,SB,seval,zCa,aOp,zB,aUn,reduceCtorEq,zFr,place,zTu,zRe]
  exact hN2 (j+1) _ _ ⟨by omega,by exact q2,by exact q3,by exact q4,by exact q5,(by rfl),by rw [eA];exact (by rfl),hE2.app,(Ext.refl.app).cells hB2⟩ (by omega)
 by_cases h4:x.dep-lg.cut≤m
 case neg=>
  rw [if_pos ⟨h1,h2⟩,if_neg fun h=>h4 h.2,Int.add_zero] at eA
  simp only [n34,r34,q2,q3,q4,q5,q13,q11,hlt2,kX,l0,l1,l2,l3,xD,hfi,w1,wa,wb,wc,ww,zLl,zL0,zL1,zL2,zL3,zL4,zL5,zL6,zL7,zTa,zNl,zN0,zN1,zSa,hlG,eq_true h1,eq_true h2,eq_true h3,eq_false h4,SB,seval,zCa,aOp,zB,aUn,reduceCtorEq,zFr,place,zTu,zRe]
  exact hN2 (j+1) _ _ ⟨by omega,by exact q2,by exact q3,by exact q4,by exact q5,(by rfl),by rw [eA];exact (by rfl),hE2.app,(Ext.refl.app).cells hB2⟩ (by omega)
 rw [if_pos ⟨h1,h2⟩,if_pos ⟨h3,h4⟩,show z+x.gr+-x.gr=z by omega] at eA
 simp only [n34,r34,q2,q3,q4,q5,q13,q11,hlt2,kX,l0,l1,l2,l3,xD,hfi,w1,wa,wb,wc,ww,zLl,zL0,zL1,zL2,zL3,zL4,zL5,zL6,zL7,zTa,zNl,zN0,zN1,zSa,hlG,eq_true h1,eq_true h2,eq_true h3,eq_true h4,SB,seval,zCa,aOp,zB,aUn,reduceCtorEq,zFr,place,zTu,zRe]
 exact hN2 (j+1) _ _ ⟨by omega,by exact q2,by exact q3,by exact q4,by exact q5,(by rfl),by rw [eA];exact (by rfl),hE2.app,(Ext.refl.app).cells hB2⟩ (by omega)
end Go.Proofs.Ytohnaffmcjbpoaa.Fn

namespace Go.Flow
open Go.AM Go.Net
theorem max_ex:∀{l:List Int},l≠[]→∃m∈l,∀y∈l,y≤m
 | [],h=>absurd rfl h
 | [a],_=>⟨a,by simp,fun y hy=>by simp only [List.mem_singleton] at hy;omega⟩
 | a::b::l,_=>by
   obtain ⟨m,hm,hx⟩:=max_ex (l:=b::l) (by simp)
   rcases Int.le_total a m with h | h
   ·exact ⟨m,List.mem_cons_of_mem _ hm,fun y hy=>by
     rcases List.mem_cons.1 hy with h1 | h1
     ·omega
     ·exact hx y h1⟩
   ·exact ⟨a,List.mem_cons_self,fun y hy=>by
     rcases List.mem_cons.1 hy with h1 | h1
     ·omega
     ·have:=hx y h1;omega⟩
theorem bal_grow {p u t:Int}:∀{ch:List Cg},u≤t→(∀y∈ch,y.1=p→u<y.2.1→y.2.1≤t→0≤y.2.2)→balC p u ch≤balC p t ch
 | [],_,_=>Int.le_refl _
 | x::ch,hu,h=>by
   have ih:=bal_grow (ch:=ch) hu fun y hy=>h y (List.mem_cons_of_mem _ hy)
   have hx:=h x List.mem_cons_self
   rw [balC,balC]
   by_cases h1:x.1=p
   ·by_cases h2:x.2.1≤u
    ·rw [if_pos ⟨h1,h2⟩,if_pos ⟨h1,by omega⟩];omega
    ·by_cases h3:x.2.1≤t
     ·rw [if_neg fun q=>h2 q.2,if_pos ⟨h1,h3⟩]
      have:=hx h1 (by omega) h3
      omega
     ·rw [if_neg fun q=>h2 q.2,if_neg fun q=>h3 q.2];omega
   ·rw [if_neg fun q=>h1 q.1,if_neg fun q=>h1 q.1];omega
theorem bal_pos {p t:Int}:∀{ch:List Cg},(∀y∈ch,y.1=p→y.2.1≤t→0≤y.2.2)→0≤balC p t ch
 | [],_=>Int.le_refl _
 | x::ch,h=>by
   have ih:=bal_pos (ch:=ch) fun y hy=>h y (List.mem_cons_of_mem _ hy)
   have hx:=h x List.mem_cons_self
   rw [balC]
   split
   ·rename_i hc;have:=hx hc.1 hc.2;omega
   ·omega
theorem bal_times {ch:List Cg} {p:Int} (h:∀x∈ch,x.1=p→x.2.2<0→0≤balC p x.2.1 ch) (t:Int):0≤balC p t ch:=by
 by_cases hn:((ch.filter fun x=>decide (x.1=p∧x.2.1≤t∧x.2.2<0)).map fun x=>x.2.1)=[]
 ·refine bal_pos fun y hy h1 h2=>?_
  apply Decidable.byContradiction
  intro h3
  rw [List.map_eq_nil_iff,List.filter_eq_nil_iff] at hn
  exact hn y hy (by simp only [decide_eq_true_eq];exact ⟨h1,h2,by omega⟩)
 ·obtain ⟨m,hm,hx⟩:=max_ex hn
  obtain ⟨x,hx1,rfl⟩:=List.mem_map.1 hm
  obtain ⟨hx1,hx2⟩:=List.mem_filter.1 hx1
  simp only [decide_eq_true_eq] at hx2
  refine Int.le_trans (h x hx1 hx2.1 hx2.2.2) (bal_grow hx2.2.1 fun y hy h1 h2 h3=>?_)
  apply Decidable.byContradiction
  intro h4
  have:=hx y.2.1 (List.mem_map.2 ⟨y,List.mem_filter.2 ⟨hy,by simp only [decide_eq_true_eq];exact ⟨h1,h3,by omega⟩⟩,rfl⟩)
  omega
def hitR (y x:Ld):Prop:=y.leg=x.leg∧y.dep=x.dep∧y.arr=x.arr∧1≤x.gr∧x.gr≤y.gr
instance (y x:Ld):Decidable (hitR y x):=by unfold hitR;infer_instance
def okR (O ld:List Ld) (i:Nat):Prop:=(O.any fun y=>decide (hitR y (gt ld i)))=true∧(0<i→ldLt (gt ld (i-1)) (gt ld i))
theorem okR_okX {C:List (Leg×Int)} {O ld:List Ld} {i:Nat} (hu:∀c∈C,∀d∈C,keyD c=keyD d→c.1=d.1) (hp:O.Perm (C.map ldOf)):okR O ld i↔okX C ld i:=by
 unfold okR okX
 refine and_congr ?_ Iff.rfl
 constructor
 ·intro h
  obtain ⟨y,hy,hh⟩:=List.any_eq_true.1 h
  obtain ⟨c,hc,rfl⟩:=List.mem_map.1 (hp.mem_iff.1 hy)
  simp only [decide_eq_true_eq] at hh
  obtain ⟨h1,h2,h3,h4,h5⟩:=hh
  refine ⟨c.1, ?_,h4,h5⟩
  have e:keyL (gt ld i)=keyD c:=by
   unfold keyL keyD
   rw [←h1,←h2,←h3];rfl
  rw [e]
  exact legM_of hu c hc
 ·rintro ⟨lg,h1,h2,h3⟩
  obtain ⟨c,k1,k2,k3⟩:=zck h1
  subst k3
  refine List.any_eq_true.2 ⟨ldOf c,hp.mem_iff.2 (List.mem_map.2 ⟨c,k1,rfl⟩), ?_⟩
  simp only [decide_eq_true_eq]
  unfold keyD keyL at k2
  simp only [Prod.mk.injEq] at k2
  exact ⟨k2.1,k2.2.1,k2.2.2,h2,h3⟩
theorem arrS_bal {to dl:Int}:∀{s:List Src},balC to dl (zaz s)=arrS to dl s
 | []=>rfl
 | x::s=>by
   show (if x.pl=to∧x.rd≤dl then x.gr else 0)+balC to dl (zaz s)=_
   rw [arrS_bal];rfl
theorem arrL_bal {C:List (Leg×Int)} {to dl:Int}:∀{ld:List Ld},(∀x∈ld,(legD C x).frm≠to∧x.arr≤dl)→balC to dl (ld.flatMap (ldCh C))=arrL C to ld
 | [],_=>rfl
 | x::ld,h=>by
   obtain ⟨h1,h2⟩:=h x List.mem_cons_self
   rw [List.flatMap_cons,zcg,arrL_bal fun y hy=>h y (List.mem_cons_of_mem _ hy),arrL]
   congr 1
   show (if (legD C x).frm=to∧x.dep-(legD C x).cut≤dl then -x.gr else 0)+((if (legD C x).dst=to∧x.arr≤dl then x.gr else 0)+0)=_
   rw [if_neg fun q=>h1 q.1]
   by_cases h3:(legD C x).dst=to
   ·rw [if_pos ⟨h3,h2⟩,if_pos h3];omega
   ·rw [if_neg fun q=>h3 q.1,if_neg h3];rfl
end Go.Flow

namespace Go.Proofs.Ytohnaffmcjbpoaa.Fn
open Go.AM Go.AM.Sym Go.Net Go.Flow
section
variable {P:List Int} {L:List Leg} {s:List Flow.Src} {ld:List Flow.Ld} {to dl:Int}
theorem legF_eq (hv:zac P L=0) {x:Flow.Ld} {lg:Leg} (h:legM (zCc L to dl) (keyL x)=some lg):legF L x.leg=lg∧legD (zCc L to dl) x=lg∧lg∈L∧lg.frm≠to∧0≤x.dep∧x.dep≤dl∧x.arr≤dl:=by
 obtain ⟨c,h1,h2,h3⟩:=zck h
 obtain ⟨m1,m2,d,_,m4,m5,m6⟩:=zav h1
 have hF:=(validN_0 hv).2.2.2
 subst h3
 unfold keyD keyL at h2
 simp only [Prod.mk.injEq] at h2
 obtain ⟨k1,k2,k3⟩:=h2
 refine ⟨?_,by unfold legD;rw [h];rfl,m1,m2,by omega, ?_,by omega⟩
 ·unfold legF
  cases hf:L.find? (fun l=>l.id=x.leg) with
  | none=>
    rw [List.find?_eq_none] at hf
    exact absurd (by simpa using k1) (hf _ m1)
  | some l'=>
    have e1:=List.find?_some hf
    simp only [decide_eq_true_eq] at e1
    show l'=c.1
    exact leg_uniq hv (List.mem_of_find?_eq_some hf) m1 (e1.trans k1.symm)
 ·obtain ⟨i,hi,e⟩:=List.mem_iff_getElem.1 m1
  have hFi:=(hF i hi).1
  rw [zGl hi,e] at hFi
  unfold Fine at hFi
  omega
theorem chR_all (hv:zac P L=0) (hok:∀i,i<ld.length→okX (zCc L to dl) ld i):ld.flatMap (chR L)=ld.flatMap (ldCh (zCc L to dl)):=by
 have:∀x∈ld,chR L x=ldCh (zCc L to dl) x:=fun x hx=>by
  obtain ⟨i,hi,rfl⟩:=List.mem_iff_getElem.1 hx
  obtain ⟨⟨lg,h1,_,_⟩,_⟩:=hok i hi
  rw [zGl hi] at h1
  obtain ⟨e1,e2,_⟩:=legF_eq hv h1
  unfold chR ldCh
  rw [e1,e2]
 rw [List.flatMap_def,List.flatMap_def,List.map_congr_left this]
theorem good_iff (ha:zAn P L s to dl=0) (hok:∀i,i<ld.length→okX (zCc L to dl) ld i):goodL (zCc L to dl) s ld↔∀i,i<ld.length→0≤balC (legF L (gt ld i).leg).frm ((gt ld i).dep-(legF L (gt ld i).leg).cut) (zaz s++ld.flatMap (chR L)):=by
 have hA:=zco ha
 have hv:=zcn ha
 rw [chR_all hv hok]
 constructor
 ·intro h i _;exact h.2 _ _
 ·intro h
  refine ⟨hok,fun p t=>bal_times (fun x hx h1 h2=>?_) t⟩
  rcases List.mem_append.1 hx with hx | hx
  ·obtain ⟨y,hy,rfl⟩:=List.mem_map.1 hx
   have:=(hA.src y hy).2.2.2.1
   change y.gr<0 at h2
   omega
  ·obtain ⟨y,hy,hx⟩:=List.mem_flatMap.1 hx
   obtain ⟨i,hi,rfl⟩:=List.mem_iff_getElem.1 hy
   have hi':=h i hi
   obtain ⟨⟨lg,k1,k2,k3⟩,_⟩:=hok i hi
   rw [zGl hi] at k1 k2 hi'
   obtain ⟨e1,e2,_⟩:=legF_eq hv k1
   rw [e1] at hi'
   unfold ldCh at hx
   rw [e2] at hx
   simp only [List.mem_cons,List.not_mem_nil,or_false] at hx
   rcases hx with rfl | rfl
   ·rw [←h1];exact hi'
   ·change (ld[i]).gr<0 at h2;omega
theorem good_val (ha:zAn P L s to dl=0) (hok:∀i,i<ld.length→okX (zCc L to dl) ld i):balC to dl (zaz s++ld.flatMap (chR L))=arrS to dl s+arrL (zCc L to dl) to ld:=by
 have hv:=zcn ha
 rw [chR_all hv hok,zcg,arrS_bal,arrL_bal]
 intro x hx
 obtain ⟨i,hi,rfl⟩:=List.mem_iff_getElem.1 hx
 obtain ⟨⟨lg,k1,_,_⟩,_⟩:=hok i hi
 rw [zGl hi] at k1
 obtain ⟨_,e2,_,e4,_,_,e7⟩:=legF_eq hv k1
 rw [e2]
 exact ⟨e4,e7⟩
theorem ok_wrap (ha:zAn P L s to dl=0) (hok:∀i,i<ld.length→okX (zCc L to dl) ld i):∀x∈ld,(0≤x.gr∧x.gr≤1000000000)∧IntKind.i64.wrap (x.dep-(legF L x.leg).cut)=x.dep-(legF L x.leg).cut:=fun x hx=>by
 have hv:=zcn ha
 have hA:=zco ha
 obtain ⟨i,hi,rfl⟩:=List.mem_iff_getElem.1 hx
 obtain ⟨⟨lg,k1,k2,k3⟩,_⟩:=hok i hi
 rw [zGl hi] at k1 k2 k3
 obtain ⟨e1,_,e3,_,e5,e6,_⟩:=legF_eq hv k1
 have hF:=hA.net.fine _ e3
 unfold Fine at hF
 have:=hA.d1
 have mt:za1=1051898399:=rfl
 rw [e1]
 exact ⟨by omega,zWi (by omega) (by omega)⟩
end
theorem is_loop [OB] {lim c c4 i:Nat} {q p4:Option Addr} {O ld:List Flow.Ld} {v1 v2 v3 v5:Value} {G:zH} {fr:Nat→Value} {K:List zAi} {Q:Value→zH→Prop}
  (hs:Sl G encD 4 q O) (h4:Sl G encD 4 p4 ld) (hi:i<ld.length) (hn1:O.length<2 ^ 40) (hlG:lim≤G.length)
  (f1:fr 1=v1) (f2:fr 2=v2) (f3:fr 3=v3) (f5:fr 5=v5) (f4:fr 4=.slice p4 ld.length c4) (f12:fr 12=.slice q O.length c) (f13:fr 13=.int .i64 (i:Int)) (f14:fr 14=.bool false) (f15:fr 15=.int .i64 0)
  (hK:∀fr' G',Ext G G'→fr' 1=v1→fr' 2=v2→fr' 3=v3→fr' 5=v5→fr' 4=.slice p4 ld.length c4→fr' 12=.slice q O.length c→fr' 13=.int .i64 (i:Int)→fr' 14=.bool (O.any fun y=>decide (hitR y (gt ld i)))→Ret E a11 lim K fr' (G'++[]) Q) :
  Ret E a11 lim (.code (.loop l11_2)::.inBlock 2::K) fr G Q:=by
 refine zRr (fun k:Nat=>O.length-k) (fun k fr2 G2=>k≤O.length∧fr2 1=v1∧fr2 2=v2∧fr2 3=v3∧fr2 5=v5∧fr2 4=.slice p4 ld.length c4∧fr2 12=.slice q O.length c∧fr2 13=.int .i64 (i:Int)∧fr2 15=.int .i64 (k:Int)∧fr2 14=.bool ((O.take k).any fun y=>decide (hitR y (gt ld i)))∧Ext G G2) 0 ⟨Nat.zero_le _,f1,f2,f3,f5,f4,f12,f13,f15,f14,Ext.refl⟩ ?_
 rintro k fr2 G2 ⟨hk,q1,q2,q3,q5,q4,q12,q13,q15,q14,hE⟩ hN
 rw [zRc l11_2.eq_1]
 refine zRp ?_
 have hs:=hE.sl hs
 have h4:=hE.sl h4
 have hlE:=hE.len
 by_cases hlt:k<O.length
 case neg=>
  obtain rfl:k=O.length:=by omega
  rw [List.take_length] at q14
  simp only [n11,r11,q1,q2,q3,q5,q4,q12,q13,q15,q14,hlt,SB,seval,zCa,aOp,zB,aUn,reduceCtorEq,zFr,place,zTu,zRe]
  exact hK _ _ hE (by exact q1) (by exact q2) (by exact q3) (by exact q5) (by exact q4) (by exact q12) (by exact q13) (by exact q14)
 have lO:=fun X=>(hs.app X).loadCells zDl hlt
 have xO:=ix_N hs hlt rfl
 have l0:=fun X=>(h4.app X).loadCell zDl hi (j:=0) (by decide)
 rw [zau] at l0
 have l1:=fun X=>(h4.app X).loadCell zDl hi (j:=1) (by decide)
 rw [zat] at l1
 have l2:=fun X=>(h4.app X).loadCell zDl hi (j:=2) (by decide)
 rw [zax] at l2
 have l3:=fun X=>(h4.app X).loadCell zDl hi (j:=3) (by decide)
 rw [zaw] at l3
 have xD:=ix_N h4 hi rfl
 have w1:IntKind.i64.wrap ((k:Int)+1)=((k+1:Nat):Int):=zWn (by omega)
 obtain ⟨x,hx⟩:∃x,x=gt ld i:=⟨_,rfl⟩
 obtain ⟨y,hy⟩:∃y,y=gt O k:=⟨_,rfl⟩
 rw [←hx] at l0 l1 l2 l3
 rw [←hy] at lO
 have eA:((O.take (k+1)).any fun y=>decide (hitR y (gt ld i)))=(((O.take k).any fun y=>decide (hitR y (gt ld i)))||decide (hitR y x)):=by
  rw [zad hlt,List.any_append,←hx,←hy];simp
 have hlZ:lim≤G2.length:=by omega
 cases hb:((O.take k).any fun y=>decide (hitR y (gt ld i))) with
 | true=>
   rw [hb] at q14 eA
   rw [Bool.true_or] at eA
   simp only [n11,r11,q1,q2,q3,q5,q4,q12,q13,q15,q14,hlt,lO,xO,l0,l1,l2,l3,xD,w1,hlZ,zDl,zau,zat,zax,zaw,zTa,zSa,SB,seval,zCa,aOp,zB,aUn,reduceCtorEq,zFr,place,zTu,zRe]
   exact hN (k+1) _ _ ⟨by omega,by exact q1,by exact q2,by exact q3,by exact q5,by exact q4,by exact q12,by exact q13,(by rfl),by rw [eA];exact (by rfl),hE.app⟩ (by omega)
 | false=>
 rw [hb] at q14 eA
 rw [Bool.false_or] at eA
 by_cases h0:y.leg=x.leg
 case neg=>
  rw [decide_eq_false fun h:hitR y x=>h0 h.1] at eA
  simp only [n11,r11,q1,q2,q3,q5,q4,q12,q13,q15,q14,hlt,lO,xO,l0,l1,l2,l3,xD,w1,hlZ,zDl,zau,zat,zax,zaw,zTa,zSa,eq_false h0,SB,seval,zCa,aOp,zB,aUn,reduceCtorEq,zFr,place,zTu,zRe]
  exact hN (k+1) _ _ ⟨by omega,by exact q1,by exact q2,by exact q3,by exact q5,by exact q4,by exact q12,by exact q13,(by rfl),by rw [eA];exact (by rfl),hE.app⟩ (by omega)
 by_cases h1:y.dep=x.dep
 case neg=>
  rw [decide_eq_false fun h:hitR y x=>h1 h.2.1] at eA
  simp only [n11,r11,q1,q2,q3,q5,q4,q12,q13,q15,q14,hlt,lO,xO,l0,l1,l2,l3,xD,w1,hlZ,zDl,zau,zat,zax,zaw,zTa,zSa,eq_true h0,eq_false h1,SB,seval,zCa,aOp,zB,aUn,reduceCtorEq,zFr,place,zTu,zRe]
  exact hN (k+1) _ _ ⟨by omega,by exact q1,by exact q2,by exact q3,by exact q5,by exact q4,by exact q12,by exact q13,(by rfl),by rw [eA];exact (by rfl),hE.app⟩ (by omega)
 by_cases h2:y.arr=x.arr
 case neg=>
  rw [decide_eq_false fun h:hitR y x=>h2 h.2.2.1] at eA
  simp only [n11,r11,q1,q2,q3,q5,q4,q12,q13,q15,q14,hlt,lO,xO,l0,l1,l2,l3,xD,w1,hlZ,zDl,zau,zat,zax,zaw,zTa,zSa,eq_true h0,eq_true h1,eq_false h2,SB,seval,zCa,aOp,zB,aUn,reduceCtorEq,zFr,place,zTu,zRe]
  exact hN (k+1) _ _ ⟨by omega,by exact q1,by exact q2,by exact q3,by exact q5,by exact q4,by exact q12,by exact q13,(by rfl),by rw [eA];exact (by rfl),hE.app⟩ (by omega)
 by_cases h3:1≤x.gr
 case neg=>
  rw [decide_eq_false fun h:hitR y x=>h3 h.2.2.2.1] at eA
  simp only [n11,r11,q1,q2,q3,q5,q4,q12,q13,q15,q14,hlt,lO,xO,l0,l1,l2,l3,xD,w1,hlZ,zDl,zau,zat,zax,zaw,zTa,zSa,eq_true h0,eq_true h1,eq_true h2,eq_false h3,SB,seval,zCa,aOp,zB,aUn,reduceCtorEq,zFr,place,zTu,zRe]
  exact hN (k+1) _ _ ⟨by omega,by exact q1,by exact q2,by exact q3,by exact q5,by exact q4,by exact q12,by exact q13,(by rfl),by rw [eA];exact (by rfl),hE.app⟩ (by omega)
 by_cases hq4:x.gr≤y.gr
 case neg=>
  rw [decide_eq_false fun h:hitR y x=>hq4 h.2.2.2.2] at eA
  simp only [n11,r11,q1,q2,q3,q5,q4,q12,q13,q15,q14,hlt,lO,xO,l0,l1,l2,l3,xD,w1,hlZ,zDl,zau,zat,zax,zaw,zTa,zSa,eq_true h0,eq_true h1,eq_true h2,eq_true h3,eq_false hq4,SB,seval,zCa,aOp,zB,aUn,reduceCtorEq,zFr,place,zTu,zRe]
  exact hN (k+1) _ _ ⟨by omega,by exact q1,by exact q2,by exact q3,by exact q5,by exact q4,by exact q12,by exact q13,(by rfl),by rw [eA];exact (by rfl),hE.app⟩ (by omega)
 rw [decide_eq_true (show hitR y x from ⟨h0,h1,h2,h3,hq4⟩)] at eA
 simp only [n11,r11,q1,q2,q3,q5,q4,q12,q13,q15,q14,hlt,lO,xO,l0,l1,l2,l3,xD,w1,hlZ,zDl,zau,zat,zax,zaw,zTa,zSa,eq_true h0,eq_true h1,eq_true h2,eq_true h3,eq_true hq4,SB,seval,zCa,aOp,zB,aUn,reduceCtorEq,zFr,place,zTu,zRe]
 exact hN (k+1) _ _ ⟨by omega,by exact q1,by exact q2,by exact q3,by exact q5,by exact q4,by exact q12,by exact q13,(by rfl),by rw [eA];exact (by rfl),hE.app⟩ (by omega)
theorem rcheck_ok [OB] {mp:Bool} {lim:Nat} {pp pl ps p4:Option Addr} {P:List Int} {L:List Leg} {s:List Flow.Src} {ld:List Flow.Ld} {cp cl cs c4:Nat} {to dl:Int} {H:zH} {Q:Value→zH→Prop} (hn:NetIn H pp pl P L) (hs:Sl H encS 3 ps s) (hsl:s.length<2 ^ 63) (h4:Sl H encD 4 p4 ld) (hl4:ld.length≤200) (hLl:zac P L=0→L.length≤8) :
  za0 E mp lim 11 [.agg (netV pp P.length cp pl L.length cl).toArray,.slice ps s.length cs,.int .i64 to,.int .i64 dl,.slice p4 ld.length c4] H Q=Q (.tuple #[.int .i64 (checkV P L s to dl ld).1,.bool (checkV P L s to dl ld).2]) H:=by
 refine pc (by decide) e11 rfl rfl ?_
 rw [b11,c11]
 have hlim:H.length≤H.length:=Nat.le_refl _
 have hal:=fun Z (mp:Bool) (lim:Nat) (Q:Value→zH→Prop)=>rallowed_ok (mp:=mp) (lim:=lim) (cp:=cp) (cl:=cl) (cs:=cs) (to:=to) (dl:=dl) (Q:=Q) (hn.app Z) (hs.app Z) hsl
 by_cases ha:zAn P L s to dl=0
 case neg=>
  rw [checkV_no fun h=>ha h.1]
  simp only [n11,r11,zNl,zN0,zN1,hlim,hal,eq_false ha,SB,seval,zCa,aOp,zB,aUn,reduceCtorEq,zFr,place,zTu,zRe]
 have hA:=zco ha
 have hv:=zcn ha
 have hns:=hA.ns
 simp only [n11,r11,zNl,zN0,zN1,hlim,hal,eq_true ha,SB,seval,zCa,aOp,zB,aUn,reduceCtorEq,zFr,place,zTu,zRe]
 refine rcounted_ok (hn.app _) hA.net.fine (hLl hv) hA.d0 hA.d1 (by simp) fun G q c O hO hp hpw hC=>?_
 have hCn:=zcc (to:=to) (dl:=dl) hA.net.fine
 have hOl:=hp.length_eq
 rw [List.length_map] at hOl
 have hL8:=hLl hv
 have bG:zG G H.length=.cells false (netV pp P.length cp pl L.length cl):=hC.cells zHn (by simp)
 have hHG:Chg [] H G:=hC.pre
 have nG:=hn.ext hHG.ext
 have sG:=hHG.ext.sl hs
 have dG:=hHG.ext.sl h4
 have oG:=hO.sl zDl
 have hlG:=zHa bG
 refine zRp ?_
 simp only [n11,r11,zNl,zN0,zN1,SB,seval,zCa,aOp,zB,aUn,reduceCtorEq,zFr,place,zTu,zRe]
 refine zRr (fun i=>ld.length-i) (fun i fr G2=>i≤ld.length∧fr 1=.slice ps s.length cs∧fr 2=.int .i64 to∧fr 3=.int .i64 dl∧fr 4=.slice p4 ld.length c4∧fr 5=.pointer (some ⟨H.length,0,none⟩)∧fr 12=.slice q O.length c∧fr 13=.int .i64 (i:Int)∧Ext G G2∧∀j,j<i→okR O ld j) 0
  ⟨Nat.zero_le _,(by rfl),(by rfl),(by rfl),(by rfl),(by rfl),(by rfl),by rfl,Ext.refl.app,fun j hj=>by omega⟩ ?_
 intro i fr G2 ⟨hi,f1,f2,f3,f4,f5,f12,f13,hE,hall⟩ hN
 rw [zRc l11_3.eq_1]
 refine zRp ?_
 have hlE:=hE.len
 by_cases hlt:i<ld.length
 case pos=>
  have bad:¬okR O ld i→checkV P L s to dl ld=(0,false):=fun h=>checkV_no fun hg=>h ((okR_okX (keyD_uniq hv) hp).2 (hg.2.1 i hlt))
  simp only [n11,r11,f1,f2,f3,f4,f5,f12,f13,hlt,SB,seval,zCa,aOp,zB,aUn,reduceCtorEq,zFr,place,zTu,zRe]
  refine is_loop (O:=O) (ld:=ld) (i:=i) (q:=q) (c:=c) (p4:=p4) (c4:=c4) (v1:=.slice ps s.length cs) (v2:=.int .i64 to) (v3:=.int .i64 dl) (v5:=.pointer (some ⟨H.length,0,none⟩)) ((hE.sl oG).app _) ((hE.sl dG).app _) hlt (by omega) (by simp;omega) (by exact f1) (by exact f2) (by exact f3) (by exact f5) (by exact f4) (by exact f12) (by exact f13) (by rfl) (by rfl) fun fr3 G3 hE3 r1 r2 r3 r5 r4 r12 r13 r14=>?_
  have hEG:Ext G G3:=(hE.app).trans hE3
  have dG3:=hEG.sl dG
  have w1:IntKind.i64.wrap ((i:Int)+1)=((i+1:Nat):Int):=zWn (by omega)
  cases hb:(O.any fun y=>decide (hitR y (gt ld i))) with
  | false=>
    rw [bad fun h=>by have:=h.1;rw [hb] at this;cases this]
    rw [hb] at r14
    simp only [n11,r11,r1,r2,r3,r5,r4,r12,r13,r14,SB,seval,zCa,aOp,zB,aUn,reduceCtorEq,zFr,place,zTu,zRe]
  | true=>
  rw [hb] at r14
  match i,hi,f13,hall,hN,hlt,bad,hb,r13,w1 with
  | 0,hi,f13,hall,hN,hlt,bad,hb,r13,w1=>
    replace r13:fr3 13=.int .i64 0:=r13
    replace w1:IntKind.i64.wrap 1=1:=by decide
    simp only [n11,r11,r1,r2,r3,r5,r4,r12,r13,r14,w1,Int.zero_add,eq_false (show ¬(0:Int)<0 by decide),SB,seval,zCa,aOp,zB,aUn,reduceCtorEq,zFr,place,zTu,zRe]
    exact hN 1 _ _ ⟨by omega,by exact r1,by exact r2,by exact r3,by exact r4,by exact r5,by exact r12,(by rfl),hEG.app,fun j hj=>by
     rw [show j=0 by omega];exact ⟨hb,fun h=>by omega⟩⟩ (by omega)
  | k+1,hi,f13,hall,hN,hlt,bad,hb,r13,w1=>
    have hp0:(0:Int)<((k+1:Nat):Int):=by omega
    have wk:IntKind.i64.wrap (((k+1:Nat):Int)-1)=(k:Int):=by rw [show ((k+1:Nat):Int)-1=(k:Int) by omega];exact zWi (by omega) (by omega)
    have lD:=fun X=>(dG3.app X).loadCells zDl hlt
    have xD:=fun (c:Nat) (kk:IntKind) (H1:zH)=>ix_N dG3 hlt rfl c kk H1
    have lE:=fun X=>(dG3.app X).loadCells zDl (show k<ld.length by omega)
    have xE:=ix_N dG3 (show k<ld.length by omega) rfl
    obtain ⟨kk,hkk⟩:∃kk:Int,kk=((k+1:Nat):Int):=⟨_,rfl⟩
    rw [←hkk] at hp0 wk r13 w1 xD
    have haf:=fun (H:zH) (mp:Bool) (lim:Nat) (Q:Value→zH→Prop)=>after_ok (a:=gt ld (k+1)) (b:=gt ld k) (mp:=mp) (lim:=lim) (H:=H) (Q:=Q)
    by_cases h1:ldLt (gt ld k) (gt ld (k+1))
    ·rw [decide_eq_true h1] at haf
     simp only [n11,r11,r1,r2,r3,r5,r4,r12,r13,r14,eq_true hp0,wk,w1,lD,xD,lE,xE,haf,zDl,zTa,zSa,SB,seval,zCa,aOp,zB,aUn,reduceCtorEq,zFr,place,zTu,zRe]
     exact hN (k+1+1) _ _ ⟨by omega,by exact r1,by exact r2,by exact r3,by exact r4,by exact r5,by exact r12,(by rfl),hEG.app,fun j hj=>by
      rcases (by omega:j<k+1∨j=k+1) with h | h
      ·exact hall j h
      ·rw [h];exact ⟨hb,fun _=>h1⟩⟩ (by omega)
    ·rw [decide_eq_false h1] at haf
     rw [bad fun h=>h1 (h.2 (by omega))]
     simp only [n11,r11,r1,r2,r3,r5,r4,r12,r13,r14,eq_true hp0,wk,w1,lD,xD,lE,xE,haf,zDl,zTa,zSa,SB,seval,zCa,aOp,zB,aUn,reduceCtorEq,zFr,place,zTu,zRe]
 obtain rfl:i=ld.length:=by omega
 have hok:∀i,i<ld.length→okX (zCc L to dl) ld i:=fun i hi=>(okR_okX (keyD_uniq hv) hp).1 (hall i hi)
 have hgi:=good_iff ha hok
 have hw:=ok_wrap ha hok
 simp only [n11,r11,f1,f2,f3,f4,f5,f12,f13,hlt,SB,seval,zCa,aOp,zB,aUn,reduceCtorEq,zFr,place,zTu,zRe]
 refine zRr (fun i=>ld.length-i) (fun i fr3 G3=>i≤ld.length∧fr3 1=.slice ps s.length cs∧fr3 2=.int .i64 to∧fr3 3=.int .i64 dl∧fr3 4=.slice p4 ld.length c4∧fr3 5=.pointer (some ⟨H.length,0,none⟩)∧fr3 17=.int .i64 (i:Int)∧Ext G G3∧∀j,j<i→0≤balC (legF L (gt ld j).leg).frm ((gt ld j).dep-(legF L (gt ld j).leg).cut) (zaz s++ld.flatMap (chR L))) 0
  ⟨Nat.zero_le _,by exact f1,by exact f2,by exact f3,by exact f4,by exact f5,by rfl,hE.app,fun j hj=>by omega⟩ ?_
 intro i fr3 G3 ⟨hi3,r1,r2,r3,r4,r5,r17,hE3,hall3⟩ hN3
 rw [zRc l11_1.eq_1]
 refine zRp ?_
 have hlE3:=hE3.len
 have bX:=fun X=>(hE3.app (X:=X)).cells bG
 have hbal:=fun X (mp:Bool) (lim:Nat) (p m:Int) (Q:Value→zH→Prop)=>rbal_ok (mp:=mp) (lim:=lim) (cp:=cp) (cl:=cl) (cs:=cs) (c4:=c4) (p:=p) (m:=m) (Q:=Q) ((nG.ext hE3).app X) ((hE3.sl sG).app X) ((hE3.sl dG).app X) (by omega) hl4 (fun x hx=>(hA.src x hx).2.2.2) (fun x hx=>(hw x hx).1) (fun x hx=>(hw x hx).2)
 by_cases hlt3:i<ld.length
 case neg=>
  obtain rfl:i=ld.length:=by omega
  have hg:=hgi.2 hall3
  rw [checkV_yes ha hg,←good_val ha hok]
  simp only [n11,r11,r1,r2,r3,r4,r5,r17,hlt3,bX,zNl,zN0,zN1,hbal,SB,seval,zCa,aOp,zB,aUn,reduceCtorEq,zFr,place,zTu,zRe]
 have dG3:=hE3.sl dG
 have l0:=fun X=>(dG3.app X).loadCell zDl hlt3 (j:=0) (by decide)
 rw [zau] at l0
 have l1:=fun X=>(dG3.app X).loadCell zDl hlt3 (j:=1) (by decide)
 rw [zat] at l1
 have xD:=ix_N dG3 hlt3 rfl
 have w1:IntKind.i64.wrap ((i:Int)+1)=((i+1:Nat):Int):=zWn (by omega)
 have ww:=(hw _ (za9 hlt3)).2
 have hfi:=fun X (mp:Bool) (lim:Nat) (Q:Value→zH→Prop)=>rfind_ok' (mp:=mp) (lim:=lim) (cp:=cp) (cl:=cl) (a:=(gt ld i).leg) (Q:=Q) ((nG.ext hE3).app X)
 have hlL:H.length≤G3.length:=by omega
 by_cases h1:balC (legF L (gt ld i).leg).frm ((gt ld i).dep-(legF L (gt ld i).leg).cut) (zaz s++ld.flatMap (chR L))<0
 ·rw [checkV_no fun hg=>by have:=hgi.1 hg.2 i hlt3;omega]
  simp only [n11,r11,r1,r2,r3,r4,r5,r17,hlt3,bX,zNl,zN0,zN1,zLl,zL0,zL1,zL2,zL3,zL4,zL5,zL6,zL7,zTa,hbal,l0,l1,xD,w1,ww,hfi,hlL,zSa,eq_true h1,SB,seval,zCa,aOp,zB,aUn,reduceCtorEq,zFr,place,zTu,zRe]
 ·simp only [n11,r11,r1,r2,r3,r4,r5,r17,hlt3,bX,zNl,zN0,zN1,zLl,zL0,zL1,zL2,zL3,zL4,zL5,zL6,zL7,zTa,hbal,l0,l1,xD,w1,ww,hfi,hlL,zSa,eq_false h1,SB,seval,zCa,aOp,zB,aUn,reduceCtorEq,zFr,place,zTu,zRe]
  exact hN3 (i+1) _ _ ⟨by omega,by exact r1,by exact r2,by exact r3,by exact r4,by exact r5,(by rfl),hE3.app,fun j hj=>by
   rcases (by omega:j<i∨j=i) with h | h
   ·exact hall3 j h
   ·rw [h];omega⟩ (by omega)
theorem LoadChecks_ok [OB] {lim:Nat} {pp pl ps p4:Option Addr} {P:List Int} {L:List Leg} {s:List Flow.Src} {ld:List Flow.Ld} {cp cl cs cq4:Nat} {to dl:Int} {H:zH} (hon:OB.on 9=true) (hn:NetIn H pp pl P L) (hs:Sl H encS 3 ps s) (hsl:s.length<2 ^ 63) (h4:Sl H encD 4 p4 ld) :
  za0 E false lim 3 [.agg (netV pp P.length cp pl L.length cl).toArray,.slice ps s.length cs,.int .i64 to,.int .i64 dl,.slice p4 ld.length cq4] H fun v _=>v=.bool true:=by
 refine Eq.mpr (pc (v:=.bool true) (by decide) e3 rfl rfl ?_) rfl
 rw [b3,c3]
 have aw:=awake33_on hon
 have hlim:H.length≤H.length:=Nat.le_refl _
 have hgr:=fun Z (mp:Bool) (lim:Nat) (Q:Value→zH→Prop)=>great_ok (mp:=mp) (lim:=lim) (cp:=cp) (cl:=cl) (ps:=ps) (n:=s.length) (cs:=cs) (Q:=Q) (hn.app Z)
 cases g1:greatN P L s.length with
 | true=>
   rw [g1] at hgr
   simp only [n3,r3,zNl,zN0,zN1,hlim,aw,hgr,SB,seval,zCa,aOp,zB,aUn,reduceCtorEq,zFr,place,zTu,zRe]
 | false=>
 rw [g1] at hgr
 by_cases gl:60<(ld.length:Int)
 ·simp only [n3,r3,zNl,zN0,zN1,hlim,aw,hgr,eq_true gl,SB,seval,zCa,aOp,zB,aUn,reduceCtorEq,zFr,place,zTu,zRe]
 have hLl:zac P L=0→L.length≤8:=fun hv=>(great_no g1 hv).2.1
 have hs60:s.length≤60:=by
  unfold greatN at g1
  simp only [Bool.or_eq_false_iff,decide_eq_false_iff_not] at g1
  omega
 have hck:=fun Z (mp:Bool) (lim:Nat) (Q:Value→zH→Prop)=>check_ok (mp:=mp) (lim:=lim) (cp:=cp) (cl:=cl) (cs:=cs) (c4:=cq4) (to:=to) (dl:=dl) (Q:=Q) (hn.app Z) (hs.app Z) hsl (h4.app Z) (by omega) hLl
 simp only [n3,r3,zNl,zN0,zN1,hlim,aw,hgr,eq_false gl,hck,SB,seval,zCa,aOp,zB,aUn,reduceCtorEq,zFr,place,zTu,zRe]
 refine others_ok (hs.app _) (by omega) (by simp) fun G1 p1 c1 hO1 hC1=>?_
 have hl1:=hC1.len
 simp only [List.length_append,List.length_cons,List.length_nil] at hl1
 have b1:zG G1 H.length=.cells false (netV pp P.length cp pl L.length cl):=hC1.cells zHn (by simp)
 have hHG1:Chg [] H G1:=hC1.pre
 refine zRp ?_
 simp only [n3,r3,zNl,zN0,zN1,hlim,SB,seval,zCa,aOp,zB,aUn,reduceCtorEq,zFr,place,zTu,zRe]
 refine otherLoads_ok ((hHG1.ext.sl h4).app _) (by omega) (by simp) fun G2 p2 c2 hO2 hC2=>?_
 have hl2:=hC2.len
 simp only [List.length_append,List.length_cons,List.length_nil] at hl2
 have hHG2:Chg [] H G2:=hHG1.trans hC2.pre
 have s2:=hC2.pre.sl (hO1.sl zEl) fun _ _ _=>by simp
 have d2:=hO2.sl zDl
 have hrc:=fun Z (mp:Bool) (lim:Nat) (Q:Value→zH→Prop)=>rcheck_ok (mp:=mp) (lim:=lim) (cp:=cp) (cl:=cl) (cs:=c1) (c4:=c2) (to:=to) (dl:=dl) (Q:=Q) ((hn.ext hHG2.ext).app Z) (s2.app Z) hsl (d2.app Z) (by omega) hLl
 have hq:∀b:Bool,aEq .bool (.bool b) (.bool b)=some true:=fun b=>by cases b<;>rfl
 refine zRp ?_
 simp only [n3,r3,zNl,zN0,zN1,hlim,hrc,aw,hq,SB,seval,zCa,aOp,zB,aUn,reduceCtorEq,zFr,place,zTu,zRe]
end Go.Proofs.Ytohnaffmcjbpoaa.Fn

