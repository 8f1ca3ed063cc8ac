/-
  Joined texts, 6 of 7. A part of the claim that the last text states.
-/
import Derived.Test.YtjmmhkodgileiabPA5
namespace Go.Proofs.Ytjmmhkodgileiab.Fn
open Go.AM Go.AM.Sym Go.Net
set_option maxRecDepth 100000
set_option linter.unusedVariables false
set_option linter.unusedSimpArgs false
set_option maxHeartbeats 4000000
def ascOk (n:Nat) (ks:List Int) (i:Nat):Prop:=0≤gt ks i∧gt ks i<n∧(0<i→gt ks (i-1)<gt ks i)
instance (n:Nat) (ks:List Int) (i:Nat):Decidable (ascOk n ks i):=by unfold ascOk;infer_instance
def KsOk (n:Nat) (ks:List Int):Prop:=(ks.length=0→n=0)∧∀i,i<ks.length→ascOk n ks i
instance (n:Nat) (ks:List Int):Decidable (KsOk n ks):=by unfold KsOk;infer_instance
def errC (P:List Int) (L:List Leg) (es:List Ev) (ks:List Int):Int:=if errI P L es≠0 then errI P L es else if KsOk es.length ks then 0 else 2
theorem asc_ge {n:Nat} {ks:List Int} (h:∀i,i<ks.length→ascOk n ks i):∀i,i<ks.length→(i:Int)≤gt ks i
 | 0,hi=>(h 0 hi).1
 | i+1,hi=>by
   have h1:=asc_ge h i (by omega)
   have h2:=(h (i+1) hi).2.2 (by omega)
   rw [Nat.add_sub_cancel] at h2
   omega
theorem asc_len {n:Nat} {ks:List Int} (h:∀i,i<ks.length→ascOk n ks i):ks.length≤n:=by
 apply Decidable.byContradiction;intro hc
 have h1:=asc_ge h (ks.length-1) (by omega)
 have h2:=(h (ks.length-1) (by omega)).2.1
 omega
theorem KsOk.mem {n:Nat} {ks:List Int} (h:KsOk n ks):∀k∈ks,0≤k∧k<n:=fun k hk=>by
 obtain ⟨i,hi,rfl⟩:=List.mem_iff_getElem.1 hk
 have:=h.2 i hi
 rw [←gt_lt hi]
 exact ⟨this.1,this.2.1⟩
theorem Cost_ok [OB] {lim:Nat} {pp pl pe pk:Option Addr} {P:List Int} {L:List Leg} {cp cl ce ck:Nat} {es:List Ev} {ks:List Int} {H:Heap} {Q:Value→Heap→Prop} (hn:NetIn H pp pl P L) (hlim:lim≤H.length)
  (hs:Sl H encE 7 pe es) (hsl:es.length<2 ^ 62) (hk:Sl H encI 1 pk ks) (hkl:ks.length<2 ^ 62) (hck:pk=none→ck=0)
  (hbad:∀G,errC P L es ks≠0→Chg [] H G→Q (.tuple #[.agg #[.slice none 0 0,.slice none 0 0,.int .i64 0],.int .i64 (errC P L es ks)]) G)
  (hok:∀G q cq r cr,errC P L es ks=0→Chg [] H G→Mine H.length G encI 1 q ks→Mine H.length G enc3 3 r (stepsN P L es ks)→Q (.tuple #[.agg #[.slice q ks.length cq,.slice r (stepsN P L es ks).length cr,.int .i64 (costN P L es ks)],.int .i64 0]) G) :
  CallR E false lim 11 [.agg (netV pp P.length cp pl L.length cl).toArray,.slice pe es.length ce,.slice pk ks.length ck] H Q:=by
 refine runs' (by decide) e11 rfl ?_
 rw [b11,c11]
 have hck':=fun X (mp:Bool) (lim:Nat) (Q:Value→Heap→Prop)=>check_ok (mp:=mp) (lim:=lim) (cp:=cp) (cl:=cl) (ce:=ce) (Q:=Q) (hn.app X) (hs.app X) (by omega)
 by_cases h0:errI P L es=0
 case neg=>
  have e:errC P L es ks=errI P L es:=by unfold errC;rw [if_pos h0]
  simp only [n11,r11,netV_len,netV_0,netV_1,take_all,hck',eq_false h0,hlim,SB,Nat.reduceLT,callee,aOp,ne_eq,Nat.reduceEqDiff,aBin,aUn,if_true,if_false,reduceCtorEq,frame0,place,notTuple,Nat.reduceAdd,Nat.reduceLeDiff,resVal,dite_true,dite_false,Int.reduceEq,Int.reduceLT,Int.reduceLE]
  rw [←e]
  exact hbad _ (by rw [e];exact h0) Chg.refl.app
 have e2:errC P L es ks=if KsOk es.length ks then 0 else 2:=by unfold errC;rw [if_neg (by simpa using h0)]
 have bad:∀G,¬KsOk es.length ks→Chg [] H G→Q (.tuple #[.agg #[.slice none 0 0,.slice none 0 0,.int .i64 0],.int .i64 2]) G:=fun G hb hC=>by
  rw [if_neg hb] at e2
  have:=hbad G (by rw [e2];decide) hC
  rw [e2] at this
  exact this
 obtain ⟨hv0,h40,hev⟩:=errI_0 h0
 by_cases hz:ks.length=0
 case' pos=>
  by_cases hz2:0<es.length
  case pos=>
   simp only [n11,r11,netV_len,netV_0,netV_1,take_all,hck',eq_true h0,hlim,eq_true (show (ks.length:Int)=0 by omega),eq_true hz2,eq_true (show (0:Int)<(es.length:Int) by omega),SB,Nat.reduceLT,callee,aOp,ne_eq,Nat.reduceEqDiff,aBin,aUn,if_true,if_false,reduceCtorEq,frame0,place,notTuple,Nat.reduceAdd,Nat.reduceLeDiff,resVal,dite_true,dite_false,Int.reduceEq,Int.reduceLT,Int.reduceLE]
   exact bad _ (fun hh=>by have:=hh.1 hz;omega) Chg.refl.app
  simp only [n11,r11,netV_len,netV_0,netV_1,take_all,hck',eq_true h0,hlim,eq_true (show (ks.length:Int)=0 by omega),eq_false hz2,eq_false (show ¬(0:Int)<(es.length:Int) by omega),SB,Nat.reduceLT,callee,aOp,ne_eq,Nat.reduceEqDiff,aBin,aUn,if_true,if_false,reduceCtorEq,frame0,place,notTuple,Nat.reduceAdd,Nat.reduceLeDiff,resVal,dite_true,dite_false,Int.reduceEq,Int.reduceLT,Int.reduceLE]
  have hzz:ks.length=0→es.length=0:=fun _=>by omega
 case' neg=>
  simp only [n11,r11,netV_len,netV_0,netV_1,take_all,hck',eq_true h0,hlim,eq_false (show ¬(ks.length:Int)=0 by omega),SB,Nat.reduceLT,callee,aOp,ne_eq,Nat.reduceEqDiff,aBin,aUn,if_true,if_false,reduceCtorEq,frame0,place,notTuple,Nat.reduceAdd,Nat.reduceLeDiff,resVal,dite_true,dite_false,Int.reduceEq,Int.reduceLT,Int.reduceLE]
  have hzz:ks.length=0→es.length=0:=fun hh=>absurd hh hz
 all_goals
  refine Ret_rounds (fun i=>ks.length-i) (fun i fr G=>i≤ks.length∧fr 1=.slice pe es.length ce∧fr 2=.slice pk ks.length ck∧fr 3=.pointer (some ⟨H.length,0,none⟩)∧fr 6=.pointer (some ⟨H.length+1,0,none⟩)∧fr 7=.int .i64 0∧fr 27=.slice pk ks.length ck∧fr 28=.int .i64 (ks.length:Int)∧fr 29=.int .i64 (i:Int)∧Ext (H++[.cells false (netV pp P.length cp pl L.length cl),.cells false [.slice none 0 0,.slice none 0 0,.int .i64 0]]) G∧∀j,j<i→ascOk es.length ks j) 0
   ⟨Nat.zero_le _,(by simp only [FB,Nat.reduceEqDiff]),(by simp only [FB,Nat.reduceEqDiff]),(by simp only [FB,Nat.reduceEqDiff]),(by simp only [FB,Nat.reduceEqDiff]),(by simp only [FB,Nat.reduceEqDiff]),(by simp only [FB,Nat.reduceEqDiff]),(by simp only [FB,Nat.reduceEqDiff]),by rfl,Ext.refl,fun j hj=>by omega⟩ ?_
  intro i fr G ⟨hi,g1,g2,g3,g6,g7,g27,g28,g29,hE,hall⟩ hN
  rw [Ret_code l11_1.eq_1]
  refine Ret_pad ?_
  have hl:=hE.len
  simp at hl
  have hEH:Ext H G:=(Ext.refl.app).trans hE
  have rB:=fun X=>(Ext.refl.app (X:=X)).cells (hE.cells (show hget _ H.length=.cells false (netV pp P.length cp pl L.length cl) by rw [hget_new0];rfl))
  have r6:=hE.cells (show hget _ (H.length+1)=.cells false [.slice none 0 0,.slice none 0 0,.int .i64 0] by rw [hget_new];rfl)
  have hlimG:lim≤H.length+1:=by omega
  by_cases hlt:i<ks.length
  case neg=>
   obtain rfl:i=ks.length:=by omega
   have hks:KsOk es.length ks:=⟨hzz,hall⟩
   rw [if_pos hks] at e2
   have hkl:=asc_len hall
   simp only [n11,r11,g1,g2,g3,g6,g7,g27,g28,g29,hlt,netV_len,netV_0,netV_1,rB,take_all,SB,Nat.reduceLT,callee,aOp,ne_eq,Nat.reduceEqDiff,aBin,aUn,if_true,if_false,reduceCtorEq,frame0,place,notTuple,Nat.reduceAdd,Nat.reduceLeDiff,resVal,dite_true,dite_false,Int.reduceEq,Int.reduceLT,Int.reduceLE]
   refine newPricer_ok (lim:=lim) (hn.ext (hEH.app)) (by simp;omega) fun G1 R M hE1 hR hM hPI=>?_
   have hl1:=hE1.len
   simp at hl1
   rw [List.append_nil] at hM hR
   have hE1H:=hEH.app.trans hE1
   refine Ret_pad ?_
   simp only [n11,r11,g1,g2,g3,g6,g7,SB,Nat.reduceLT,callee,aOp,ne_eq,Nat.reduceEqDiff,aBin,aUn,if_true,if_false,reduceCtorEq,frame0,place,notTuple,Nat.reduceAdd,Nat.reduceLeDiff,resVal,dite_true,dite_false,Int.reduceEq,Int.reduceLT,Int.reduceLE]
   refine path_ok (hPI.app _) (by simp;omega) ((hE1H.sl hs).app _) h40 (fun i hi=>⟨(hev i hi).2.1,(hev i hi).2.2.1⟩) ((hE1H.sl hk).app _) (by omega) hck hks.mem fun G2 q cq r cr hC2 hPI2 hq hr=>?_
   have r6':=hC2.cells (show hget (G1++[]) (H.length+1)=_ from (Ext.refl.app).cells (hE1.cells ((Ext.refl.app).cells r6))) (by simp;omega)
   obtain ⟨G3,e3,h3,m3⟩:=mut_set (hget_alive r6') (.cells false [.slice q ks.length cq,.slice r (stepsN P L es ks).length cr,.int .i64 (costN P L es ks)])
   have x6:=fun X=>(Ext.refl.app (X:=X)).cells r6'
   have x7:=fun X=>(Ext.refl.app (X:=X)).cells h3
   refine Ret_pad ?_
   simp only [n11,r11,g1,g2,g3,g6,g7,x6,e3,x7,hlimG,SB,Nat.reduceLT,callee,aOp,ne_eq,Nat.reduceEqDiff,aBin,aUn,if_true,if_false,reduceCtorEq,frame0,place,notTuple,Nat.reduceAdd,Nat.reduceLeDiff,resVal,dite_true,dite_false,Int.reduceEq,Int.reduceLT,Int.reduceLE]
   exact hok _ q cq r cr e2 (((Ext.chg (A:=[]) (hE1H.app (X:=[]))).trans' hC2 fun j hj hjl=>by simp at hj;omega).mut m3 (.inr (by omega))).app (((hq.mut m3 (by simp;omega)).le (by simp;omega)).app _) (((hr.mut m3 (by simp;omega)).le (by simp;omega)).app _)
  have ld:=fun X=>((hEH.sl hk).app X).loadCell0 encI_len hlt (by decide)
  simp only [encI,List.getElem?_cons_zero] at ld
  have ix:=fun c (k:IntKind) (H1:Heap)=>(hEH.sl hk).idx (c:=c) (k:=k) (H1:=H1) hlt
  have hw1:IntKind.i64.wrap ((i:Int)+1)=((i+1:Nat):Int):=wrap_nat (by omega)
  have nok:¬ascOk es.length ks i→¬KsOk es.length ks:=fun h hh=>h (hh.2 i hlt)
  have x6:=fun X=>(Ext.refl.app (X:=X)).cells r6
  obtain ⟨G3,e3,h3,m3⟩:=mut_set (hget_alive r6) (.cells false [.slice none 0 0,.slice none 0 0,.int .i64 0])
  have x7:=fun X=>(Ext.refl.app (X:=X)).cells h3
  have hC3:Chg [] H (G3++[]):=((Ext.chg hEH).mut m3 (.inr (by omega))).app
  by_cases c1:gt ks i<0
  ·simp only [n11,r11,g1,g2,g3,g6,g7,g27,g28,g29,hlt,ld,ix,x6,e3,x7,hlimG,eq_true c1,SB,Nat.reduceLT,callee,aOp,ne_eq,Nat.reduceEqDiff,aBin,aUn,if_true,if_false,reduceCtorEq,frame0,place,notTuple,Nat.reduceAdd,Nat.reduceLeDiff,resVal,dite_true,dite_false,Int.reduceEq,Int.reduceLT,Int.reduceLE]
   exact bad _ (nok fun h=>by have:=h.1;omega) hC3
  by_cases c2:(es.length:Int)≤gt ks i
  ·simp only [n11,r11,g1,g2,g3,g6,g7,g27,g28,g29,hlt,ld,ix,x6,e3,x7,hlimG,eq_false c1,eq_true c2,SB,Nat.reduceLT,callee,aOp,ne_eq,Nat.reduceEqDiff,aBin,aUn,if_true,if_false,reduceCtorEq,frame0,place,notTuple,Nat.reduceAdd,Nat.reduceLeDiff,resVal,dite_true,dite_false,Int.reduceEq,Int.reduceLT,Int.reduceLE]
   exact bad _ (nok fun h=>by have:=h.2.1;omega) hC3
  by_cases c3:0<i
  case neg=>
   obtain rfl:i=0:=by omega
   simp only [Int.cast_ofNat_Int] at ix
   simp only [n11,r11,g1,g2,g3,g6,g7,g27,g28,g29,hlt,ld,ix,x6,e3,x7,hlimG,eq_false c1,eq_false c2,show IntKind.i64.wrap (0+1)=1 by decide,SB,Nat.reduceLT,callee,aOp,ne_eq,Nat.reduceEqDiff,aBin,aUn,if_true,if_false,reduceCtorEq,frame0,place,notTuple,Nat.reduceAdd,Nat.reduceLeDiff,resVal,dite_true,dite_false,Int.reduceEq,Int.reduceLT,Int.reduceLE]
   exact hN 1 _ _ ⟨by omega,(by simp only [g1,FB,Nat.reduceEqDiff]),(by simp only [g2,FB,Nat.reduceEqDiff]),(by simp only [g3,FB,Nat.reduceEqDiff]),(by simp only [g6,FB,Nat.reduceEqDiff]),(by simp only [g7,FB,Nat.reduceEqDiff]),(by simp only [g27,FB,Nat.reduceEqDiff]),(by simp only [g28,FB,Nat.reduceEqDiff]),by rfl,hE.app,fun j hj=>by
    obtain rfl:j=0:=by omega
    exact ⟨by omega,by omega,fun h=>by omega⟩⟩ (by omega)
  obtain ⟨k,rfl⟩:∃k,i=k+1:=⟨i-1,by omega⟩
  have lk:=fun X=>((hEH.sl hk).app X).loadCell0 encI_len (i:=k) (by omega) (by decide)
  simp only [encI,List.getElem?_cons_zero] at lk
  have ik:=fun c (kk:IntKind) (H1:Heap)=>(hEH.sl hk).idx (c:=c) (k:=kk) (H1:=H1) (i:=k) (by omega)
  have wk:IntKind.i64.wrap (((k+1:Nat):Int)-1)=(k:Int):=by rw [wrap_id (by omega) (by omega)];omega
  by_cases c4:gt ks (k+1)≤gt ks k
  ·simp only [n11,r11,g1,g2,g3,g6,g7,g27,g28,g29,hlt,ld,ix,x6,e3,x7,hlimG,eq_false c1,eq_false c2,eq_true c3,lk,ik,wk,eq_true c4,SB,Nat.reduceLT,callee,aOp,ne_eq,Nat.reduceEqDiff,aBin,aUn,if_true,if_false,reduceCtorEq,frame0,place,notTuple,Nat.reduceAdd,Nat.reduceLeDiff,resVal,dite_true,dite_false,Int.reduceEq,Int.reduceLT,Int.reduceLE]
   exact bad _ (nok fun h=>by have:=h.2.2 c3;rw [Nat.add_sub_cancel] at this;omega) hC3
  simp only [n11,r11,g1,g2,g3,g6,g7,g27,g28,g29,hlt,ld,ix,x6,e3,x7,hlimG,eq_false c1,eq_false c2,eq_true c3,lk,ik,wk,eq_false c4,hw1,SB,Nat.reduceLT,callee,aOp,ne_eq,Nat.reduceEqDiff,aBin,aUn,if_true,if_false,reduceCtorEq,frame0,place,notTuple,Nat.reduceAdd,Nat.reduceLeDiff,resVal,dite_true,dite_false,Int.reduceEq,Int.reduceLT,Int.reduceLE]
  exact hN (k+2) _ _ ⟨by omega,(by simp only [g1,FB,Nat.reduceEqDiff]),(by simp only [g2,FB,Nat.reduceEqDiff]),(by simp only [g3,FB,Nat.reduceEqDiff]),(by simp only [g6,FB,Nat.reduceEqDiff]),(by simp only [g7,FB,Nat.reduceEqDiff]),(by simp only [g27,FB,Nat.reduceEqDiff]),(by simp only [g28,FB,Nat.reduceEqDiff]),(by simp only [FB,Nat.reduceEqDiff]),hE.app,fun j hj=>by
   rcases Nat.lt_or_ge j (k+1) with h | h
   ·exact hall j h
   ·obtain rfl:j=k+1:=by omega
    exact ⟨by omega,by omega,fun _=>by rw [Nat.add_sub_cancel];omega⟩⟩ (by omega)
abbrev Tri:=Int×Int×Int
def lessR (x y:Tri):Bool:=decide (x.1<y.1∨(x.1=y.1∧y.2.1<x.2.1))
theorem less_ok [OB] {mp:Bool} {lim:Nat} {x y:Tri} {H:Heap} {Q:Value→Heap→Prop}:CallR E mp lim 59 [.agg (enc3 x).toArray,.agg (enc3 y).toArray] H Q=Q (.bool (lessR x y)) H:=by
 refine pc (by decide) e59 rfl rfl ?_
 rw [b59,c59]
 obtain ⟨a,b,c⟩:=x
 obtain ⟨a',b',c'⟩:=y
 have e0:lessR (a,b,c) (a',b',c')=decide (a<a'∨(a=a'∧b'<b)):=rfl
 rw [e0]
 by_cases h1:a<a'
 ·have e:=decide_eq_true (show a<a'∨(a=a'∧b'<b) from .inl h1)
  rw [e]
  simp only [n59,r59,enc3,eq_true h1,SB,Nat.reduceLT,callee,aOp,ne_eq,Nat.reduceEqDiff,aBin,aUn,if_true,if_false,reduceCtorEq,frame0,place,notTuple,Nat.reduceAdd,Nat.reduceLeDiff,resVal,dite_true,dite_false,Int.reduceEq,Int.reduceLT,Int.reduceLE]
 by_cases h2:a=a'
 ·have e:decide (a<a'∨(a=a'∧b'<b))=decide (b'<b):=decide_eq_decide.2 ⟨fun h=>by omega,fun h=>.inr ⟨h2,h⟩⟩
  rw [e]
  simp only [n59,r59,enc3,eq_false h1,eq_true h2,SB,Nat.reduceLT,callee,aOp,ne_eq,Nat.reduceEqDiff,aBin,aUn,if_true,if_false,reduceCtorEq,frame0,place,notTuple,Nat.reduceAdd,Nat.reduceLeDiff,resVal,dite_true,dite_false,Int.reduceEq,Int.reduceLT,Int.reduceLE]
 ·have e:=decide_eq_false (show ¬(a<a'∨(a=a'∧b'<b)) by omega)
  rw [e]
  simp only [n59,r59,enc3,eq_false h1,eq_false h2,SB,Nat.reduceLT,callee,aOp,ne_eq,Nat.reduceEqDiff,aBin,aUn,if_true,if_false,reduceCtorEq,frame0,place,notTuple,Nat.reduceAdd,Nat.reduceLeDiff,resVal,dite_true,dite_false,Int.reduceEq,Int.reduceLT,Int.reduceLE]
def candN (P:List Int) (L:List Leg) (es:List Ev) (T:List Tri) (i j:Nat):Tri:=(priceN P L (gt es i) (gt es j)+30*((j:Int)-i-1)+(gt T j).1,(gt T j).2.1+1,(j:Int))
def pickR (x r:Tri):Tri:=if lessR x r then x else r
def rowUp (P:List Int) (L:List Leg) (es:List Ev) (T:List Tri) (i:Nat):Nat→Tri
 | 0=>(30*((es.length:Int)-1-i),1,-1)
 | m+1=>pickR (rowUp P L es T i m) (candN P L es T i (es.length-1-m))
def tableN (P:List Int) (L:List Leg) (es:List Ev):Nat→List Tri
 | 0=>List.replicate es.length (0,0,0)
 | k+1=>(tableN P L es k).set (es.length-1-k) (rowUp P L es (tableN P L es k) (es.length-1-k) k)
theorem tableN_len {P:List Int} {L:List Leg} {es:List Ev}:∀k,(tableN P L es k).length=es.length
 | 0=>by simp [tableN]
 | k+1=>by rw [tableN,List.length_set,tableN_len k]
def SmallT (T:List Tri):Prop:=∀j,0≤(gt T j).1∧(gt T j).1≤10000∧0≤(gt T j).2.1∧(gt T j).2.1≤40
theorem enc3_set3 {x:Tri} {a b c:Value}:(((enc3 x).set 0 a).set 1 b).set 2 c=[a,b,c]:=id rfl
theorem mask1 {G:Heap} {c:Blk}:maskH G.length [0] (G++[c])=G++[.dead]:=by
 show (G++[c]).set (G.length+0) .dead=_
 rw [Nat.add_zero,List.set_append_right _ _ (Nat.le_refl _),Nat.sub_self];rfl
theorem unmask1 {G G1:Heap} {c:Blk}:unmaskH G.length [0] (G++[c]) G1=G1.set G.length c:=by
 show G1.set (G.length+0) (hget (G++[c]) (G.length+0))=_
 rw [Nat.add_zero,hget_new0];rfl
theorem inner_ok [OB] {lim R M B8 BT:Nat} {S:List Nat} {pp pl pe:Option Addr} {P:List Int} {L:List Leg} {cp cl ce ct:Nat} {es:List Ev} {T:List Tri} {i:Nat} {G:Heap} {fr:Nat→Value} {K:List AItem} {Z:Value→Heap→Prop} (hi:i<es.length) (hlim:lim≤B8) (hS:B8∈S) (hS2:BT∈S)
  (h40:es.length≤40) (ht:∀i,i<es.length→0≤(gt es i).time∧(gt es i).time≤maxTime) (hT:T.length=es.length) (hsm:SmallT T)
  (hP:PI lim R M S G pp pl cp cl P L) (hs:Sl G encE 7 pe es) (hBT:hget G BT=.cells false (T.flatMap enc3)) (hB8:hget G B8=.cells false (enc3 (rowUp P L es T i 0)))
  (f0:fr 0=.pointer (some ⟨R,0,none⟩)) (f1:fr 1=.slice pe es.length ce) (f5:fr 5=.slice (some ⟨BT,0,none⟩) T.length ct) (f6:fr 6=.func (.func 59) #[] #[]) (f7:fr 7=.int .i64 (i:Int)) (f8:fr 8=.pointer (some ⟨B8,0,none⟩)) (f9:fr 9=.int .i64 ((es.length:Int)-1))
  (hR:∀fr' G',Chg [M,B8] G G'→PI lim R M S G' pp pl cp cl P L→hget G' B8=.cells false (enc3 (rowUp P L es T i (es.length-1-i)))→(∀j,j≤8→fr' j=fr j)→Ret E a38 lim K fr' G' Z) :
  Ret E a38 lim (.code (.loop l38_3)::.inBlock 2::K) fr G Z:=by
 refine Ret_rounds (fun m=>es.length-m) (fun m fr' G'=>m≤es.length-1-i∧Chg [M,B8] G G'∧PI lim R M S G' pp pl cp cl P L∧hget G' B8=.cells false (enc3 (rowUp P L es T i m))∧(∀j,j≤8→fr' j=fr j)∧fr' 9=.int .i64 ((es.length:Int)-1-m)) 0
  ⟨Nat.zero_le _,Chg.refl,hP,hB8,fun j _=>rfl,by rw [f9];simp⟩ ?_
 intro m fr' G' ⟨hm,hC,hPI,hB,hfr,g9⟩ hN
 rw [Ret_code l38_3.eq_1]
 have g0:=(hfr 0 (by decide)).trans f0
 have g1:=(hfr 1 (by decide)).trans f1
 have g5:=(hfr 5 (by decide)).trans f5
 have g6:=(hfr 6 (by decide)).trans f6
 have g7:=(hfr 7 (by decide)).trans f7
 have g8:=(hfr 8 (by decide)).trans f8
 refine Ret_pad ?_
 by_cases hlt:m<es.length-1-i
 case neg=>
  obtain rfl:m=es.length-1-i:=by omega
  have e9:(es.length:Int)-1-((es.length-1-i:Nat):Int)=(i:Int):=by omega
  rw [e9] at g9
  simp only [n38,r38,g7,g9,SB,Nat.reduceLT,callee,aOp,ne_eq,Nat.reduceEqDiff,aBin,aUn,if_true,if_false,reduceCtorEq,frame0,place,notTuple,Nat.reduceAdd,Nat.reduceLeDiff,resVal,dite_true,dite_false,Int.reduceEq,Int.reduceLT,Int.reduceLE]
  exact hR _ _ hC.app (hPI.app _) ((Ext.refl.app).cells hB) fun j hj=>by
   rw [←hfr j hj]
   simp only [upd]
   repeat rw [if_neg (by omega)]
 generalize hj:es.length-1-m=j
 have e9:(es.length:Int)-1-(m:Int)=(j:Int):=by omega
 rw [e9] at g9
 have hjn:j<es.length:=by omega
 have hij:i<j:=by omega
 have hne:BT≠B8:=by
  rintro rfl
  rw [hBT] at hB8
  simp only [Blk.cells.injEq,true_and] at hB8
  have:=congrArg List.length hB8
  rw [flat_len enc3_len,enc3_len] at this
  omega
 have hneM:BT≠M:=fun e=>hPI.oM (e▸hS2)
 have hsT:Sl G' enc3 3 (some ⟨BT,0,none⟩) T:=Sl.row (ro:=false) enc3_len (hC.cells hBT (by simp;exact ⟨hneM,hne⟩))
 have hB8l:∀a,pe=some a→es≠[]→a.block≠B8:=fun a ha hn e=>by
  subst ha
  obtain ⟨ro,c,k1,k2,_⟩:=hs.2 hn
  rw [e,hB8] at k1
  simp only [Blk.cells.injEq] at k1
  rw [←k1.2,enc3_len] at k2
  omega
 have hsG:Sl G' encE 7 pe es:=slSimA hs fun a ha hn ro c hc=>hC.cells hc (by
  have h1:=hB8l a ha hn
  have h2:a.block≠M:=fun e=>by obtain ⟨ms,k1,_⟩:=hP.m;rw [e,k1] at hc;cases hc
  simp;exact ⟨h2,h1⟩)
 have la:=fun X=>(hsG.app X).loadCells encE_len hi
 have lb:=fun X=>(hsG.app X).loadCells encE_len hjn
 have xa:=fun c (k:IntKind) (H1:Heap)=>hsG.idx (c:=c) (k:=k) (H1:=H1) hi
 have xb:=fun c (k:IntKind) (H1:Heap)=>hsG.idx (c:=c) (k:=k) (H1:=H1) hjn
 have hjT:j<T.length:=by omega
 have l0:=fun X=>(hsT.app X).loadCell enc3_len hjT (j:=0) (by decide)
 have l1:=fun X=>(hsT.app X).loadCell enc3_len hjT (j:=1) (by decide)
 simp only [enc3,List.getElem?_cons_zero,List.getElem?_cons_succ] at l0 l1
 have xj:=fun c (k:IntKind) (H1:Heap)=>hsT.idx (c:=c) (k:=k) (H1:=H1) hjT
 have hsj:=hsm j
 have w1:IntKind.i64.wrap ((j:Int)-i)=(j:Int)-i:=wrap_id (by omega) (by omega)
 have w2:IntKind.i64.wrap ((j:Int)-i-1)=(j:Int)-i-1:=wrap_id (by omega) (by omega)
 have w3:IntKind.i64.wrap (30*((j:Int)-i-1))=30*((j:Int)-i-1):=wrap_id (by omega) (by omega)
 have w4:IntKind.i64.wrap ((gt T j).2.1+1)=(gt T j).2.1+1:=wrap_id (by omega) (by omega)
 have dlt:=decide_eq_true (show i<j from hij)
 simp only [n38,r38,g0,g1,g5,g6,g7,g8,g9,dlt,la,lb,xa,xb,l0,l1,xj,w1,w2,w3,w4,SB,Nat.reduceLT,callee,aOp,ne_eq,Nat.reduceEqDiff,aBin,aUn,if_true,if_false,reduceCtorEq,frame0,place,notTuple,Nat.reduceAdd,Nat.reduceLeDiff,resVal,dite_true,dite_false,Int.reduceEq,Int.reduceLT,Int.reduceLE]
 have hB8g:=hget_alive hB8
 have hGG:=hC.len
 refine price_ok (a:=gt es i) (b:=gt es j) (hPI.grow [.dead] (Nat.le_refl _) (by simp)) (by simp;omega) (ht j hjn) fun G1 hC1 hPI1=>⟨cellsKept_of ?_, ?_⟩
 ·rw [mask1]
  exact (hPI.grow [.dead] (Nat.le_refl _) (by simp)).chgk hC1
 have hl1:=hC1.len
 simp at hl1
 obtain ⟨G2,e2,h2,m2⟩:=mut_set (show G'.length<G1.length by omega) (.cells false [.int .i64 0,.int .i64 0,.int .i64 0])
 have eu:unmaskH (List.length G') [0] (G'++[.cells false [.int .i64 0,.int .i64 0,.int .i64 0]]) G1=G2++[]:=by rw [unmask1,←e2,List.append_nil]
 rw [List.append_nil,eu]
 generalize hp:priceN P L (gt es i) (gt es j)=p
 have hpr:=priceN_range (P:=P) (L:=L) (a:=gt es i) (b:=gt es j)
 rw [hp] at hpr
 have w5:IntKind.i64.wrap (p+30*((j:Int)-i-1))=p+30*((j:Int)-i-1):=wrap_id (by omega) (by omega)
 have w6:IntKind.i64.wrap (p+30*((j:Int)-i-1)+(gt T j).1)=p+30*((j:Int)-i-1)+(gt T j).1:=wrap_id (by omega) (by omega)
 have w7:IntKind.i64.wrap ((j:Int)-1)=(es.length:Int)-1-((m+1:Nat):Int):=by rw [wrap_id (by omega) (by omega)];omega
 obtain ⟨G3,e3,h3,m3⟩:=mut_set (hget_alive h2) (.cells false [.int .i64 (p+30*((j:Int)-i-1)+(gt T j).1),.int .i64 ((gt T j).2.1+1),.int .i64 (j:Int)])
 have hB1:=(hPI.app [.dead]).chgk hC1 _ _ _ ((Ext.refl.app).cells hB)
 have hBlt:=hget_alive hB
 have hB3:=m3.cells (m2.cells hB1 (by omega)) (by omega)
 have ec:candN P L es T i j=(p+30*((j:Int)-i-1)+(gt T j).1,(gt T j).2.1+1,(j:Int)):=by unfold candN;rw [hp]
 have hless:∀(X:Heap) (mp:Bool) (lim:Nat) (Q:Value→Heap→Prop),CallR E mp lim 59 [.agg (enc3 (rowUp P L es T i m)).toArray,.agg #[.int .i64 (p+30*((j:Int)-i-1)+(gt T j).1),.int .i64 ((gt T j).2.1+1),.int .i64 (j:Int)]] X Q=Q (.bool (lessR (rowUp P L es T i m) (candN P L es T i j))) X:=fun X mp lim Q=>by rw [ec];exact less_ok (x:=rowUp P L es T i m) (y:=(p+30*((j:Int)-i-1)+(gt T j).1,(gt T j).2.1+1,(j:Int)))
 have er:rowUp P L es T i (m+1)=pickR (rowUp P L es T i m) (candN P L es T i j):=by rw [rowUp,hj]
 have X2:=fun X=>(Ext.refl.app (X:=X)).cells h2
 have X3:=fun X=>(Ext.refl.app (X:=X)).cells h3
 have XB:=fun X=>(Ext.refl.app (X:=X)).cells hB3
 have k1:Chg [M,B8] G G3:=((hC.trans (hC1.pre.mono fun j _ hj=>by simp at hj;simp [hj])).mut m2 (.inr (by have:=hC.len;omega))).mut m3 (.inr (by have:=hC.len;omega))
 have k2:=hPI1.chg ((Chg.refl.mut m2 (.inl (by simp))).mut m3 (.inl (by simp)))
 have hlimG':lim≤G'.length:=by omega
 cases hb:lessR (rowUp P L es T i m) (candN P L es T i j) with
 | true=>
   rw [hb] at hless
   rw [pickR,if_pos hb] at er
   simp only [n38,r38,g0,g1,g5,g6,g7,g8,g9,w5,w6,w7,X2,e3,X3,XB,enc3_len,take_all,hless,hlimG',SB,Nat.reduceLT,callee,aOp,ne_eq,Nat.reduceEqDiff,aBin,aUn,if_true,if_false,reduceCtorEq,frame0,place,notTuple,Nat.reduceAdd,Nat.reduceLeDiff,resVal,dite_true,dite_false,Int.reduceEq,Int.reduceLT,Int.reduceLE]
   exact hN (m+1) _ _ ⟨by omega,k1.app,k2.sub (fun q hq=>by simp [hq]) |>.app _,by rw [er];exact (Ext.refl.app).cells hB3,fun q hq=>by
    rw [←hfr q hq]
    simp only [upd]
    repeat rw [if_neg (by omega)],by rfl⟩ (by omega)
 | false=>
   rw [hb] at hless
   rw [pickR,if_neg (by rw [hb];decide),ec] at er
   obtain ⟨G4,e4,h4,m4⟩:=mut_set (hget_alive hB3) (.cells false [.int .i64 (p+30*((j:Int)-i-1)+(gt T j).1),.int .i64 ((gt T j).2.1+1),.int .i64 (j:Int)])
   simp only [n38,r38,g0,g1,g5,g6,g7,g8,g9,w5,w6,w7,X2,e3,X3,XB,enc3_len,take_all,hless,hlimG',hlim,e4,enc3_set3,SB,Nat.reduceLT,callee,aOp,ne_eq,Nat.reduceEqDiff,aBin,aUn,if_true,if_false,reduceCtorEq,frame0,place,notTuple,Nat.reduceAdd,Nat.reduceLeDiff,resVal,dite_true,dite_false,Int.reduceEq,Int.reduceLT,Int.reduceLE]
   exact hN (m+1) _ _ ⟨by omega,(k1.mut m4 (.inl (by simp))).app,((k2.chg (Chg.refl.mut m4 (.inl (by simp [hS])))).sub (fun q hq=>by simp [hq])).app _,by rw [er];exact (Ext.refl.app).cells h4,fun q hq=>by
    rw [←hfr q hq]
    simp only [upd]
    repeat rw [if_neg (by omega)],by rfl⟩ (by omega)
def Bnd (n j:Nat) (x:Tri):Prop:=0≤x.1∧x.1≤110*((n:Int)-1-j)∧0≤x.2.1∧x.2.1≤(n:Int)-j∧-1≤x.2.2∧x.2.2<n
theorem pickR_bnd {n j:Nat} {x y:Tri} (hx:Bnd n j x) (hy:Bnd n j y):Bnd n j (pickR x y):=by
 unfold pickR
 split
 ·exact hx
 ·exact hy
theorem rowUp_bnd {P:List Int} {L:List Leg} {es:List Ev} {T:List Tri} {i:Nat} (hT:∀j,j<es.length→Bnd es.length j (gt T j)) (hi:i<es.length):∀m,m≤es.length-1-i→Bnd es.length i (rowUp P L es T i m)
 | 0,_=>by
   unfold rowUp Bnd
   refine ⟨?_, ?_, ?_, ?_, ?_, ?_⟩<;>simp only<;>omega
 | m+1,hm=>by
   rw [rowUp]
   refine pickR_bnd (rowUp_bnd hT hi m (by omega)) ?_
   have h1:=hT (es.length-1-m) (by omega)
   have h2:=priceN_range (P:=P) (L:=L) (a:=gt es i) (b:=gt es (es.length-1-m))
   unfold candN Bnd at *
   refine ⟨?_, ?_, ?_, ?_, ?_, ?_⟩<;>simp only<;>omega
theorem gt_set {α:Type} [Inhabited α] {l:List α} {i j:Nat} {x:α} (hi:i<l.length):gt (l.set i x) j=if i=j then x else gt l j:=by
 unfold gt
 rw [List.getD_eq_getElem?_getD,List.getElem?_set,List.getD_eq_getElem?_getD]
 split
 ·simp [hi]
 ·rfl
theorem tableN_bnd {P:List Int} {L:List Leg} {es:List Ev}:∀k,k≤es.length→∀j,j<es.length→Bnd es.length j (gt (tableN P L es k) j)
 | 0,_,j,hj=>by
   rw [tableN,gt_lt (by simpa using hj),List.getElem_replicate]
   unfold Bnd
   refine ⟨?_, ?_, ?_, ?_, ?_, ?_⟩<;>simp only<;>omega
 | k+1,hk,j,hj=>by
   rw [tableN,gt_set (by rw [tableN_len];omega)]
   split
   ·rename_i e
    subst e
    exact rowUp_bnd (tableN_bnd k (by omega)) hj k (by omega)
   ·exact tableN_bnd k (by omega) j hj
theorem bnd_small {n:Nat} {T:List Tri} (hn:n≤40) (hT:T.length=n) (h:∀j,j<n→Bnd n j (gt T j)):SmallT T:=fun j=>by
 by_cases hj:j<n
 ·have:=h j hj
  unfold Bnd at this
  omega
 ·have e:gt T j=(0,0,0):=by unfold gt;rw [List.getD_eq_getElem?_getD,List.getElem?_eq_none (by omega)];rfl
  rw [e]
  refine ⟨?_, ?_, ?_, ?_⟩<;>simp only<;>omega
def NextOk (n j:Nat) (x:Tri):Prop:=x.2.2=-1∨((j:Int)<x.2.2∧x.2.2<n)
theorem rowUp_next {P:List Int} {L:List Leg} {es:List Ev} {T:List Tri} {i:Nat}:∀m,m≤es.length-1-i→NextOk es.length i (rowUp P L es T i m)
 | 0,_=>.inl rfl
 | m+1,hm=>by
   rw [rowUp,pickR]
   split
   ·exact rowUp_next m (by omega)
   ·refine .inr ⟨?_, ?_⟩<;>simp only [candN]<;>omega
theorem tableN_next {P:List Int} {L:List Leg} {es:List Ev}:∀k,k≤es.length→∀j,es.length-k≤j→j<es.length→NextOk es.length j (gt (tableN P L es k) j)
 | 0,_,j,h1,h2=>by omega
 | k+1,hk,j,h1,hj=>by
   rw [tableN,gt_set (by rw [tableN_len];omega)]
   split
   ·rename_i e
    subst e
    exact rowUp_next k (by omega)
   ·exact tableN_next k (by omega) j (by omega) hj
def topC (T:List Tri) (i:Nat):Tri:=(30*(i:Int)+(gt T i).1,(gt T i).2.1,(i:Int))
def topN (n:Nat) (T:List Tri):Nat→Tri
 | 0=>(0,0,-1)
 | m+1=>if (topN n T m).2.2<0 then topC T (n-1-m) else pickR (topN n T m) (topC T (n-1-m))
def chainN (T:List Tri):Nat→Int→List Int
 | 0,_=>[]
 | f+1,x=>if x<0 then [] else x::chainN T f (gt T x.toNat).2.2
def bestN (P:List Int) (L:List Leg) (es:List Ev):List Int:=chainN (tableN P L es es.length) es.length (topN es.length (tableN P L es es.length) es.length).2.2
theorem topN_next {n:Nat} {T:List Tri}:∀m,m≤n→(topN n T m).2.2<n∧-1≤(topN n T m).2.2
 | 0,_=>⟨by show (-1:Int)<n;omega,Int.le_refl _⟩
 | m+1,hm=>by
   have h1:(topC T (n-1-m)).2.2<n∧-1≤(topC T (n-1-m)).2.2:=by
    unfold topC
    constructor<;>simp only<;>omega
   have h2:=topN_next (n:=n) (T:=T) m (by omega)
   rw [topN]
   unfold pickR
   split
   ·exact h1
   ·split
    ·exact h2
    ·exact h1
theorem chainN_mem {n:Nat} {T:List Tri} (hT:∀j,j<n→NextOk n j (gt T j)):∀(f:Nat) (x:Int),x<n→∀k∈chainN T f x,0≤k∧k<n
 | 0,_,_,k,hk=>by cases hk
 | f+1,x,hx,k,hk=>by
   rw [chainN] at hk
   split at hk
   ·cases hk
   ·rename_i h0
    rcases List.mem_cons.1 hk with rfl | hk
    ·exact ⟨by omega,hx⟩
    ·refine chainN_mem hT f _ ?_ k hk
     rcases hT x.toNat (by omega) with e | e
     ·rw [e];omega
     ·exact e.2
theorem chainN_len {T:List Tri}:∀(f:Nat) (x:Int),(chainN T f x).length≤f
 | 0,_=>Nat.le_refl _
 | f+1,x=>by
   rw [chainN]
   split
   ·exact Nat.zero_le _
   ·rw [List.length_cons];have:=chainN_len (T:=T) f (gt T x.toNat).2.2;omega
theorem bestN_mem {P:List Int} {L:List Leg} {es:List Ev}:∀k∈bestN P L es,0≤k∧k<es.length:=
 chainN_mem (fun j hj=>tableN_next _ (Nat.le_refl _) j (by omega) hj) _ _ (topN_next _ (Nat.le_refl _)).1
theorem zeros3 (n:Nat):(List.range (n*3)).map (fun j=>[Value.int .i64 0,Value.int .i64 0,Value.int .i64 0].getD (j % 3) undef)=(List.replicate n ((0,0,0):Tri)).flatMap enc3:=by
 have h1:∀j,[Value.int .i64 0,Value.int .i64 0,Value.int .i64 0].getD (j % 3) undef=Value.int .i64 0:=fun j=>by
  have:j % 3=0∨j % 3=1∨j % 3=2:=by omega
  rcases this with e | e | e<;>rw [e]<;>rfl
 simp only [h1]
 rw [List.map_const',List.length_range]
 induction n with
 | zero=>rfl
 | succ n ih=>
   rw [List.replicate_succ,List.flatMap_cons,←ih,Nat.succ_mul]
   rfl
theorem tsl {T:List Tri} {n:Nat} (h:T.length=n) (p:Option Addr) (c:Nat):Value.slice p n c=Value.slice p T.length c:=by rw [h]
theorem top_ok [OB] {lim R M B BT n:Nat} {S:List Nat} {pp pl pe:Option Addr} {P:List Int} {L:List Leg} {cp cl ce ct:Nat} {T:List Tri} {G:Heap} {fr:Nat→Value} {K:List AItem} {Z:Value→Heap→Prop} (hlim:lim≤B) (h40:n≤40) (hT:T.length=n) (hTb:∀j,j<n→Bnd n j (gt T j))
  (hP:PI lim R M S G pp pl cp cl P L) (hS:B∈S) (hne:BT≠B) (hBT:hget G BT=.cells false (T.flatMap enc3)) (hB:hget G B=.cells false (enc3 (topN n T 0)))
  (f1:fr 1=.slice pe n ce) (f5:fr 5=.slice (some ⟨BT,0,none⟩) T.length ct) (f6:fr 6=.func (.func 59) #[] #[]) (f12:fr 12=.pointer (some ⟨B,0,none⟩)) (f13:fr 13=.int .i64 ((n:Int)-1))
  (hR:∀fr' G',Chg [B] G G'→PI lim R M S G' pp pl cp cl P L→hget G' B=.cells false (enc3 (topN n T n))→(∀j,j≤12→fr' j=fr j)→Ret E a38 lim K fr' G' Z) :
  Ret E a38 lim (.code (.loop l38_2)::.inBlock 4::K) fr G Z:=by
 refine Ret_rounds (fun m=>n-m) (fun m fr' G'=>m≤n∧Chg [B] G G'∧PI lim R M S G' pp pl cp cl P L∧hget G' B=.cells false (enc3 (topN n T m))∧(∀j,j≤12→fr' j=fr j)∧fr' 13=.int .i64 ((n:Int)-1-m)) 0
  ⟨Nat.zero_le _,Chg.refl,hP,hB,fun j _=>rfl,by rw [f13];simp⟩ ?_
 intro m fr' G' ⟨hm,hC,hPI,hB1,hfr,g13⟩ hN
 rw [Ret_code l38_2.eq_1]
 have g5:=(hfr 5 (by decide)).trans f5
 have g6:=(hfr 6 (by decide)).trans f6
 have g12:=(hfr 12 (by decide)).trans f12
 refine Ret_pad ?_
 by_cases hlt:m<n
 case neg=>
  obtain rfl:m=n:=by omega
  have e9:(m:Int)-1-(m:Int)=-1:=by omega
  rw [e9] at g13
  simp only [n38,r38,g13,SB,Nat.reduceLT,callee,aOp,ne_eq,Nat.reduceEqDiff,aBin,aUn,if_true,if_false,reduceCtorEq,frame0,place,notTuple,Nat.reduceAdd,Nat.reduceLeDiff,resVal,dite_true,dite_false,Int.reduceEq,Int.reduceLT,Int.reduceLE]
  exact hR _ _ hC.app (hPI.app _) ((Ext.refl.app).cells hB1) fun j hj=>by
   rw [←hfr j hj]
   simp only [upd]
   repeat rw [if_neg (by omega)]
 generalize hi:n-1-m=i
 have e9:(n:Int)-1-(m:Int)=(i:Int):=by omega
 rw [e9] at g13
 have hin:i<n:=by omega
 have hiT:i<T.length:=by omega
 have hsT:Sl G' enc3 3 (some ⟨BT,0,none⟩) T:=Sl.row (ro:=false) enc3_len (hC.cells hBT (by simp;exact hne))
 have l0:=fun X=>(hsT.app X).loadCell enc3_len hiT (j:=0) (by decide)
 have l1:=fun X=>(hsT.app X).loadCell enc3_len hiT (j:=1) (by decide)
 simp only [enc3,List.getElem?_cons_zero,List.getElem?_cons_succ] at l0 l1
 have xj:=fun c (k:IntKind) (H1:Heap)=>hsT.idx (c:=c) (k:=k) (H1:=H1) hiT
 have hb:=hTb i hin
 unfold Bnd at hb
 have w1:IntKind.i64.wrap (30*(i:Int))=30*(i:Int):=wrap_id (by omega) (by omega)
 have w2:IntKind.i64.wrap (30*(i:Int)+(gt T i).1)=30*(i:Int)+(gt T i).1:=wrap_id (by omega) (by omega)
 have w3:IntKind.i64.wrap ((i:Int)-1)=(n:Int)-1-((m+1:Nat):Int):=by rw [wrap_id (by omega) (by omega)];omega
 have i0:=eq_true (show (0:Int)≤(i:Int) by omega)
 have hlimG:lim≤G'.length:=by have:=hC.len;have:=hget_alive hB;omega
 have hBl:=hget_alive hB1
 have et:topN n T (m+1)=if (topN n T m).2.2<0 then topC T i else pickR (topN n T m) (topC T i):=by rw [topN,hi]
 generalize hx:topN n T m=x at et
 rw [hx] at hB1
 have hB2:=hB1
 simp only [enc3] at hB2
 have XB:=fun X=>(Ext.refl.app (X:=X)).cells hB2
 have hless:∀(X:Heap) (mp:Bool) (lim:Nat) (Q:Value→Heap→Prop),CallR E mp lim 59 [.agg #[.int .i64 x.1,.int .i64 x.2.1,.int .i64 x.2.2],.agg #[.int .i64 (30*(i:Int)+(gt T i).1),.int .i64 (gt T i).2.1,.int .i64 (i:Int)]] X Q=Q (.bool (lessR x (topC T i))) X:=fun X mp lim Q=>less_ok (x:=x) (y:=topC T i)
 obtain ⟨G3,e3,h3,m3⟩:=mut_set hBl (.cells false [.int .i64 (30*(i:Int)+(gt T i).1),.int .i64 (gt T i).2.1,.int .i64 (i:Int)])
 have hframe:∀(f:Nat→Value),(∀j,j≤12→f j=fr' j)→∀j,j≤12→f j=fr j:=fun f h j hj=>(h j hj).trans (hfr j hj)
 by_cases hneg:x.2.2<0
 ·rw [if_pos hneg] at et
  simp only [n38,r38,g5,g6,g12,g13,l0,l1,xj,w1,w2,w3,i0,hlimG,XB,eq_true hneg,hlim,e3,SB,Nat.reduceLT,callee,aOp,ne_eq,Nat.reduceEqDiff,aBin,aUn,if_true,if_false,reduceCtorEq,frame0,place,notTuple,Nat.reduceAdd,Nat.reduceLeDiff,resVal,dite_true,dite_false,Int.reduceEq,Int.reduceLT,Int.reduceLE]
  exact hN (m+1) _ _ ⟨by omega,(hC.mut m3 (.inl (by simp))).app,(hPI.chg (Chg.refl.mut m3 (.inl hS))).app _,by rw [et];exact (Ext.refl.app).cells h3,hframe _ (fun j hj=>by
   simp only [upd]
   repeat rw [if_neg (by omega)]),by rfl⟩ (by omega)
 rw [if_neg hneg] at et
 cases hb:lessR x (topC T i) with
 | true=>
   rw [hb] at hless
   rw [pickR,if_pos hb] at et
   simp only [n38,r38,g5,g6,g12,g13,l0,l1,xj,w1,w2,w3,i0,hlimG,XB,eq_false hneg,hlim,hless,SB,Nat.reduceLT,callee,aOp,ne_eq,Nat.reduceEqDiff,aBin,aUn,if_true,if_false,reduceCtorEq,frame0,place,notTuple,Nat.reduceAdd,Nat.reduceLeDiff,resVal,dite_true,dite_false,Int.reduceEq,Int.reduceLT,Int.reduceLE]
   exact hN (m+1) _ _ ⟨by omega,hC.app,hPI.app _,by rw [et];exact (Ext.refl.app).cells hB1,hframe _ (fun j hj=>by
    simp only [upd]
    repeat rw [if_neg (by omega)]),by rfl⟩ (by omega)
 | false=>
   rw [hb] at hless
   rw [pickR,if_neg (by rw [hb];decide)] at et
   simp only [n38,r38,g5,g6,g12,g13,l0,l1,xj,w1,w2,w3,i0,hlimG,XB,eq_false hneg,hlim,hless,e3,SB,Nat.reduceLT,callee,aOp,ne_eq,Nat.reduceEqDiff,aBin,aUn,if_true,if_false,reduceCtorEq,frame0,place,notTuple,Nat.reduceAdd,Nat.reduceLeDiff,resVal,dite_true,dite_false,Int.reduceEq,Int.reduceLT,Int.reduceLE]
   exact hN (m+1) _ _ ⟨by omega,(hC.mut m3 (.inl (by simp))).app,(hPI.chg (Chg.refl.mut m3 (.inl hS))).app _,by rw [et];exact (Ext.refl.app).cells h3,hframe _ (fun j hj=>by
    simp only [upd]
    repeat rw [if_neg (by omega)]),by rfl⟩ (by omega)
theorem best_ok [OB] {lim R M:Nat} {pp pl pe:Option Addr} {P:List Int} {L:List Leg} {cp cl ce:Nat} {es:List Ev} {H:Heap} {Q:Value→Heap→Prop} (h:PI lim R M [] H pp pl cp cl P L) (hlim:lim≤H.length)
  (hs:Sl H encE 7 pe es) (h40:es.length≤40) (ht:∀i,i<es.length→0≤(gt es i).time∧(gt es i).time≤maxTime)
  (hQ:∀G q cq,Chg [M] H G→PI lim R M [] G pp pl cp cl P L→Own H.length G encI 1 q cq (bestN P L es)→Q (.slice q (bestN P L es).length cq) G) :
  CallR E false lim 38 [.pointer (some ⟨R,0,none⟩),.slice pe es.length ce] H Q:=by
 refine runs' (by decide) e38 rfl ?_
 rw [b38,c38]
 have w1:IntKind.i64.wrap ((es.length:Int)-1)=(es.length:Int)-1:=wrap_id (by omega) (by omega)
 have z3:=zeros3 es.length
 have hMl:=h.alive
 have hms:=eq_true (show 0≤(es.length:Int)∧(es.length:Int)*24≤2 ^ 45∧(es.length:Int)<2 ^ 62 by omega)
 simp only [n38,r38,w1,hms,z3,SB,Nat.reduceLT,callee,aOp,ne_eq,Nat.reduceEqDiff,aBin,aUn,if_true,if_false,reduceCtorEq,frame0,place,notTuple,Nat.reduceAdd,Nat.reduceLeDiff,resVal,dite_true,dite_false,Int.reduceEq,Int.reduceLT,Int.reduceLE]
 refine Ret_rounds (fun k=>es.length-k) (fun k fr G=>k≤es.length∧fr 0=.pointer (some ⟨R,0,none⟩)∧fr 1=.slice pe es.length ce∧fr 5=.slice (some ⟨H.length,0,none⟩) es.length es.length∧fr 6=.func (.func 59) #[] #[]∧fr 7=.int .i64 ((es.length:Int)-1-k)∧Chg [M] H G∧PI lim R M [H.length] G pp pl cp cl P L∧hget G H.length=.cells false ((tableN P L es k).flatMap enc3)) 0
  ⟨Nat.zero_le _,(by simp only [FB,Nat.reduceEqDiff]),(by simp only [FB,Nat.reduceEqDiff]),(by simp only [FB,Nat.reduceEqDiff]),(by simp only [FB,Nat.reduceEqDiff]),by rw [show ((es.length:Int)-1-((0:Nat):Int))=(es.length:Int)-1 by omega];rfl,Chg.refl.app,h.grow _ (Nat.le_refl _) (by simp),by rw [hget_new0];rfl⟩ ?_
 ·intro k fr G ⟨hk,g0,g1,g5,g6,g7,hC,hPI,hT⟩ hN
  rw [Ret_code l38_4.eq_1]
  refine Ret_pad ?_
  by_cases hlt:k<es.length
  case neg=>
   obtain rfl:k=es.length:=by omega
   have e7:(es.length:Int)-1-(es.length:Int)=-1:=by omega
   rw [e7] at g7
   have hlimG:lim≤G.length:=by have:=hC.len;omega
   simp only [n38,r38,g0,g1,g5,g6,g7,w1,hlimG,SB,Nat.reduceLT,callee,aOp,ne_eq,Nat.reduceEqDiff,aBin,aUn,if_true,if_false,reduceCtorEq,frame0,place,notTuple,Nat.reduceAdd,Nat.reduceLeDiff,resVal,dite_true,dite_false,Int.reduceEq,Int.reduceLT,Int.reduceLE]
   have hTl:=tableN_len (P:=P) (L:=L) (es:=es) es.length
   have hTb:=tableN_bnd (P:=P) (L:=L) (es:=es) es.length (Nat.le_refl _)
   have hHG:=hget_alive hT
   rw [tsl hTl] at g5
   refine top_ok (B:=G.length) (BT:=H.length) (n:=es.length) (T:=tableN P L es es.length) (R:=R) (M:=M) (S:=[G.length,H.length]) (P:=P) (L:=L) (pp:=pp) (pl:=pl) (cp:=cp) (cl:=cl) (pe:=pe) (ce:=ce) (ct:=es.length) hlimG h40 hTl (fun j hj=>hTb j hj) (hPI.grow _ (Nat.le_refl _) (by simp)) (by simp) (by omega) ((Ext.refl.app).cells hT) (by rw [hget_new0];rfl) (by simp only [g1,FB,Nat.reduceEqDiff]) (by simp only [g5,FB,Nat.reduceEqDiff]) (by simp only [g6,FB,Nat.reduceEqDiff]) (by simp only [FB,Nat.reduceEqDiff]) (by simp only [FB,Nat.reduceEqDiff]) fun fr' G1 hC1 hPI1 hB1 hfr=>?_
   have q5:fr' 5=.slice (some ⟨H.length,0,none⟩) (tableN P L es es.length).length es.length:=(hfr 5 (by decide)).trans (by simp only [g5,FB,Nat.reduceEqDiff])
   have q12:fr' 12=.pointer (some ⟨G.length,0,none⟩):=(hfr 12 (by decide)).trans (by simp only [FB,Nat.reduceEqDiff])
   have hl1:=hC1.len
   simp at hl1
   have hT1:=hC1.cells ((Ext.refl.app).cells hT) (by simp;omega)
   simp only [enc3] at hB1
   have XB:=fun X=>(Ext.refl.app (X:=X)).cells hB1
   have htn:=topN_next (n:=es.length) (T:=tableN P L es es.length) es.length (Nat.le_refl _)
   have hC':Chg [M] H G1:=(hC.app (X:=[.cells false [.int .i64 0,.int .i64 0,.int .i64 (-1)]])).trans' hC1 fun j hj hjl=>by simp at hj;omega
   refine Ret_pad ?_
   simp only [n38,r38,q5,q12,XB,SB,Nat.reduceLT,callee,aOp,ne_eq,Nat.reduceEqDiff,aBin,aUn,if_true,if_false,reduceCtorEq,frame0,place,notTuple,Nat.reduceAdd,Nat.reduceLeDiff,resVal,dite_true,dite_false,Int.reduceEq,Int.reduceLT,Int.reduceLE]
   refine Ret_rounds (fun s:Nat×Int×List Int×Option Addr×Nat=>s.1) (fun s fr G=>fr 5=.slice (some ⟨H.length,0,none⟩) (tableN P L es es.length).length es.length∧fr 16=.int .i64 s.2.1∧fr 15=.slice s.2.2.2.1 s.2.2.1.length s.2.2.2.2∧Chg [M] H G∧PI lim R M (opB s.2.2.2.1++[H.length]) G pp pl cp cl P L∧hget G H.length=.cells false ((tableN P L es es.length).flatMap enc3)∧Own (H.length+1) G encI 1 s.2.2.2.1 s.2.2.2.2 s.2.2.1∧
     s.2.2.1++chainN (tableN P L es es.length) s.1 s.2.1=bestN P L es∧s.2.1<es.length∧(s.2.1<0∨(es.length:Int)-s.2.1≤s.1)∧s.2.2.1.length+s.1=es.length) (es.length,(topN es.length (tableN P L es es.length) es.length).2.2,[],none,0)
    ⟨(by simp only [q5,FB,Nat.reduceEqDiff]),(by simp only [FB,Nat.reduceEqDiff]),by rfl,hC'.app,(hPI1.sub (fun q hq=>by simp [opB] at hq;simp [hq])).app _,(Ext.refl.app).cells hT1,.nil,rfl,htn.1,by simp only;omega,by simp⟩ ?_
   rintro ⟨f,x,l,pw,cw⟩ fr G ⟨g5,g16,g15,hC,hPI,hT,hO,hch,hx,hf,hll⟩ hN
   simp only at g5 g16 g15 hPI hO hch hx hf hll
   rw [Ret_code l38_1.eq_1]
   refine Ret_pad ?_
   by_cases hx0:0≤x
   case neg=>
    have e:chainN (tableN P L es es.length) f x=[]:=by
     cases f with
     | zero=>rfl
     | succ f=>rw [chainN,if_pos (by omega)]
    rw [e,List.append_nil] at hch
    subst hch
    simp only [n38,r38,g5,g16,g15,eq_false hx0,SB,Nat.reduceLT,callee,aOp,ne_eq,Nat.reduceEqDiff,aBin,aUn,if_true,if_false,reduceCtorEq,frame0,place,notTuple,Nat.reduceAdd,Nat.reduceLeDiff,resVal,dite_true,dite_false,Int.reduceEq,Int.reduceLT,Int.reduceLE]
    exact hQ _ _ _ hC.app ((hPI.sub (fun q hq=>by cases hq)).app _) ((hO.le (by omega)).app _)
   obtain ⟨j,rfl⟩:=Int.eq_ofNat_of_zero_le hx0
   obtain ⟨f,rfl⟩:∃g,f=g+1:=⟨f-1,by omega⟩
   rw [chainN,if_neg (by omega),Int.toNat_natCast] at hch
   have hjn:j<(tableN P L es es.length).length:=by omega
   have hnx:=tableN_next (P:=P) (L:=L) (es:=es) es.length (Nat.le_refl _) j (by omega) (by omega)
   have hHl:=hget_alive hT
   obtain ⟨G4,e4,O4,C4,hl4⟩:=Own.moreF hO (lim':=lim) (bytes:=8) (by omega) encI_len (by decide) [(j:Int)] (by simp) (by simp;unfold maxBytes;omega) (by simp;omega) [.cells false [.int .i64 (j:Int)]] (x:=.slice (some ⟨G.length,0,none⟩) 1 1) (str:=false)
    (first_slice (m:=[(j:Int)]) (Sl.row (ro:=false) encI_len (by rw [hget_new0];rfl))) rfl
   have hpw:∀j,j∈opB pw→H.length+1≤j∧j<G.length:=fun j hj=>by
    cases hpe:pw with
    | none=>rw [hpe] at hj;cases hj
    | some a=>rw [hpe] at hj;have:=hO.block hpe;simp [opB] at hj;omega
   generalize hp':(G++[Blk.cells false [.int .i64 (j:Int)]]).length=r at e4 O4 hl4
   have hr':G.length≤r:=by rw [←hp'];simp
   generalize loose 1=c' at e4 O4
   simp only [List.length_cons,List.length_nil,Nat.zero_add] at e4
   have hT4:=C4.cells hT fun hm=>by have:=hpw _ hm;omega
   have hs4:=Sl.row (R:=H.length) (ro:=false) enc3_len hT4
   have l2:=fun X=>(hs4.app X).loadCell enc3_len hjn (j:=2) (by decide)
   simp only [enc3,List.getElem?_cons_zero,List.getElem?_cons_succ] at l2
   have xj:=fun c (k:IntKind) (H1:Heap)=>hs4.idx (c:=c) (k:=k) (H1:=H1) hjn
   simp only [n38,r38,g5,g16,g15,e4,l2,xj,eq_true hx0,SB,Nat.reduceLT,callee,aOp,ne_eq,Nat.reduceEqDiff,aBin,aUn,if_true,if_false,reduceCtorEq,frame0,place,notTuple,Nat.reduceAdd,Nat.reduceLeDiff,resVal,dite_true,dite_false,Int.reduceEq,Int.reduceLT,Int.reduceLE]
   have k1:=(hPI.growC (b:=r) (G':=G4) (C4.mono fun q _ hq=>List.mem_append_left _ hq) hr' hl4).sub (S':=opB (some ⟨r,0,none⟩)++[H.length]) fun q hq=>by
    simp [opB] at hq
    rcases hq with e | e
    ·simp [e]
    ·simp [e]
   have hx2:(gt (tableN P L es es.length) j).2.2<es.length∧((gt (tableN P L es es.length) j).2.2<0∨(es.length:Int)-(gt (tableN P L es es.length) j).2.2≤(f:Int)):=by
    rcases hnx with e | e
    ·exact ⟨by omega,.inl (by omega)⟩
    ·exact ⟨e.2,.inr (by omega)⟩
   exact hN (f,(gt (tableN P L es es.length) j).2.2,l++[(j:Int)],some ⟨r,0,none⟩,c') _ _ ⟨(by simp only [g5,FB,Nat.reduceEqDiff]),by rfl,by show _=Value.slice _ (l++[(j:Int)]).length _;rw [List.length_append];rfl,
    (hC.trans' C4 fun q hq hql=>by have:=hpw q hq;omega).app,k1.app _,(Ext.refl.app).cells hT4,(O4.le (by omega)).app _,by rw [List.append_assoc];exact hch,hx2.1,hx2.2,by simp only [List.length_append,List.length_singleton];omega⟩ (by show f<f+1;omega)
  generalize hi:es.length-1-k=i
  have e7:(es.length:Int)-1-(k:Int)=(i:Int):=by omega
  rw [e7] at g7
  have hie:i<es.length:=by omega
  have w2:IntKind.i64.wrap ((es.length:Int)-1-i)=(es.length:Int)-1-i:=wrap_id (by omega) (by omega)
  have w3:IntKind.i64.wrap (30*((es.length:Int)-1-i))=30*((es.length:Int)-1-i):=wrap_id (by omega) (by omega)
  have w4:IntKind.i64.wrap ((i:Int)-1)=(es.length:Int)-1-((k+1:Nat):Int):=by rw [wrap_id (by omega) (by omega)];omega
  have hlimG:lim≤G.length:=by have:=hC.len;omega
  have i0:=eq_true (show (0:Int)≤(i:Int) by omega)
  have hTl:=tableN_len (P:=P) (L:=L) (es:=es) k
  have hHG:=hget_alive hT
  simp only [n38,r38,g0,g1,g5,g6,g7,w1,w2,w3,hlimG,i0,SB,Nat.reduceLT,callee,aOp,ne_eq,Nat.reduceEqDiff,aBin,aUn,if_true,if_false,reduceCtorEq,frame0,place,notTuple,Nat.reduceAdd,Nat.reduceLeDiff,resVal,dite_true,dite_false,Int.reduceEq,Int.reduceLT,Int.reduceLE]
  rw [tsl hTl] at g5
  refine inner_ok (B8:=G.length) (BT:=H.length) (S:=[G.length,H.length]) (i:=i) (T:=tableN P L es k) (P:=P) (L:=L) (R:=R) (M:=M) (pp:=pp) (pl:=pl) (cp:=cp) (cl:=cl) (es:=es) (pe:=pe) (ce:=ce) (ct:=es.length) hie hlimG (by simp) (by simp) h40 ht hTl (bnd_small h40 hTl (tableN_bnd k (by omega)))
   (hPI.grow _ (Nat.le_refl _) (by simp)) (((hs.sim (h.chgk hC))).app _) ((Ext.refl.app).cells hT) (by rw [hget_new0];rfl) (by simp only [g0,FB,Nat.reduceEqDiff]) (by simp only [g1,FB,Nat.reduceEqDiff]) (by simp only [g5,FB,Nat.reduceEqDiff]) (by simp only [g6,FB,Nat.reduceEqDiff]) (by simp only [g7,FB,Nat.reduceEqDiff]) (by simp only [FB,Nat.reduceEqDiff]) (by simp only [FB,Nat.reduceEqDiff]) fun fr' G1 hC1 hPI1 hB1 hfr=>?_
  have q0:fr' 0=.pointer (some ⟨R,0,none⟩):=(hfr 0 (by decide)).trans (by simp only [g0,FB,Nat.reduceEqDiff])
  have q1:fr' 1=.slice pe es.length ce:=(hfr 1 (by decide)).trans (by simp only [g1,FB,Nat.reduceEqDiff])
  have q5:fr' 5=.slice (some ⟨H.length,0,none⟩) (tableN P L es k).length es.length:=(hfr 5 (by decide)).trans (by simp only [g5,FB,Nat.reduceEqDiff])
  have q6:fr' 6=.func (.func 59) #[] #[]:=(hfr 6 (by decide)).trans (by simp only [g6,FB,Nat.reduceEqDiff])
  have q7:fr' 7=.int .i64 (i:Int):=(hfr 7 (by decide)).trans (by simp only [g7,FB,Nat.reduceEqDiff])
  have q8:fr' 8=.pointer (some ⟨G.length,0,none⟩):=(hfr 8 (by decide)).trans (by simp only [FB,Nat.reduceEqDiff])
  have hkm:es.length-1-i=k:=by omega
  rw [hkm] at hB1
  have hMH:H.length∉[M,G.length]:=by simp;omega
  have hT1:=hC1.cells ((Ext.refl.app).cells hT) hMH
  obtain ⟨G2,e2,h2,m2⟩:=store_mut (lim:=lim) (p:=some ⟨H.length,0,none⟩) enc3_len rfl hT1 hlim (i:=i) (by rw [hTl];exact hie) (rowUp P L es (tableN P L es k) i k)
  have xT:=fun c (kk:IntKind) (H1:Heap)=>(Sl.row (R:=H.length) (ro:=false) enc3_len hT1).idx (c:=c) (k:=kk) (H1:=H1) (i:=i) (by rw [hTl];exact hie)
  have XB:=fun X=>(Ext.refl.app (X:=X)).cells hB1
  have et:tableN P L es (k+1)=(tableN P L es k).set i (rowUp P L es (tableN P L es k) i k):=by rw [tableN,hi]
  refine Ret_pad ?_
  simp only [n38,r38,q0,q1,q5,q6,q7,q8,XB,enc3_len,take_all,e2,xT,w4,SB,Nat.reduceLT,callee,aOp,ne_eq,Nat.reduceEqDiff,aBin,aUn,if_true,if_false,reduceCtorEq,frame0,place,notTuple,Nat.reduceAdd,Nat.reduceLeDiff,resVal,dite_true,dite_false,Int.reduceEq,Int.reduceLT,Int.reduceLE]
  have hl1:=hC1.len
  simp at hl1
  exact hN (k+1) _ _ ⟨by omega,(by simp only [q0,FB,Nat.reduceEqDiff]),(by simp only [q1,FB,Nat.reduceEqDiff]),(by simp only [q5,hTl,FB,Nat.reduceEqDiff]),(by simp only [q6,FB,Nat.reduceEqDiff]),(by simp only [FB,Nat.reduceEqDiff]),(((hC.app (X:=[.cells false (enc3 (rowUp P L es (tableN P L es k) i 0))])).trans' hC1 fun j hj hjl=>by simp at hj;simp;omega).mut m2 (.inr (by omega))).app,((hPI1.chg (Chg.refl.mut m2 (.inl (by simp)))).sub (fun q hq=>by simp at hq;simp [hq])).app _,by rw [et];exact (Ext.refl.app).cells h2⟩ (by omega)
theorem Best_ok [OB] {lim:Nat} {pp pl pe:Option Addr} {P:List Int} {L:List Leg} {cp cl ce:Nat} {es:List Ev} {H:Heap} {Q:Value→Heap→Prop} (hn:NetIn H pp pl P L) (hlim:lim≤H.length)
  (hs:Sl H encE 7 pe es) (hsl:es.length<2 ^ 62)
  (hbad:∀G,errI P L es≠0→Chg [] H G→Q (.tuple #[.agg #[.slice none 0 0,.slice none 0 0,.int .i64 0],.int .i64 (errI P L es)]) G)
  (hok:∀G q cq r cr,errI P L es=0→Chg [] H G→Mine H.length G encI 1 q (bestN P L es)→Mine H.length G enc3 3 r (stepsN P L es (bestN P L es))→Q (.tuple #[.agg #[.slice q (bestN P L es).length cq,.slice r (stepsN P L es (bestN P L es)).length cr,.int .i64 (costN P L es (bestN P L es))],.int .i64 0]) G) :
  CallR E false lim 10 [.agg (netV pp P.length cp pl L.length cl).toArray,.slice pe es.length ce] H Q:=by
 refine runs' (by decide) e10 rfl ?_
 rw [b10,c10]
 have hck':=fun X (mp:Bool) (lim:Nat) (Q:Value→Heap→Prop)=>check_ok (mp:=mp) (lim:=lim) (cp:=cp) (cl:=cl) (ce:=ce) (Q:=Q) (hn.app X) (hs.app X) (by omega)
 by_cases h0:errI P L es=0
 case neg=>
  simp only [n10,r10,netV_len,netV_0,netV_1,take_all,hck',eq_false h0,hlim,SB,Nat.reduceLT,callee,aOp,ne_eq,Nat.reduceEqDiff,aBin,aUn,if_true,if_false,reduceCtorEq,frame0,place,notTuple,Nat.reduceAdd,Nat.reduceLeDiff,resVal,dite_true,dite_false,Int.reduceEq,Int.reduceLT,Int.reduceLE]
  exact hbad _ h0 Chg.refl.app
 obtain ⟨hv0,h40,hev⟩:=errI_0 h0
 have ht:=fun i (hi:i<es.length)=>And.intro (hev i hi).2.1 (hev i hi).2.2.1
 simp only [n10,r10,netV_len,netV_0,netV_1,take_all,hck',eq_true h0,hlim,SB,Nat.reduceLT,callee,aOp,ne_eq,Nat.reduceEqDiff,aBin,aUn,if_true,if_false,reduceCtorEq,frame0,place,notTuple,Nat.reduceAdd,Nat.reduceLeDiff,resVal,dite_true,dite_false,Int.reduceEq,Int.reduceLT,Int.reduceLE]
 refine newPricer_ok (lim:=lim) (hn.app _) (by simp;omega) fun G1 R M hE1 hR hM hPI=>?_
 have hl1:=hE1.len
 simp at hl1 hR hM
 have hE1H:Ext H G1:=(Ext.refl.app).trans hE1
 have r4:hget G1 (H.length+1)=.cells false [.slice none 0 0,.slice none 0 0,.int .i64 0]:=hE1.cells (by rw [hget_new];rfl)
 refine Ret_pad ?_
 simp only [n10,r10,SB,Nat.reduceLT,callee,aOp,ne_eq,Nat.reduceEqDiff,aBin,aUn,if_true,if_false,reduceCtorEq,frame0,place,notTuple,Nat.reduceAdd,Nat.reduceLeDiff,resVal,dite_true,dite_false,Int.reduceEq,Int.reduceLT,Int.reduceLE]
 refine best_ok (hPI.app _) (by simp;omega) ((hE1H.sl hs).app _) h40 ht fun G2 q cq hC2 hPI2 hO2=>?_
 have hl2:=hC2.len
 simp at hl2
 have hC2':Chg [M] H G2:=((Ext.chg (A:=[M]) hE1H).trans hC2.pre)
 have hC2'':=hC2.pre
 refine Ret_pad ?_
 simp only [n10,r10,SB,Nat.reduceLT,callee,aOp,ne_eq,Nat.reduceEqDiff,aBin,aUn,if_true,if_false,reduceCtorEq,frame0,place,notTuple,Nat.reduceAdd,Nat.reduceLeDiff,resVal,dite_true,dite_false,Int.reduceEq,Int.reduceLT,Int.reduceLE]
 refine path_ok (hPI2.app _) (by simp;omega) (((hE1H.sl hs).sim (hPI.chgk hC2'')).app _) h40 ht ((hO2.sl encI_len).app _) (by have:=chainN_len (T:=tableN P L es es.length) es.length (topN es.length (tableN P L es es.length) es.length).2.2;unfold bestN;omega) (fun hq=>by
  rcases hO2 with ⟨_,_,k⟩ | ⟨R,k,_⟩
  ·exact k
  ·rw [hq] at k;cases k) bestN_mem fun G3 q' cq' r cr hC3 hPI3 hq hr=>?_
 have r4':=hC3.cells ((Ext.refl.app (X:=[])).cells (hC2''.cells r4 (by simp;omega))) (by simp;omega)
 obtain ⟨G4,e4,h4,m4⟩:=mut_set (hget_alive r4') (.cells false [.slice q' (bestN P L es).length cq',.slice r (stepsN P L es (bestN P L es)).length cr,.int .i64 (costN P L es (bestN P L es))])
 have x6:=fun X=>(Ext.refl.app (X:=X)).cells r4'
 have x7:=fun X=>(Ext.refl.app (X:=X)).cells h4
 have hlim1:lim≤H.length+1:=by omega
 refine Ret_pad ?_
 simp only [n10,r10,x6,e4,x7,hlim1,SB,Nat.reduceLT,callee,aOp,ne_eq,Nat.reduceEqDiff,aBin,aUn,if_true,if_false,reduceCtorEq,frame0,place,notTuple,Nat.reduceAdd,Nat.reduceLeDiff,resVal,dite_true,dite_false,Int.reduceEq,Int.reduceLT,Int.reduceLE]
 exact hok _ q' cq' r cr h0 ((((Ext.chg (A:=[]) hE1H).trans' hC2'' fun j hj hjl=>by simp at hj;omega).trans' hC3.pre fun j hj hjl=>by simp at hj;omega).mut m4 (.inr (by omega))).app (((hq.mut m4 (by simp;omega)).le (by simp;omega)).app _) (((hr.mut m4 (by simp;omega)).le (by simp;omega)).app _)
def lq1:Leg:=⟨1,1,2,600,60,0,1000,127⟩
def P2:List Int:=[1,2]
def L2:List Leg:=[lq1]
def seenE (p t:Int):Ev:=⟨7,p,1,2,t,t,t⟩
theorem val2:validN P2 L2=0:=by decide
theorem net2 {L:List Leg} (h:validN P2 L=0):NetOk 2 P2 L (posN P2):=by
 have:=valid_net h
 exact ⟨this.fine,this.frm,this.dst,this.inj,fun a ha=>List.idxOf_lt_length_of_mem ha⟩
theorem p21:posN P2 1=0:=rfl
theorem p22:posN P2 2=1:=rfl
theorem qn1:nextD lq1 500=some 600:=nx 0 rfl (by decide) (by decide) (by decide) (by decide) (by decide)
theorem qn2:nextD lq1 200=some 600:=nx 0 rfl (by decide) (by decide) (by decide) (by decide) (by decide)
theorem v_a:stepA (posN P2) (500+86400) L2 [500,-1]=[500,660]:=by simp [stepA,L2,useA,show lq1.frm=1 from rfl,show lq1.dst=2 from rfl,show lq1.mins=60 from rfl,p21,p22,qn1]
theorem v_b:stepA (posN P2) (500+86400) L2 [500,660]=[500,660]:=by simp [stepA,L2,useA,show lq1.frm=1 from rfl,show lq1.dst=2 from rfl,show lq1.mins=60 from rfl,p21,p22,qn1]
theorem v_c:stepA (posN P2) (200+86400) L2 [200,-1]=[200,660]:=by simp [stepA,L2,useA,show lq1.frm=1 from rfl,show lq1.dst=2 from rfl,show lq1.mins=60 from rfl,p21,p22,qn2]
theorem v_d:stepA (posN P2) (200+86400) L2 [200,660]=[200,660]:=by simp [stepA,L2,useA,show lq1.frm=1 from rfl,show lq1.dst=2 from rfl,show lq1.mins=60 from rfl,p21,p22,qn2]
theorem v_e:stepA (posN P2) (500+86400) L2 [-1,500]=[-1,500]:=by simp [stepA,L2,useA,show lq1.frm=1 from rfl,show lq1.dst=2 from rfl,show lq1.mins=60 from rfl,p21,p22]
theorem arr2 {p r q:Int} {A:List Int} {k:Nat} (hp:p∈P2) (hq:q∈P2) (hr:0≤r) (hk:arrK 2 (posN P2) (r+86400) L2 p r k=A) (hs:stepA (posN P2) (r+86400) L2 A=A):arrV P2 L2 p r q=A.getD (posN P2 q) (-1):=by
 have h1:=arrK_all (net2 val2) hp hr (by omega:r≤r+86400) (k:=k) (by rw [arrK,hk,hs]) q hq
 rw [hk] at h1
 have h2:IsArr L2 p r q (arrV P2 L2 p r q):=arrV_is (valid_net val2) hp hq hr
 exact h2.uniq h1
theorem u_a:arrV P2 L2 1 500 2=660:=arr2 (k:=1) (A:=[500,660]) (by decide) (by decide) (by decide) (by rw [arrK,arrK];exact v_a) v_b
theorem u_b:arrV P2 L2 1 200 2=660:=arr2 (k:=1) (A:=[200,660]) (by decide) (by decide) (by decide) (by rw [arrK,arrK];exact v_c) v_d
theorem u_c:arrV P2 L2 2 500 1=-1:=arr2 (k:=0) (A:=[-1,500]) (by decide) (by decide) (by decide) (by rw [arrK];rfl) v_e
theorem pr_eq {p t q s v:Int} (hv:arrV P2 L2 p t q=v) (h2:¬p=q) (hq:q∈P2) (he:errA P2 L2 p p t=0):priceN P2 L2 (seenE p t) (seenE q s)=if v<0 then 80 else min (max (v-s) 0) 60:=by
 unfold priceN
 show (if (2:Int)=4 then (80:Int) else if p=q then 0 else if q∉P2 then 80 else if errA P2 L2 p p t≠0 then 80 else if arrV P2 L2 p t q<0 then 80 else min (max (arrV P2 L2 p t q-s) 0) 60)=_
 rw [if_neg (by decide),if_neg h2,if_neg (by simpa using hq),if_neg (by simpa using he),hv]
theorem x_a:priceN P2 L2 (seenE 1 500) (seenE 2 660)=0:=(pr_eq u_a (by decide) (by decide) (by decide)).trans (by decide)
theorem x_b:priceN P2 L2 (seenE 1 500) (seenE 2 650)=10:=(pr_eq u_a (by decide) (by decide) (by decide)).trans (by decide)
theorem x_c:priceN P2 L2 (seenE 1 200) (seenE 2 300)=60:=(pr_eq u_b (by decide) (by decide) (by decide)).trans (by decide)
theorem x_d:priceN P2 L2 (seenE 2 500) (seenE 1 5000)=80:=(pr_eq u_c (by decide) (by decide) (by decide)).trans (by decide)
theorem x_e:priceN P2 L2 (seenE 1 500) (seenE 2 510)=60:=(pr_eq u_a (by decide) (by decide) (by decide)).trans (by decide)
theorem x_f:priceN P2 L2 (seenE 2 510) (seenE 2 660)=0:=rfl
theorem i_a:errI P2 L2 [seenE 1 500,seenE 2 660]=0:=by decide
theorem i_b:errI P2 L2 [seenE 1 500,seenE 2 650]=0:=by decide
theorem i_c:errI P2 L2 [seenE 1 200,seenE 2 300]=0:=by decide
theorem i_d:errI P2 L2 [seenE 2 500,seenE 1 5000]=0:=by decide
def E3:List Ev:=[seenE 1 500,seenE 2 510,seenE 2 660]
theorem i_e:errI P2 L2 E3=0:=by decide
theorem i_f:errC P2 L2 E3 [0,1,2]=0:=by decide
theorem ge0:gt E3 0=seenE 1 500:=rfl
theorem ge1:gt E3 1=seenE 2 510:=rfl
theorem ge2:gt E3 2=seenE 2 660:=rfl
theorem tb1:tableN P2 L2 E3 1=[(0,0,0),(0,0,0),(0,1,-1)]:=rfl
theorem tb2:tableN P2 L2 E3 2=[(0,0,0),(0,2,2),(0,1,-1)]:=by
 rw [tableN,tb1]
 have:candN P2 L2 E3 [(0,0,0),(0,0,0),(0,1,-1)] 1 2=(0,2,2):=by unfold candN;rw [ge1,ge2,x_f];rfl
 show List.set _ 1 (pickR (30,1,-1) (candN P2 L2 E3 [(0,0,0),(0,0,0),(0,1,-1)] 1 2))=_
 rw [this];rfl
theorem tb3:tableN P2 L2 E3 3=[(30,2,2),(0,2,2),(0,1,-1)]:=by
 rw [tableN,tb2]
 have a2:candN P2 L2 E3 [(0,0,0),(0,2,2),(0,1,-1)] 0 2=(30,2,2):=by unfold candN;rw [ge0,ge2,x_a];rfl
 have a1:candN P2 L2 E3 [(0,0,0),(0,2,2),(0,1,-1)] 0 1=(60,3,1):=by unfold candN;rw [ge0,ge1,x_e];rfl
 show List.set _ 0 (pickR (pickR (60,1,-1) (candN P2 L2 E3 [(0,0,0),(0,2,2),(0,1,-1)] 0 2)) (candN P2 L2 E3 [(0,0,0),(0,2,2),(0,1,-1)] 0 1))=_
 rw [a2,a1];rfl
theorem best3:bestN P2 L2 E3=[0,2]:=by
 show chainN (tableN P2 L2 E3 3) 3 (topN 3 (tableN P2 L2 E3 3) 3).2.2=_
 rw [tb3];rfl
theorem steps3:stepsN P2 L2 E3 [0,2]=[(0,2,0)]:=by
 show [(0,2,priceN P2 L2 (seenE 1 500) (seenE 2 660))]=_
 rw [x_a]
theorem cost3:costN P2 L2 E3 [0,2]=30:=by rw [costN,steps3];rfl
theorem steps4:stepsN P2 L2 E3 [0,1,2]=[(0,1,60),(1,2,0)]:=by
 show [(0,1,priceN P2 L2 (seenE 1 500) (seenE 2 510)),(1,2,0)]=_
 rw [x_e]
theorem cost4:costN P2 L2 E3 [0,1,2]=60:=by rw [costN,steps4];rfl
theorem Own1.le {α:Type} {lim e cap:Nat} {G:Heap} {enc:α→List Value} {p:Option Addr} {l:List α} (h:Own1 lim G enc e p cap l) {lim':Nat} (hl:lim'≤lim):Own1 lim' G enc e p cap l:=by
 rcases h with h | ⟨R,h0,h1,h2,h3,h4⟩
 ·exact .inl (h.le hl)
 ·exact .inr ⟨R,h0,h1,h2,h3,by omega⟩
theorem same_step {α:Type} [Inhabited α] {a b:List α} {i:Nat} (hl:a.length=b.length) (hi:i<a.length) (hall:∀j,j<i→gt a j=gt b j) (he:gt a i=gt b i):∀j,j<i+1→gt a j=gt b j:=fun j hj=>by
 rcases Nat.lt_or_ge j i with h | h
 ·exact hall j h
 ·obtain rfl:j=i:=by omega
  exact he
theorem same_all {α:Type} [Inhabited α] {a b:List α} (hl:a.length=b.length) (hall:∀j,j<a.length→gt a j=gt b j):a=b:=by
 apply List.ext_getElem hl
 intro i h1 h2
 have:=hall i h1
 rwa [gt_lt h1,gt_lt h2] at this
theorem sameints_ok [OB] {mp:Bool} {lim ca cb:Nat} {p q:Option Addr} {a b:List Int} {H:Heap} {Q:Value→Heap→Prop} (ha:Sl H encI 1 p a) (hb:Sl H encI 1 q b) (hn:a.length<2 ^ 62) :
  CallR E mp lim 24 [.slice p a.length ca,.slice q b.length cb] H Q=Q (.bool (decide (a=b))) H:=by
 refine pc (by decide) e24 rfl rfl ?_
 rw [b24,c24]
 by_cases hl:a.length=b.length
 case neg=>
  have h1:¬(a.length:Int)=(b.length:Int):=by omega
  simp only [n24,r24,eq_false h1,SB,Nat.reduceLT,callee,aOp,ne_eq,Nat.reduceEqDiff,aBin,aUn,if_true,if_false,reduceCtorEq,frame0,place,notTuple,Nat.reduceAdd,Nat.reduceLeDiff,resVal,dite_true,dite_false,Int.reduceEq,Int.reduceLT,Int.reduceLE]
  congr 1
  rw [eq_comm,decide_eq_false_iff_not]
  rintro rfl
  exact hl rfl
 have h1:(a.length:Int)=(b.length:Int):=by omega
 simp only [n24,r24,eq_true h1,SB,Nat.reduceLT,callee,aOp,ne_eq,Nat.reduceEqDiff,aBin,aUn,if_true,if_false,reduceCtorEq,frame0,place,notTuple,Nat.reduceAdd,Nat.reduceLeDiff,resVal,dite_true,dite_false,Int.reduceEq,Int.reduceLT,Int.reduceLE]
 refine Ret_rounds (fun j=>a.length-j) (fun j fr G=>j≤a.length∧fr 0=.slice p a.length ca∧fr 1=.slice q b.length cb∧fr 5=.int .i64 (j:Int)∧Ext H G∧∀i,i<j→gt a i=gt b i) 0 ⟨Nat.zero_le _,(by simp only [FB,Nat.reduceEqDiff]),(by simp only [FB,Nat.reduceEqDiff]),by rfl,Ext.refl.app,fun i hi=>by omega⟩ ?_
 intro j fr G ⟨hj,f0,f1,f5,hE,hall⟩ hN
 rw [Ret_code l24_1.eq_1]
 refine Ret_pad ?_
 by_cases hlt:j<a.length
 case neg=>
  obtain rfl:j=a.length:=by omega
  simp only [n24,r24,f0,f1,f5,hlt,SB,Nat.reduceLT,callee,aOp,ne_eq,Nat.reduceEqDiff,aBin,aUn,if_true,if_false,reduceCtorEq,frame0,place,notTuple,Nat.reduceAdd,Nat.reduceLeDiff,resVal,dite_true,dite_false,Int.reduceEq,Int.reduceLT,Int.reduceLE]
  rw [decide_eq_true (same_all hl hall)]
 have l1:=fun X=>((hE.sl ha).app X).loadCell0 encI_len hlt (by decide)
 have l2:=fun X=>((hE.sl hb).app X).loadCell0 encI_len (by omega:j<b.length) (by decide)
 simp only [encI,List.getElem?_cons_zero] at l1 l2
 have x1:=fun c (kk:IntKind) (H1:Heap)=>(hE.sl ha).idx (c:=c) (k:=kk) (H1:=H1) hlt
 have x2:=fun c (kk:IntKind) (H1:Heap)=>(hE.sl hb).idx (c:=c) (k:=kk) (H1:=H1) (by omega:j<b.length)
 have hw1:IntKind.i64.wrap ((j:Int)+1)=((j+1:Nat):Int):=wrap_nat (by omega)
 by_cases he:gt a j=gt b j
 ·simp only [n24,r24,f0,f1,f5,hlt,l1,l2,x1,x2,hw1,eq_true he,SB,Nat.reduceLT,callee,aOp,ne_eq,Nat.reduceEqDiff,aBin,aUn,if_true,if_false,reduceCtorEq,frame0,place,notTuple,Nat.reduceAdd,Nat.reduceLeDiff,resVal,dite_true,dite_false,Int.reduceEq,Int.reduceLT,Int.reduceLE]
  exact hN (j+1) _ _ ⟨by omega,(by simp only [f0,FB,Nat.reduceEqDiff]),(by simp only [f1,FB,Nat.reduceEqDiff]),(by simp only [FB,Nat.reduceEqDiff]),hE.app,same_step hl hlt hall he⟩ (by omega)
 ·simp only [n24,r24,f0,f1,f5,hlt,l1,l2,x1,x2,hw1,eq_false he,SB,Nat.reduceLT,callee,aOp,ne_eq,Nat.reduceEqDiff,aBin,aUn,if_true,if_false,reduceCtorEq,frame0,place,notTuple,Nat.reduceAdd,Nat.reduceLeDiff,resVal,dite_true,dite_false,Int.reduceEq,Int.reduceLT,Int.reduceLE]
  rw [decide_eq_false]
  rintro rfl
  exact he rfl
theorem seen_ok [OB] {mp:Bool} {lim:Nat} {p t:Int} {H:Heap} {Q:Value→Heap→Prop}:CallR E mp lim 32 [.int .i64 p,.int .i64 t] H Q=Q (.agg #[.int .i64 7,.int .i64 p,.int .i64 1,.int .u8 2,.int .i64 t,.int .i64 t,.int .i64 t]) H:=by
 refine pc (by decide) e32 rfl rfl ?_
 rw [b32,c32]
 simp only [n32,r32,setAll,fillV,SB,Nat.reduceLT,callee,aOp,ne_eq,Nat.reduceEqDiff,aBin,aUn,if_true,if_false,reduceCtorEq,frame0,place,notTuple,Nat.reduceAdd,Nat.reduceLeDiff,resVal,dite_true,dite_false,Int.reduceEq,Int.reduceLT,Int.reduceLE]
theorem two_ok [OB] {lim:Nat} {H:Heap} {Q:Value→Heap→Prop} (hlim:lim≤H.length) (hQ:∀H' a b,Ext H H'→NetIn H' a b P2 L2→Q (.agg (netV a 2 2 b 1 1).toArray) H'):CallR E false lim 31 [] H Q:=by
 refine runs' (by decide) e31 rfl ?_
 rw [b31,c31]
 simp only [n31,r31,setAll_full,hlim,SB,Nat.reduceLT,callee,aOp,ne_eq,Nat.reduceEqDiff,aBin,aUn,if_true,if_false,reduceCtorEq,frame0,place,notTuple,Nat.reduceAdd,Nat.reduceLeDiff,resVal,dite_true,dite_false,Int.reduceEq,Int.reduceLT,Int.reduceLE]
 refine hQ _ (some ⟨H.length+1,0,none⟩) (some ⟨H.length+2,0,none⟩) Ext.refl.app ⟨Sl.row (ro:=false) encI_len (by rw [hget_new];rfl),Sl.row (ro:=false) encL_len (by rw [hget_new];rfl),by decide,by decide, ?_⟩
 intro l hl
 simp only [L2,List.mem_cons,List.not_mem_nil,or_false] at hl
 rcases hl with rfl<;>(unfold By;decide)
theorem awake38_go [OB] {mp:Bool} {lim:Nat} {H:Heap} {Q:Value→Heap→Prop} (hoff:OB.on 7=false):CallR E mp lim 7 [] H Q=Q (.bool true) H:=by
 refine CallR_pure (E:=E) (by simp [E,orc,hoff]) (show E.tr 7=some a7 from e7) rfl rfl (Ret_pad ?_)
 rw [b7,c7]
 simp only [n7,r7,SB,Nat.reduceLT,callee,aOp,ne_eq,Nat.reduceEqDiff,aBin,aUn,if_true,if_false,reduceCtorEq,frame0,place,notTuple,Nat.reduceAdd,Nat.reduceLeDiff,resVal,dite_true,dite_false,Int.reduceEq,Int.reduceLT,Int.reduceLE]
 rw [List.append_nil]
 refine two_ok (Nat.le_refl _) fun H0 pa pb hE0 hn0=>?_
 refine Ret_pad ?_
 have hl0:=hE0.len
 have pr:∀(p t q s v:Int),errI P2 L2 [seenE p t,seenE q s]=0→priceN P2 L2 (seenE p t) (seenE q s)=v→∀(X:Heap) (mp:Bool) (lim:Nat) (Q:Value→Heap→Prop),CallR E mp lim 14 [.agg (netV pa 2 2 pb 1 1).toArray,.agg #[.int .i64 7,.int .i64 p,.int .i64 1,.int .u8 2,.int .i64 t,.int .i64 t,.int .i64 t],.agg #[.int .i64 7,.int .i64 q,.int .i64 1,.int .u8 2,.int .i64 s,.int .i64 s,.int .i64 s]] (H0++X) Q=Q (.tuple #[.int .i64 v,.int .i64 0]) (H0++X):=fun p t q s v h1 h2 X mp lim Q=>by
  have:=Price_ok (mp:=mp) (lim:=lim) (cp:=2) (cl:=1) (a:=seenE p t) (b:=seenE q s) (Q:=Q) (hn0.app X)
  rw [h1,if_pos rfl,h2] at this
  exact this
 have pr1:=pr _ _ _ _ _ i_a x_a
 have pr2:=pr _ _ _ _ _ i_b x_b
 have pr3:=pr _ _ _ _ _ i_c x_c
 have pr4:=pr _ _ _ _ _ i_d x_d
 simp only [n7,r7,netV_len,netV_0,netV_1,take_all,setAll_full,hl0,seen_ok,pr1,pr2,pr3,pr4,setAll,fillV,SB,Nat.reduceLT,callee,aOp,ne_eq,Nat.reduceEqDiff,aBin,aUn,if_true,if_false,reduceCtorEq,frame0,place,notTuple,Nat.reduceAdd,Nat.reduceLeDiff,resVal,dite_true,dite_false,Int.reduceEq,Int.reduceLT,Int.reduceLE]
 generalize hG:H0++[Blk.cells false (netV pa 2 2 pb 1 1),_]=G
 have hEG:Ext H0 G:=⟨_,hG.symm⟩
 have n0:hget G H0.length=.cells false (netV pa 2 2 pb 1 1):=by rw [←hG,hget_new0];rfl
 have s0:Sl G encE 7 (some ⟨H0.length+1,0,none⟩) E3:=Sl.row (ro:=false) encE_len (by rw [←hG,hget_new];rfl)
 have hlG:=hEG.len
 clear hG
 refine Best_ok (P:=P2) (L:=L2) (cp:=2) (cl:=1) (es:=E3) (ce:=3) (hn0.ext hEG) (by omega) s0 (by decide) (fun _ h=>absurd i_e h) fun G1 q cq r cr _ hC1 hq hr=>?_
 rw [best3] at hq hr⊢
 rw [steps3] at hr⊢
 rw [cost3]
 have n1:=hC1.cells n0 (by simp)
 have s1:=hC1.ext.sl s0
 have hE1:Ext H0 G1:=hEG.trans hC1.ext
 have hlG1:=hC1.len
 have n1X:=fun X=>(Ext.refl.app (X:=X)).cells n1
 refine Ret_pad ?_
 simp only [n7,r7,n1X,netV_len,netV_0,netV_1,take_all,setAll_full,setAll,fillV,show H.length≤G1.length by omega,SB,Nat.reduceLT,callee,aOp,ne_eq,Nat.reduceEqDiff,aBin,aUn,if_true,if_false,reduceCtorEq,frame0,place,notTuple,Nat.reduceAdd,Nat.reduceLeDiff,resVal,dite_true,dite_false,Int.reduceEq,Int.reduceLT,Int.reduceLE]
 refine Cost_ok (P:=P2) (L:=L2) (cp:=2) (cl:=1) (es:=E3) (ce:=3) (ks:=[0,1,2]) (ck:=3) ((hn0.ext hE1).app _) (by simp;omega) (s1.app _) (by decide) (Sl.row (ro:=false) encI_len (by rw [hget_new];rfl)) (by decide) (fun h=>by cases h) (fun _ h=>absurd i_f h) fun G2 q' cq' r' cr' _ hC2 hq' hr'=>?_
 rw [steps4,cost4]
 have hC2':=hC2.pre
 have o1:=hC2.cells hget_new0 (by simp)
 have q2:=hC2'.ext.sl hq.1
 have r2:=hC2'.ext.sl hr.1
 have hlG2:=hC2'.len
 have o1X:=fun X=>(Ext.refl.app (X:=X)).cells o1
 have ld:∀X,AM.loadCells (G2++X) (elt r 3 0) 3=some [.int .i64 0,.int .i64 2,.int .i64 0]:=fun X=>(r2.app X).loadCells enc3_len (i:=0) (by decide)
 have ix:∀c (kk:IntKind) (H1:Heap),idxK 3 (.slice r 1 c) (.int kk 0) H1=some (.pointer (some (elt r 3 0)),H1):=fun c kk H1=>r2.idx (c:=c) (k:=kk) (H1:=H1) (i:=0) (by decide)
 have eq3:aEq (.agg [.int .i64,.int .i64,.int .i64]) (.agg #[.int .i64 0,.int .i64 2,.int .i64 0]) (.agg #[.int .i64 0,.int .i64 2,.int .i64 0])=some true:=rfl
 have f1:∀(a:Blk) (X:Heap) (mp:Bool) (lim:Nat) (Q:Value→Heap→Prop),CallR E mp lim 24 [.slice q 2 cq,.slice (some ⟨G2.length+1,0,none⟩) 2 2] (G2++a::.cells false [.int .i64 0,.int .i64 2]::X) Q=Q (.bool true) (G2++a::.cells false [.int .i64 0,.int .i64 2]::X):=fun a X mp lim Q=>
  sameints_ok (a:=[0,2]) (b:=[0,2]) (q2.app _) (Sl.row (ro:=false) encI_len (by rw [hget_new];rfl)) (by decide)
 refine Ret_pad ?_
 have w0:IntKind.i64.wrap (0+0)=0:=by decide
 simp only [n7,r7,o1X,ld,ix,f1,take_all,setAll_full,setAll,fillV,show H.length≤G2.length by omega,w0,eq_self,decide_true,eq3,SB,Nat.reduceLT,callee,aOp,ne_eq,Nat.reduceEqDiff,aBin,aUn,if_true,if_false,reduceCtorEq,frame0,place,notTuple,Nat.reduceAdd,Nat.reduceLeDiff,resVal,dite_true,dite_false,Int.reduceEq,Int.reduceLT,Int.reduceLE]
structure RL where
 (a b c d e f:Int)
 deriving DecidableEq,Inhabited
def encR (x:RL):List Value:=[.int .u8 x.a,.int .u8 x.b,.int .u8 x.c,.int .u8 x.d,.int .u8 x.e,.int .u8 x.f]
theorem encR_len (x:RL):(encR x).length=6:=id rfl
def ByR (x:RL):Prop:=(0≤x.a∧x.a≤255)∧(0≤x.b∧x.b≤255)∧(0≤x.c∧x.c≤255)∧(0≤x.d∧x.d≤255)∧(0≤x.e∧x.e≤255)∧(0≤x.f∧x.f≤255)
def P5:List Int:=[3,1,5,2,4]
def legR (i:Nat) (x:RL):Leg:=⟨(i:Int)+1,1+x.a.tmod 5,1+x.b.tmod 5,x.c*5,1+x.d,x.e.tmod 60,1000,x.f.tmod 127+1⟩
def netL (rs:List RL):Nat→List Leg
 | 0=>[]
 | n+1=>if (legR n (gt rs n)).frm≠(legR n (gt rs n)).dst then netL rs n++[legR n (gt rs n)] else netL rs n
theorem netL_len (rs:List RL):∀n,(netL rs n).length≤n
 | 0=>Nat.le_refl _
 | n+1=>by
   have:=netL_len rs n
   rw [netL]
   split
   ·simp;omega
   ·omega
theorem netL_mem {rs:List RL} {l:Leg}:∀{n},l∈netL rs n→∃i,i<n∧l=legR i (gt rs i)∧l.frm≠l.dst
 | 0,h=>by cases h
 | n+1,h=>by
   rw [netL] at h
   split at h
   ·rename_i hne
    rcases List.mem_append.1 h with h | h
    ·obtain ⟨i,h1,h2⟩:=netL_mem h;exact ⟨i,by omega,h2⟩
    ·rw [List.mem_singleton] at h;subst h;exact ⟨n,by omega,rfl,hne⟩
   ·obtain ⟨i,h1,h2⟩:=netL_mem h;exact ⟨i,by omega,h2⟩
theorem netL_by {rs:List RL} {n:Nat} (hb:∀x∈rs,ByR x) (hn:min rs.length 10=n):∀l∈netL rs n,By l:=fun l hl=>by
 obtain ⟨i,hi,rfl,_⟩:=netL_mem hl
 have h1:=hb _ (gt_mem (l:=rs) (i:=i) (by omega))
 have h2:=h1.2.2.2.2.2
 unfold By legR
 simp only
 have h3:=Int.tmod_lt_of_pos (gt rs i).f (show (0:Int)<127 by decide)
 have h4:=Int.tmod_nonneg (127:Int) h2.1
 omega
theorem gt_take {α:Type} [Inhabited α] {l:List α} {n i:Nat} (h:i<n):gt (l.take n) i=gt l i:=by
 unfold gt
 rw [List.getD_eq_getElem?_getD,List.getD_eq_getElem?_getD,List.getElem?_take,if_pos h]
theorem Net_ok [OB] {lim c:Nat} {p:Option Addr} {rs:List RL} {H:Heap} {Q:Value→Heap→Prop} (hs:Sl H encR 6 p rs) (hb:∀x∈rs,ByR x) (hl:rs.length<2 ^ 63) (hc:CapOk 6 c rs.length) (hlim:lim≤H.length)
  (hQ:∀G pp pl cl,Chg [] H G→NetIn G pp pl P5 (netL rs (min rs.length 10))→Q (.agg (netV pp 5 5 pl (netL rs (min rs.length 10)).length cl).toArray) G) :
  CallR E false lim 22 [.slice p rs.length c] H Q:=by
 refine runs' (by decide) e22 rfl ?_
 rw [b22,c22]
 obtain ⟨n,hn⟩:∃n,min rs.length 10=n:=⟨_,rfl⟩
 rw [hn] at hQ
 have emin:min (rs.length:Int) 10=(n:Int):=by omega
 obtain ⟨q1,k1,x1,s1,_,_,_⟩:=slice_cut (vlo:=none) (vhi:=some (.int .i64 (n:Int))) (lo:=0) (hi:=n) hs hc encR_len (fun cap hcap=>by rw [bv_010 (by omega) (by omega),Int.toNat_natCast]) (Nat.zero_le _) (by omega) (by omega)
 rw [List.drop_zero] at s1
 simp only [Nat.sub_zero] at x1
 have hsl:(rs.take n).length=n:=by rw [List.length_take];omega
 simp only [n22,r22,setAll_full,hlim,min_v,emin,x1,SB,Nat.reduceLT,callee,aOp,ne_eq,Nat.reduceEqDiff,aBin,aUn,if_true,if_false,reduceCtorEq,frame0,place,notTuple,Nat.reduceAdd,Nat.reduceLeDiff,resVal,dite_true,dite_false,Int.reduceEq,Int.reduceLT,Int.reduceLE]
 refine Ret_rounds (fun s:Nat×Option Addr×Nat=>n-s.1) (fun s fr G=>s.1≤n∧fr 2=.pointer (some ⟨H.length,0,none⟩)∧fr 3=.pointer (some ⟨H.length+2,0,none⟩)∧fr 13=.slice q1 n k1∧fr 14=.int .i64 (n:Int)∧fr 15=.int .i64 (s.1:Int)∧Chg [] H G∧hget G H.length=.cells false [.slice none 0 0,.slice none 0 0]∧hget G (H.length+1)=.cells false (P5.flatMap encI)∧hget G (H.length+2)=.cells false [.slice (some ⟨H.length+1,0,none⟩) 5 5,.slice s.2.1 (netL rs s.1).length s.2.2]∧Own (H.length+3) G encL 8 s.2.1 s.2.2 (netL rs s.1)) (0,none,0)
  ⟨Nat.zero_le _,(by simp only [FB,Nat.reduceEqDiff]),(by simp only [FB,Nat.reduceEqDiff]),(by simp only [FB,Nat.reduceEqDiff]),(by simp only [FB,Nat.reduceEqDiff]),by rfl,Chg.refl.app,by rw [hget_new0];rfl,by rw [hget_new];rfl,by rw [hget_new];rfl,.nil⟩ ?_
 rintro ⟨i,pw,cw⟩ fr G ⟨hi,g2,g3,g13,g14,g15,hC,hA,hP,hB,hO⟩ hN
 simp only at hi g15 hB hO
 rw [Ret_code l22_1.eq_1]
 refine Ret_pad ?_
 have hl:=hC.len
 have hBl:=hget_alive hB
 have hXB:=fun X=>(Ext.refl.app (X:=X)).cells hB
 by_cases hlt:i<n
 case neg=>
  obtain rfl:i=n:=by omega
  obtain ⟨G2,e2,h2,m2⟩:=mut_set (hget_alive hA) (.cells false [.slice (some ⟨H.length+1,0,none⟩) 5 5,.slice pw (netL rs i).length cw])
  have XA:=fun X=>(Ext.refl.app (X:=X)).cells hA
  have X2:=fun X=>(Ext.refl.app (X:=X)).cells h2
  simp only [n22,r22,g2,g3,g13,g14,g15,hlt,hXB,XA,e2,X2,hlim,SB,Nat.reduceLT,callee,aOp,ne_eq,Nat.reduceEqDiff,aBin,aUn,if_true,if_false,reduceCtorEq,frame0,place,notTuple,Nat.reduceAdd,Nat.reduceLeDiff,resVal,dite_true,dite_false,Int.reduceEq,Int.reduceLT,Int.reduceLE]
  have S1:Sl G2 encI 1 (some ⟨H.length+1,0,none⟩) P5:=Sl.row (ro:=false) encI_len (m2.cells hP (by omega))
  have S2:=(hO.mut m2 fun a ha e=>by have:=(hO.block ha).1;omega).sl encL_len
  exact hQ _ (some ⟨H.length+1,0,none⟩) pw cw (hC.mut m2 (.inr (Nat.le_refl _))).app ⟨S1.app _,S2.app _,by decide,by have:=netL_len rs i;omega,netL_by hb hn⟩
 have hss:=(hC.sl s1 (by simp))
 have ld:=fun X=>(hss.app X).loadCells encR_len (i:=i) (by omega)
 have ix:=fun c (k:IntKind) (H1:Heap)=>hss.idx (c:=c) (k:=k) (H1:=H1) (i:=i) (by omega)
 have eg:gt (rs.take n) i=gt rs i:=gt_take hlt
 rw [eg] at ld
 rw [hsl] at ix
 simp only [encR] at ld
 have hlimG:lim≤G.length:=by omega
 have hby:=hb _ (gt_mem (l:=rs) (i:=i) (by omega))
 generalize hx:gt rs i=x at ld hby
 obtain ⟨ha,hb',hc',hd,he,hf⟩:=hby
 have ta1:=Int.tmod_lt_of_pos x.a (show (0:Int)<5 by decide)
 have ta2:=Int.tmod_nonneg (5:Int) ha.1
 have tb1:=Int.tmod_lt_of_pos x.b (show (0:Int)<5 by decide)
 have tb2:=Int.tmod_nonneg (5:Int) hb'.1
 have tf1:=Int.tmod_lt_of_pos x.f (show (0:Int)<127 by decide)
 have tf2:=Int.tmod_nonneg (127:Int) hf.1
 have wa:IntKind.i64.wrap x.a=x.a:=wrap_id (by omega) (by omega)
 have wb:IntKind.i64.wrap x.b=x.b:=wrap_id (by omega) (by omega)
 have wc:IntKind.i64.wrap x.c=x.c:=wrap_id (by omega) (by omega)
 have wd:IntKind.i64.wrap x.d=x.d:=wrap_id (by omega) (by omega)
 have we:IntKind.i64.wrap x.e=x.e:=wrap_id (by omega) (by omega)
 have wa5:IntKind.i64.wrap (1+x.a.tmod 5)=1+x.a.tmod 5:=wrap_id (by omega) (by omega)
 have wb5:IntKind.i64.wrap (1+x.b.tmod 5)=1+x.b.tmod 5:=wrap_id (by omega) (by omega)
 have wc5:IntKind.i64.wrap (x.c*5)=x.c*5:=wrap_id (by omega) (by omega)
 have wd5:IntKind.i64.wrap (1+x.d)=1+x.d:=wrap_id (by omega) (by omega)
 have wf:IntKind.u8.wrap (x.f.tmod 127+1)=x.f.tmod 127+1:=by
  simp only [IntKind.wrap,IntKind.bits,IntKind.signed,Bool.false_and,Bool.false_eq_true,if_false]
  omega
 have wi:IntKind.i64.wrap ((i:Int)+1)=(i:Int)+1:=wrap_id (by omega) (by omega)
 have en:netL rs (i+1)=if 1+x.a.tmod 5=1+x.b.tmod 5 then netL rs i else netL rs i++[legR i x]:=by
  rw [netL,hx,ite_not];rfl
 by_cases hne:1+x.a.tmod 5=1+x.b.tmod 5
 ·rw [if_pos hne] at en
  simp only [n22,r22,g2,g3,g13,g14,g15,hlt,ld,ix,hlimG,wa,wb,wc,wd,we,wa5,wb5,wc5,wd5,wf,wi,eq_true hne,SB,Nat.reduceLT,callee,aOp,ne_eq,Nat.reduceEqDiff,aBin,aUn,if_true,if_false,reduceCtorEq,frame0,place,notTuple,Nat.reduceAdd,Nat.reduceLeDiff,resVal,dite_true,dite_false,Int.reduceEq,Int.reduceLT,Int.reduceLE]
  exact hN (i+1,pw,cw) _ _ ⟨by show i+1≤n;omega,(by simp only [g2,FB,Nat.reduceEqDiff]),(by simp only [g3,FB,Nat.reduceEqDiff]),(by simp only [g13,FB,Nat.reduceEqDiff]),(by simp only [g14,FB,Nat.reduceEqDiff]),by rfl,hC.app,(Ext.refl.app).cells hA,(Ext.refl.app).cells hP,by simp only [en];exact (Ext.refl.app).cells hB,by simp only [en];exact hO.app _⟩ (by show n-(i+1)<n-i;omega)
 rw [if_neg hne] at en
 obtain ⟨G4,e4,O4,C4,hl4⟩:=Own.moreF hO (lim':=lim) (bytes:=64) (by omega) encL_len (by decide) [legR i x] (by simp) (by have:=netL_len rs i;unfold maxBytes;simp;omega) (by have:=netL_len rs i;simp;omega) [.cells false [.int .u8 x.a,.int .u8 x.b,.int .u8 x.c,.int .u8 x.d,.int .u8 x.e,.int .u8 x.f],.cells false (encL (legR i x)),.cells false (encL (legR i x))] (x:=.slice (some ⟨G.length+2,0,none⟩) 1 1) (str:=false)
  (first_slice (m:=[legR i x]) (Sl.row (ro:=false) encL_len (by rw [hget_new];rfl))) rfl
 have hpw:∀j,j∈opB pw→H.length+3≤j:=fun j hj=>by
  cases hpe:pw with
  | none=>rw [hpe] at hj;cases hj
  | some a=>rw [hpe] at hj;have:=hO.block hpe;simp [opB] at hj;omega
 generalize hp':(G++[Blk.cells false [.int .u8 x.a,.int .u8 x.b,.int .u8 x.c,.int .u8 x.d,.int .u8 x.e,.int .u8 x.f],.cells false (encL (legR i x)),.cells false (encL (legR i x))]).length=r at e4 O4 hl4
 have hr':G.length≤r:=by rw [←hp'];simp
 generalize loose 8=c' at e4 O4
 simp only [List.length_cons,List.length_nil,Nat.zero_add,encL,legR] at e4
 have hB4:=C4.cells hB fun hm=>by have:=hpw _ hm;omega
 have hA4:=C4.cells hA fun hm=>by have:=hpw _ hm;omega
 have hP4:=C4.cells hP fun hm=>by have:=hpw _ hm;omega
 obtain ⟨G5,e5,h5,m5⟩:=mut_set (hget_alive hB4) (.cells false [.slice (some ⟨H.length+1,0,none⟩) 5 5,.slice (some ⟨r,0,none⟩) ((netL rs i).length+1) c'])
 have X4:=fun X=>(Ext.refl.app (X:=X)).cells hB4
 have hlim2:lim≤H.length+2:=by omega
 simp only [n22,r22,g2,g3,g13,g14,g15,hlt,ld,ix,hlimG,wa,wb,wc,wd,we,wa5,wb5,wc5,wd5,wf,wi,eq_false hne,hXB,e4,X4,e5,hlim2,SB,Nat.reduceLT,callee,aOp,ne_eq,Nat.reduceEqDiff,aBin,aUn,if_true,if_false,reduceCtorEq,frame0,place,notTuple,Nat.reduceAdd,Nat.reduceLeDiff,resVal,dite_true,dite_false,Int.reduceEq,Int.reduceLT,Int.reduceLE]
 exact hN (i+1,some ⟨r,0,none⟩,c') _ _ ⟨by show i+1≤n;omega,(by simp only [g2,FB,Nat.reduceEqDiff]),(by simp only [g3,FB,Nat.reduceEqDiff]),(by simp only [g13,FB,Nat.reduceEqDiff]),(by simp only [g14,FB,Nat.reduceEqDiff]),by rfl,((hC.trans' C4 fun j hj hjl=>by have:=hpw j hj;omega).mut m5 (.inr (by omega))).app,(Ext.refl.app).cells (m5.cells hA4 (by omega)),(Ext.refl.app).cells (m5.cells hP4 (by omega)),
  by simp only [en,List.length_append,List.length_singleton];exact (Ext.refl.app).cells h5,by simp only [en];exact ((O4.mut m5 fun a ha e=>by cases ha;simp at e;omega).le (by omega)).app _⟩ (by show n-(i+1)<n-i;omega)
structure Lk where
 (a b c:Int)
 deriving DecidableEq,Inhabited
def encK (x:Lk):List Value:=[.int .u8 x.a,.int .u8 x.b,.int .u16 x.c]
theorem encK_len (x:Lk):(encK x).length=3:=id rfl
def ByK (x:Lk):Prop:=(0≤x.a∧x.a≤255)∧(0≤x.b∧x.b≤255)∧(0≤x.c∧x.c≤65535)
def timeN (ls:List Lk):Nat→Int
 | 0=>14400
 | n+1=>timeN ls n+(gt ls n).c.tmod 2000
def kinds:List Int:=[1,2,3,2,4]
def evN (ls:List Lk) (i:Nat):Ev:=⟨7,1+(gt ls i).a.tmod 6,1,gt kinds ((gt ls i).b.tmod 5).toNat,timeN ls (i+1),timeN ls (i+1),timeN ls (i+1)⟩
def seenN (ls:List Lk) (n:Nat):List Ev:=(List.range n).map (evN ls)
theorem seenN_len {ls:List Lk} {n:Nat}:(seenN ls n).length=n:=by simp [seenN]
def encU (x:Int):List Value:=[.int .u8 x]
theorem encU_len (x:Int):(encU x).length=1:=id rfl
theorem timeN_bnd {ls:List Lk} (hb:∀x∈ls,ByK x):∀n,n≤ls.length→14400≤timeN ls n∧timeN ls n≤14400+2000*n
 | 0,_=>⟨Int.le_refl _,by show (14400:Int)≤_;omega⟩
 | n+1,h=>by
   have h1:=timeN_bnd hb n (by omega)
   have h2:=(hb _ (gt_mem (l:=ls) (i:=n) (by omega))).2.2
   have h3:=Int.tmod_lt_of_pos (gt ls n).c (show (0:Int)<2000 by decide)
   have h4:=Int.tmod_nonneg (2000:Int) h2.1
   rw [timeN]
   omega
theorem Seen_ok [OB] {lim c k:Nat} {p:Option Addr} {ls:List Lk} {H:Heap} {Q:Value→Heap→Prop} (hs:Sl H encK 3 p ls) (hb:∀x∈ls,ByK x) (hl:ls.length<2 ^ 63) (hc:CapOk 3 c ls.length) (hk:k≤40) (hlim:lim≤H.length)
  (hQ:∀G q cq,Chg [] H G→Own H.length G encE 7 q cq (seenN ls (min ls.length k))→Q (.slice q (min ls.length k) cq) G) :
  CallR E false lim 23 [.slice p ls.length c,.int .i64 (k:Int)] H Q:=by
 refine runs' (by decide) e23 rfl ?_
 rw [b23,c23]
 obtain ⟨n,hn⟩:∃n,min ls.length k=n:=⟨_,rfl⟩
 rw [hn] at hQ
 have emin:min (ls.length:Int) (k:Int)=(n:Int):=by omega
 obtain ⟨q1,k1,x1,s1,_,_,_⟩:=slice_cut (vlo:=none) (vhi:=some (.int .i64 (n:Int))) (lo:=0) (hi:=n) hs hc encK_len (fun cap hcap=>by rw [bv_010 (by omega) (by omega),Int.toNat_natCast]) (Nat.zero_le _) (by omega) (by omega)
 rw [List.drop_zero] at s1
 simp only [Nat.sub_zero] at x1
 have hsl:(ls.take n).length=n:=by rw [List.length_take];omega
 simp only [n23,r23,setAll_full,hlim,min_v,emin,x1,SB,Nat.reduceLT,callee,aOp,ne_eq,Nat.reduceEqDiff,aBin,aUn,if_true,if_false,reduceCtorEq,frame0,place,notTuple,Nat.reduceAdd,Nat.reduceLeDiff,resVal,dite_true,dite_false,Int.reduceEq,Int.reduceLT,Int.reduceLE]
 refine Ret_rounds (fun s:Nat×Option Addr×Nat=>n-s.1) (fun s fr G=>s.1≤n∧fr 5=.slice s.2.1 s.1 s.2.2∧fr 6=.int .i64 (timeN ls s.1)∧fr 15=.slice q1 n k1∧fr 16=.int .i64 (n:Int)∧fr 17=.int .i64 (s.1:Int)∧Chg [] H G∧Own H.length G encE 7 s.2.1 s.2.2 (seenN ls s.1)) (0,none,0)
  ⟨Nat.zero_le _,by rfl,by rfl,(by simp only [FB,Nat.reduceEqDiff]),(by simp only [FB,Nat.reduceEqDiff]),by rfl,Chg.refl.app,.nil⟩ ?_
 rintro ⟨i,pw,cw⟩ fr G ⟨hi,g5,g6,g15,g16,g17,hC,hO⟩ hN
 simp only at hi g5 g6 g17 hO
 rw [Ret_code l23_1.eq_1]
 refine Ret_pad ?_
 have hlG:=hC.len
 by_cases hlt:i<n
 case neg=>
  obtain rfl:i=n:=by omega
  simp only [n23,r23,g5,g6,g15,g16,g17,hlt,SB,Nat.reduceLT,callee,aOp,ne_eq,Nat.reduceEqDiff,aBin,aUn,if_true,if_false,reduceCtorEq,frame0,place,notTuple,Nat.reduceAdd,Nat.reduceLeDiff,resVal,dite_true,dite_false,Int.reduceEq,Int.reduceLT,Int.reduceLE]
  exact hQ _ _ _ hC.app (hO.app _)
 have hss:=(hC.sl s1 (by simp))
 have ld:=fun X=>(hss.app X).loadCells encK_len (i:=i) (by omega)
 have ix:=fun c (k:IntKind) (H1:Heap)=>hss.idx (c:=c) (k:=k) (H1:=H1) (i:=i) (by omega)
 have eg:gt (ls.take n) i=gt ls i:=gt_take hlt
 rw [eg] at ld
 rw [hsl] at ix
 simp only [encK] at ld
 have hlimG:lim≤G.length:=by omega
 have hby:=hb _ (gt_mem (l:=ls) (i:=i) (by omega))
 have htm:=timeN_bnd hb i (by omega)
 have ht:timeN ls (i+1)=timeN ls i+(gt ls i).c.tmod 2000:=rfl
 have hev:evN ls i=⟨7,1+(gt ls i).a.tmod 6,1,gt kinds ((gt ls i).b.tmod 5).toNat,timeN ls (i+1),timeN ls (i+1),timeN ls (i+1)⟩:=rfl
 have es:seenN ls (i+1)=seenN ls i++[evN ls i]:=by unfold seenN;rw [List.range_succ,List.map_append,List.map_singleton]
 generalize hx:gt ls i=x at ld hby ht hev
 obtain ⟨ha,hb',hc'⟩:=hby
 have ta1:=Int.tmod_lt_of_pos x.a (show (0:Int)<6 by decide)
 have ta2:=Int.tmod_nonneg (6:Int) ha.1
 have tb1:=Int.tmod_lt_of_pos x.b (show (0:Int)<5 by decide)
 have tb2:=Int.tmod_nonneg (5:Int) hb'.1
 have tc1:=Int.tmod_lt_of_pos x.c (show (0:Int)<2000 by decide)
 have tc2:=Int.tmod_nonneg (2000:Int) hc'.1
 have wa:IntKind.i64.wrap x.a=x.a:=wrap_id (by omega) (by omega)
 have wc:IntKind.i64.wrap x.c=x.c:=wrap_id (by omega) (by omega)
 have wa6:IntKind.i64.wrap (1+x.a.tmod 6)=1+x.a.tmod 6:=wrap_id (by omega) (by omega)
 have wt:IntKind.i64.wrap (timeN ls i+x.c.tmod 2000)=timeN ls (i+1):=by rw [ht];exact wrap_id (by omega) (by omega)
 have wi:IntKind.i64.wrap ((i:Int)+1)=((i+1:Nat):Int):=wrap_nat (by omega)
 obtain ⟨j,hj⟩:=Int.eq_ofNat_of_zero_le tb2
 rw [hj,Int.toNat_natCast] at hev
 have hj5:j<kinds.length:=by show j<5;omega
 have kx:∀(A:Nat) (kk:IntKind) (H1:Heap),idxK 1 (.slice (some ⟨A,0,none⟩) 5 5) (.int kk (j:Int)) H1=some (.pointer (some ⟨A,j,none⟩),H1):=fun A kk H1=>by
  have:=(Sl.row (H:=H1++[]) (R:=A) (l:=kinds) (ro:=false) (enc:=encU) encU_len (e:=1))
  simp [idxK,addr_add]
  omega
 have kj:[Value.int .u8 1,Value.int .u8 2,Value.int .u8 3,Value.int .u8 2,Value.int .u8 4][j]? = some (.int .u8 (gt kinds j)):=by
  have:j=0∨j=1∨j=2∨j=3∨j=4:=by omega
  rcases this with rfl | rfl | rfl | rfl | rfl<;>rfl
 have hrl:=seenN_len (ls:=ls) (n:=i)
 obtain ⟨G4,e4,O4,C4,hl4⟩:=Own.moreF hO (lim':=lim) (bytes:=56) (by omega) encE_len (by decide) [evN ls i] (by simp) (by rw [hrl];unfold maxBytes;simp;omega) (by rw [hrl];simp;omega) [.cells false [.int .u8 x.a,.int .u8 x.b,.int .u16 x.c],.cells false (encE (evN ls i)),.cells false [.int .u8 1,.int .u8 2,.int .u8 3,.int .u8 2,.int .u8 4],.cells false (encE (evN ls i))] (x:=.slice (some ⟨G.length+3,0,none⟩) 1 1) (str:=false)
  (first_slice (m:=[evN ls i]) (Sl.row (ro:=false) encE_len (by rw [hget_new];rfl))) rfl
 rw [hrl] at e4
 generalize hp':(G++[Blk.cells false [.int .u8 x.a,.int .u8 x.b,.int .u16 x.c],.cells false (encE (evN ls i)),.cells false [.int .u8 1,.int .u8 2,.int .u8 3,.int .u8 2,.int .u8 4],.cells false (encE (evN ls i))]).length=r at e4 O4 hl4
 have hr':G.length≤r:=by rw [←hp'];simp
 generalize loose 7=c' at e4 O4
 rw [hev] at e4
 simp only [List.length_cons,List.length_nil,Nat.zero_add,encE] at e4
 have hpw:∀j,j∈opB pw→H.length≤j:=fun j hj=>by
  cases hpe:pw with
  | none=>rw [hpe] at hj;cases hj
  | some a=>rw [hpe] at hj;have:=hO.block hpe;simp [opB] at hj;omega
 simp only [n23,r23,g5,g6,g15,g16,g17,hlt,ld,ix,hlimG,wa,wc,wa6,wt,wi,seen_ok,setAll_full,hj,kx,kj,e4,SB,Nat.reduceLT,callee,aOp,ne_eq,Nat.reduceEqDiff,aBin,aUn,if_true,if_false,reduceCtorEq,frame0,place,notTuple,Nat.reduceAdd,Nat.reduceLeDiff,resVal,dite_true,dite_false,Int.reduceEq,Int.reduceLT,Int.reduceLE]
 exact hN (i+1,some ⟨r,0,none⟩,c') _ _ ⟨by show i+1≤n;omega,by rfl,by rfl,(by simp only [g15,FB,Nat.reduceEqDiff]),(by simp only [g16,FB,Nat.reduceEqDiff]),by rfl,(hC.trans' C4 fun j hj hjl=>by have:=hpw j hj;omega).app,by simp only [es];exact (O4.le (by omega)).app _⟩ (by show n-(i+1)<n-i;omega)
def LexLE:List Int→List Int→Prop
 | [],_=>True
 | _::_,[]=>False
 | x::l,y::m=>x<y∨(x=y∧LexLE l m)
theorem LexLE.refl:∀l,LexLE l l
 | []=>trivial
 | x::l=>.inr ⟨rfl,LexLE.refl l⟩
theorem LexLE.trans:∀{a b c:List Int},LexLE a b→LexLE b c→LexLE a c
 | [],_,_,_,_=>trivial
 | x::a,[],c,h,_=>by cases h
 | x::a,y::b,[],_,h=>by cases h
 | x::a,y::b,z::c,h1,h2=>by
   rcases h1 with h1 | ⟨rfl,h1⟩
   ·rcases h2 with h2 | ⟨rfl,h2⟩
    ·exact .inl (by omega)
    ·exact .inl h1
   ·rcases h2 with h2 | ⟨rfl,h2⟩
    ·exact .inl h2
    ·exact .inr ⟨rfl,h1.trans h2⟩
def BE (c k:Int) (l:List Int) (c' k':Int) (l':List Int):Prop:=c<c'∨(c=c'∧(k'<k∨(k=k'∧LexLE l l')))
theorem BE.refl {c k:Int} {l:List Int}:BE c k l c k l:=.inr ⟨rfl,.inr ⟨rfl,LexLE.refl l⟩⟩
theorem BE.trans {a b c x y z:Int} {l m r:List Int} (h1:BE a x l b y m) (h2:BE b y m c z r):BE a x l c z r:=by
 rcases h1 with h1 | ⟨rfl,h1⟩
 ·rcases h2 with h2 | ⟨rfl,h2⟩
  ·exact .inl (by omega)
  ·exact .inl h1
 ·rcases h2 with h2 | ⟨rfl,h2⟩
  ·exact .inl h2
  ·refine .inr ⟨rfl, ?_⟩
   rcases h1 with h1 | ⟨rfl,h1⟩
   ·rcases h2 with h2 | ⟨rfl,h2⟩
    ·exact .inl (by omega)
    ·exact .inl h1
   ·rcases h2 with h2 | ⟨rfl,h2⟩
    ·exact .inl h2
    ·exact .inr ⟨rfl,h1.trans h2⟩
section
variable {P:List Int} {L:List Leg} {es:List Ev}
def rcI (P:List Int) (L:List Leg) (es:List Ev):List Int→Int
 | []=>0
 | [i]=>30*((es.length:Int)-1-i)
 | i::j::l=>priceN P L (gt es i.toNat) (gt es j.toNat)+30*(j-i-1)+rcI P L es (j::l)
def Asc (n:Nat):List Int→Prop
 | []=>True
 | [i]=>0≤i∧i<n
 | i::j::l=>0≤i∧i<j∧Asc n (j::l)
theorem Asc.head {n:Nat}:∀{i:Int} {l:List Int},Asc n (i::l)→0≤i∧i<n
 | i,[],h=>h
 | i,j::l,h=>⟨h.1,by have:=h.2.2.head;have:=h.2.1;omega⟩
variable {F:List Tri} {n:Nat}
structure RestOk (P:List Int) (L:List Leg) (es:List Ev) (x:Tri) (l:List Int):Prop where
 cost:x.1=rcI P L es l
 count:x.2.1=l.length
 asc:Asc es.length l
end
section
variable {P:List Int} {L:List Leg} {es:List Ev}
theorem BE.add {c k c' k':Int} {l l':List Int} (d:Int) (h:BE c k l c' k' l'):BE (d+c) k l (d+c') k' l':=by
 rcases h with h | ⟨rfl,h⟩
 ·exact .inl (by omega)
 ·exact .inr ⟨rfl,h⟩
theorem of_asc {n:Nat}:∀(ks:List Int),Asc n ks→∀i,i<ks.length→ascOk n ks i
 | [],_,i,hi=>by cases hi
 | [a],h,i,hi=>by
   obtain rfl:i=0:=by simp at hi;omega
   exact ⟨h.1,h.2,fun h=>by omega⟩
 | a::b::l,h,0,hi=>⟨h.head.1,h.head.2,fun h=>by omega⟩
 | a::b::l,h,1,hi=>⟨h.2.2.head.1,h.2.2.head.2,fun _=>h.2.1⟩
 | a::b::l,h,i+2,hi=>by
   have h1:=of_asc (b::l) h.2.2 (i+1) (by simp at hi⊢;omega)
   exact ⟨h1.1,h1.2.1,fun _=>h1.2.2 (by omega)⟩
end
section
variable {P:List Int} {L:List Leg} {es:List Ev}
theorem KsOk.mono {n m:Nat} {ks:List Int} (h:KsOk n ks) (hn:0<n) (hm:n≤m):KsOk m ks:=
 ⟨fun h0=>by have:=h.1 h0;omega,fun i hi=>by obtain ⟨a,b,c⟩:=h.2 i hi;exact ⟨a,by omega,c⟩⟩
end
theorem kinds_range {j:Nat} (hj:j<5):1≤gt kinds j∧gt kinds j≤4:=by
 have:j=0∨j=1∨j=2∨j=3∨j=4:=by omega
 rcases this with rfl | rfl | rfl | rfl | rfl<;>decide
theorem seenN_get {ls:List Lk} {m i:Nat} (h:i<m):gt (seenN ls m) i=evN ls i:=by
 rw [gt_lt (by rw [seenN_len];exact h)];simp [seenN]
theorem seenN_right {ls:List Lk} (hb:∀x∈ls,ByK x) {m:Nat} (hm:m≤ls.length) (h40:m≤40):EvsOk (seenN ls m):=fun i hi=>by
 rw [seenN_len] at hi
 have hby:=hb _ (gt_mem (l:=ls) (i:=i) (by omega))
 have t1:=timeN_bnd hb (i+1) (by omega)
 have ta1:=Int.tmod_lt_of_pos (gt ls i).a (show (0:Int)<6 by decide)
 have ta2:=Int.tmod_nonneg (6:Int) hby.1.1
 have tb1:=Int.tmod_lt_of_pos (gt ls i).b (show (0:Int)<5 by decide)
 have tb2:=Int.tmod_nonneg (5:Int) hby.2.1.1
 have tc2:=Int.tmod_nonneg (2000:Int) hby.2.2.1
 have kr:=kinds_range (j:=((gt ls i).b.tmod 5).toNat) (by omega)
 have ht:timeN ls (i+1)=timeN ls i+(gt ls i).c.tmod 2000:=rfl
 have mt:maxTime=1051898399:=rfl
 unfold evOk
 rw [seenN_get hi]
 refine ⟨⟨?_, ?_, ?_, ?_, ?_, ?_⟩, ?_, ?_,fun h0=>⟨?_, ?_⟩⟩
 ·show (1:Int)≤7∧(7:Int)≤999999;decide
 ·show 1≤1+(gt ls i).a.tmod 6∧1+(gt ls i).a.tmod 6≤999999;omega
 ·show (1:Int)≤1∧(1:Int)≤999999;decide
 ·exact kr
 ·show 0≤timeN ls (i+1)∧timeN ls (i+1)≤maxTime;omega
 ·show 0≤timeN ls (i+1)∧timeN ls (i+1)≤maxTime;omega
 ·show 0≤timeN ls (i+1);omega
 ·show timeN ls (i+1)≤maxTime;omega
 ·rw [seenN_get (by omega)];rfl
 ·obtain ⟨k,rfl⟩:∃k,i=k+1:=⟨i-1,by omega⟩
  rw [Nat.add_sub_cancel,seenN_get (by omega)]
  show timeN ls (k+1)≤timeN ls (k+1+1)
  omega
theorem gt_app_lt {α:Type} [Inhabited α] {l m:List α} {i:Nat} (h:i<l.length):gt (l++m) i=gt l i:=by
 rw [gt_lt (by simp;omega),gt_lt h,List.getElem_append_left h]
theorem gt_app_eq {α:Type} [Inhabited α] {l:List α} {x:α}:gt (l++[x]) l.length=x:=by
 rw [gt_lt (by simp),List.getElem_append_right (Nat.le_refl _)]
 simp
theorem legs_snoc {P:List Int} {M:List Leg} {l:Leg} (h:LegsOk P M) (h1:Fine l) (h2:l.id∉M.map (·.id)) (h3:l.frm∈P) (h4:l.dst∈P):LegsOk P (M++[l]):=fun i hi=>by
 rw [List.length_append,List.length_singleton] at hi
 rcases Nat.lt_or_ge i M.length with h5 | h5
 ·have:=h i h5
  unfold lOk at *
  rw [gt_app_lt h5,List.take_append_of_le_length (by omega)]
  exact this
 ·obtain rfl:i=M.length:=by omega
  unfold lOk
  rw [gt_app_eq,List.take_append_of_le_length (Nat.le_refl _),List.take_length]
  exact ⟨h1,h2,h3,h4⟩
theorem in_P5 {a:Int} (h1:1≤a) (h2:a≤5):a∈P5:=by
 have:a=1∨a=2∨a=3∨a=4∨a=5:=by omega
 rcases this with rfl | rfl | rfl | rfl | rfl<;>decide
theorem netL_ok {rs:List RL} (hb:∀x∈rs,ByR x):∀n,n≤rs.length→n≤10→LegsOk P5 (netL rs n)
 | 0,_,_=>fun i hi=>by cases hi
 | n+1,hn,h10=>by
   have ih:=netL_ok hb n (by omega) (by omega)
   rw [netL]
   split
   ·rename_i hne
    obtain ⟨ha,hb',hc,hd,he,hf⟩:=hb _ (gt_mem (l:=rs) (i:=n) (by omega))
    have ta1:=Int.tmod_lt_of_pos (gt rs n).a (show (0:Int)<5 by decide)
    have ta2:=Int.tmod_nonneg (5:Int) ha.1
    have tb1:=Int.tmod_lt_of_pos (gt rs n).b (show (0:Int)<5 by decide)
    have tb2:=Int.tmod_nonneg (5:Int) hb'.1
    have te1:=Int.tmod_lt_of_pos (gt rs n).e (show (0:Int)<60 by decide)
    have te2:=Int.tmod_nonneg (60:Int) he.1
    have tf1:=Int.tmod_lt_of_pos (gt rs n).f (show (0:Int)<127 by decide)
    have tf2:=Int.tmod_nonneg (127:Int) hf.1
    refine legs_snoc ih ?_ ?_ ?_ ?_
    ·unfold Fine legR at *
     simp only at *
     omega
    ·intro hm
     obtain ⟨l,h1,h2⟩:=List.mem_map.1 hm
     obtain ⟨i,h3,rfl,_⟩:=netL_mem h1
     unfold legR at h2
     simp only at h2
     omega
    ·refine in_P5 ?_ ?_<;>(unfold legR;simp only;omega)
    ·refine in_P5 ?_ ?_<;>(unfold legR;simp only;omega)
   ·exact ih
theorem plants5:PlantsOk P5:=by decide
theorem netL_valid {rs:List RL} (hb:∀x∈rs,ByR x) {n:Nat} (hn:n≤rs.length) (h10:n≤10):validN P5 (netL rs n)=0:=by
 have h1:=netL_len rs n
 unfold validN
 rw [if_neg (by have:P5.length=5:=rfl;omega),if_neg (by simpa using plants5),if_neg (by simpa using netL_ok hb n hn h10)]
theorem err_none {rs:List RL} {ls:List Lk} (hb:∀x∈rs,ByR x) (hk:∀x∈ls,ByK x) {n m:Nat} (hn:n≤rs.length) (h10:n≤10) (hm:m≤ls.length) (h40:m≤40):errI P5 (netL rs n) (seenN ls m)=0:=by
 unfold errI
 rw [if_neg (by rw [netL_valid hb hn h10];simp),if_neg (by rw [seenN_len];omega),if_pos (seenN_right hk hm h40)]
def bitsN (x:Nat):Nat→List Int
 | 0=>[]
 | m+1=>if x / 2 ^ m % 2=1 then bitsN x m++[(m:Int)] else bitsN x m
theorem asc_app {n:Nat}:∀(l:List Int),Asc n l→Asc (n+1) (l++[(n:Int)])
 | [],_=>⟨by omega,by omega⟩
 | [a],h=>⟨h.1,h.2,by omega,by omega⟩
 | a::b::l,h=>⟨h.1,h.2.1,asc_app (b::l) h.2.2⟩
theorem asc_up {n:Nat}:∀(l:List Int),Asc n l→Asc (n+1) l
 | [],_=>trivial
 | [a],h=>⟨h.1,by have:=h.2;omega⟩
 | a::b::l,h=>⟨h.1,h.2.1,asc_up (b::l) h.2.2⟩
theorem bitsN_asc {x:Nat}:∀m,Asc m (bitsN x m)
 | 0=>trivial
 | m+1=>by
   rw [bitsN]
   split
   ·exact asc_app _ (bitsN_asc m)
   ·exact asc_up _ (bitsN_asc m)
theorem bitsN_len {x:Nat}:∀m,(bitsN x m).length≤m
 | 0=>Nat.le_refl _
 | m+1=>by
   have:=bitsN_len (x:=x) m
   rw [bitsN]
   split
   ·simp;omega
   ·omega
theorem bit16 {x k:Nat} (hx:x<65536) (hk:k<16):IntKind.u16.wrap ((BitVec.ofInt IntKind.u16.bits ((x:Int).fdiv (2 ^ (min k IntKind.u16.bits))) &&& BitVec.ofInt IntKind.u16.bits 1).toNat:Int)=((x / 2 ^ k % 2:Nat):Int):=by
 rw [show min k IntKind.u16.bits=k from Nat.min_eq_left (by show k≤16;omega)]
 have e:((x:Int).fdiv (2 ^ k))=((x / 2 ^ k:Nat):Int):=by
  rw [show ((2:Int) ^ k)=((2 ^ k:Nat):Int) by simp,Int.fdiv_eq_ediv_of_nonneg _ (Int.natCast_nonneg _)]
  rfl
 rw [e,BitVec.ofInt_natCast,BitVec.toNat_and]
 have hl:x / 2 ^ k<2 ^ IntKind.u16.bits:=Nat.lt_of_le_of_lt (Nat.div_le_self _ _) (by show x<2 ^ 16;omega)
 have e1:(BitVec.ofInt IntKind.u16.bits 1).toNat=1:=rfl
 rw [e1,BitVec.toNat_ofNat,Nat.mod_eq_of_lt hl,Nat.and_one_is_mod]
 have h2:x / 2 ^ k % 2=0∨x / 2 ^ k % 2=1:=by omega
 rcases h2 with h | h<;>rw [h]<;>decide
theorem bits16_loop [OB] {lim x m:Nat} {H G:Heap} {fr:Nat→Value} {K:List AItem} {Z:Value→Heap→Prop} (hx:x<65536) (hm:m≤16) (hlim:lim≤H.length) (hC:Chg [] H G)
  (f2:fr 2=.int .u16 (x:Int)) (f9:fr 9=.slice none 0 0) (f30:fr 30=.int .i64 (m:Int)) (f31:fr 31=.int .i64 0)
  (hR:∀fr' G' q cq,Chg [] H G'→Own H.length G' encI 1 q cq (bitsN x m)→fr' 9=.slice q (bitsN x m).length cq→(∀j,j≤8→fr' j=fr j)→Ret E a4 lim K fr' G' Z) :
  Ret E a4 lim (.code (.loop l4_3)::.inBlock 0::K) fr G Z:=by
 refine Ret_rounds (fun s:Nat×Option Addr×Nat=>m-s.1) (fun s fr' G'=>s.1≤m∧Chg [] H G'∧Own H.length G' encI 1 s.2.1 s.2.2 (bitsN x s.1)∧fr' 9=.slice s.2.1 (bitsN x s.1).length s.2.2∧fr' 30=.int .i64 (m:Int)∧fr' 31=.int .i64 (s.1:Int)∧(∀j,j≤8→fr' j=fr j)) (0,none,0)
  ⟨Nat.zero_le _,hC,.nil,by rw [f9];rfl,f30,by rw [f31];rfl,fun _ _=>rfl⟩ ?_
 rintro ⟨i,pw,cw⟩ fr' G' ⟨hi,hC',hO,g9,g30,g31,hfr⟩ hN
 simp only at hi hO g9 g31
 rw [Ret_code l4_3.eq_1]
 have g2:=(hfr 2 (by decide)).trans f2
 refine Ret_pad ?_
 by_cases hlt:i<m
 case neg=>
  obtain rfl:i=m:=by omega
  simp only [n4,r4,g2,g9,g30,g31,hlt,SB,Nat.reduceLT,callee,aOp,ne_eq,Nat.reduceEqDiff,aBin,aUn,if_true,if_false,reduceCtorEq,frame0,place,notTuple,Nat.reduceAdd,Nat.reduceLeDiff,resVal,dite_true,dite_false,Int.reduceEq,Int.reduceLT,Int.reduceLE]
  exact hR _ _ pw cw hC'.app (hO.app _) (by simp only [g9,FB,Nat.reduceEqDiff]) fun j hj=>by
   rw [←hfr j hj]
   simp only [upd]
   repeat rw [if_neg (by omega)]
 have hbit:=bit16 hx (show i<16 by omega)
 have hb2:x / 2 ^ i % 2<2:=Nat.mod_lt _ (by decide)
 have wi:IntKind.i64.wrap ((i:Int)+1)=((i+1:Nat):Int):=wrap_nat (by omega)
 have eb:bitsN x (i+1)=if x / 2 ^ i % 2=1 then bitsN x i++[(i:Int)] else bitsN x i:=rfl
 have hfr':∀(f:Nat→Value),(∀j,j≤8→f j=fr' j)→∀j,j≤8→f j=fr j:=fun f h j hj=>(h j hj).trans (hfr j hj)
 generalize x / 2 ^ i % 2=b at hbit hb2 eb
 by_cases h1:b=1
 case neg=>
  rw [if_neg h1] at eb
  have h1':=eq_false (show ¬((b:Nat):Int)=1 by omega)
  simp only [n4,r4,g2,g9,g30,g31,hlt,hbit,h1',eq_false h1,wi,SB,Nat.reduceLT,callee,aOp,ne_eq,Nat.reduceEqDiff,aBin,aUn,if_true,if_false,reduceCtorEq,frame0,place,notTuple,Nat.reduceAdd,Nat.reduceLeDiff,resVal,dite_true,dite_false,Int.reduceEq,Int.reduceLT,Int.reduceLE]
  exact hN (i+1,pw,cw) _ _ ⟨by show i+1≤m;omega,hC'.app,by simp only [eb];exact hO.app _,by simp only [eb];exact (by simp only [g9,FB,Nat.reduceEqDiff]),(by simp only [g30,FB,Nat.reduceEqDiff]),by rfl,hfr' _ fun j hj=>by
   simp only [upd]
   repeat rw [if_neg (by omega)]⟩ (by show m-(i+1)<m-i;omega)
 rw [if_pos h1] at eb
 have hlen:=bitsN_len (x:=x) i
 obtain ⟨G4,e4,O4,C4,hl4⟩:=Own.moreF hO (lim':=lim) (bytes:=8) (by omega) encI_len (by decide) [(i:Int)] (by simp) (by simp;unfold maxBytes;omega) (by simp;omega) [.cells false [.int .i64 (i:Int)]] (x:=.slice (some ⟨G'.length,0,none⟩) 1 1) (str:=false)
  (first_slice (m:=[(i:Int)]) (Sl.row (ro:=false) encI_len (by rw [hget_new0];rfl))) rfl
 have hlG:=hC'.len
 have hpw:∀j,j∈opB pw→H.length≤j:=fun j hj=>by
  cases hpe:pw with
  | none=>rw [hpe] at hj;cases hj
  | some a=>rw [hpe] at hj;have:=hO.block hpe;simp [opB] at hj;omega
 generalize hp':(G'++[Blk.cells false [.int .i64 (i:Int)]]).length=r at e4 O4 hl4
 have hr':G'.length≤r:=by rw [←hp'];simp
 generalize loose 1=c' at e4 O4
 simp only [List.length_cons,List.length_nil,Nat.zero_add] at e4
 have h1':=eq_true (show ((b:Nat):Int)=1 by omega)
 simp only [n4,r4,g2,g9,g30,g31,hlt,hbit,h1',eq_true h1,wi,e4,SB,Nat.reduceLT,callee,aOp,ne_eq,Nat.reduceEqDiff,aBin,aUn,if_true,if_false,reduceCtorEq,frame0,place,notTuple,Nat.reduceAdd,Nat.reduceLeDiff,resVal,dite_true,dite_false,Int.reduceEq,Int.reduceLT,Int.reduceLE]
 exact hN (i+1,some ⟨r,0,none⟩,c') _ _ ⟨by show i+1≤m;omega,(hC'.trans' C4 fun j hj hjl=>by have:=hpw j hj;omega).app,by simp only [eb];exact (O4.le (by omega)).app _,by simp only [eb,List.length_append,List.length_singleton];rfl,(by simp only [g30,FB,Nat.reduceEqDiff]),by rfl,hfr' _ fun j hj=>by
  simp only [upd]
  repeat rw [if_neg (by omega)]⟩ (by show m-(i+1)<m-i;omega)
theorem time_mono {es:List Ev} (h:EvsOk es):∀d i,i+d<es.length→(gt es i).time≤(gt es (i+d)).time
 | 0,i,_=>Int.le_refl _
 | d+1,i,hd=>by
   have h1:=time_mono h d i (by omega)
   have h2:=((h (i+(d+1)) hd).2.2.2 (by omega)).2
   rw [show i+(d+1)-1=i+d by omega] at h2
   exact Int.le_trans h1 h2
theorem item_same {es:List Ev} (h:EvsOk es):∀i,i<es.length→(gt es i).item=(gt es 0).item
 | 0,_=>rfl
 | i+1,hi=>((h (i+1) hi).2.2.2 (by omega)).1
theorem two_right {es:List Ev} (h:EvsOk es) {i j:Nat} (hij:i<j) (hj:j<es.length):EvsOk [gt es i,gt es j]:=fun k hk=>by
 have a:=h i (by omega)
 have b:=h j hj
 have k2:k=0∨k=1:=by simp at hk;omega
 rcases k2 with rfl | rfl
 ·exact ⟨a.1,a.2.1,a.2.2.1,fun h0=>absurd h0 (by decide)⟩
 ·refine ⟨b.1,b.2.1,b.2.2.1,fun _=>⟨?_, ?_⟩⟩
  ·show (gt es j).item=(gt es i).item
   rw [item_same h j hj,item_same h i (by omega)]
  ·have:=time_mono h (j-i) i (by omega)
   rw [show i+(j-i)=j by omega] at this
   exact this
theorem two_err {P:List Int} {L:List Leg} {es:List Ev} (h:errI P L es=0) {i j:Nat} (hij:i<j) (hj:j<es.length):errI P L [gt es i,gt es j]=0:=by
 obtain ⟨h1,h2,h3⟩:=errI_0 h
 unfold errI
 rw [if_neg (by rw [h1];simp),if_neg (by simp),if_pos (two_right h3 hij hj)]
theorem P5_pos {b:Int} (h1:1≤b) (h5:b≤5):posN P5 b<5∧∀i,i<5→(gt P5 i=b↔i=posN P5 b):=by
 have:b=1∨b=2∨b=3∨b=4∨b=5:=by omega
 rcases this with rfl | rfl | rfl | rfl | rfl<;>exact ⟨by decide,by decide⟩
theorem P5_not {b:Int} (h:5<b):b∉P5:=fun hm=>by
 simp [P5] at hm
 omega
def wantN (T:List Int) (b:Ev) (k:Nat):Int:=if posN P5 b.place<k∧0≤gt T (posN P5 b.place) then min (max (gt T (posN P5 b.place)-b.time) 0) 60 else 80
theorem arr_loop [OB] {lim b17 c1 c2:Nat} {o:Bool} {pp q:Option Addr} {T:List Int} {b:Ev} {H:Heap} {fr:Nat→Value} {K:List AItem} {Z:Value→Heap→Prop} (h1:1≤b.place) (h5:b.place≤5) (sP:Sl H encI 1 pp P5) (sT:Sl H encI 1 q T) (hT:T.length=5) (hb:0≤b.time∧b.time≤maxTime) (hx:∀x∈T,-1≤x∧x≤maxTime)
  (h17:hget H b17=.cells o (encE b)) (f17:fr 17=.pointer (some ⟨b17,0,none⟩)) (f20:fr 20=.int .i64 80) (f21:fr 21=.slice q 5 c1) (f183:fr 183=.slice pp 5 c2) (f184:fr 184=.int .i64 5) (f185:fr 185=.int .i64 0)
  (hR:∀fr' G',Ext H G'→fr' 20=.int .i64 (wantN T b 5)→(∀j,(j<20∨(24<j∧j<182))→fr' j=fr j)→Ret E a4 lim K fr' G' Z) :
  Ret E a4 lim (.code (.loop l4_1)::.inBlock 5::K) fr H Z:=by
 obtain ⟨hp5,hpi⟩:=P5_pos h1 h5
 refine Ret_rounds (fun i=>5-i) (fun i fr' G=>i≤5∧Ext H G∧fr' 20=.int .i64 (wantN T b i)∧fr' 21=.slice q 5 c1∧fr' 183=.slice pp 5 c2∧fr' 184=.int .i64 5∧fr' 185=.int .i64 (i:Int)∧(∀j,(j<20∨(24<j∧j<182))→fr' j=fr j)) 0
  ⟨Nat.zero_le _,Ext.refl,by rw [f20];unfold wantN;rw [if_neg (by omega)],f21,f183,f184,by rw [f185];rfl,fun _ _=>rfl⟩ ?_
 intro i fr' G ⟨hi,hE,g20,g21,g183,g184,g185,hfr⟩ hN
 rw [Ret_code l4_1.eq_1]
 have g17:=(hfr 17 (by decide)).trans f17
 refine Ret_pad ?_
 by_cases hlt:i<5
 case neg=>
  obtain rfl:i=5:=by omega
  simp only [n4,r4,g20,g21,g183,g184,g185,SB,Nat.reduceLT,callee,aOp,ne_eq,Nat.reduceEqDiff,aBin,aUn,if_true,if_false,reduceCtorEq,frame0,place,notTuple,Nat.reduceAdd,Nat.reduceLeDiff,resVal,dite_true,dite_false,Int.reduceEq,Int.reduceLT,Int.reduceLE]
  exact hR _ _ hE.app (by simp only [g20,FB,Nat.reduceEqDiff]) (fun j hj=>by
   rw [←hfr j hj]
   simp only [upd]
   repeat rw [if_neg (by omega)])
 have hli:=eq_true (show (i:Int)<5 by omega)
 have l1:=ld_ints (i:=i) (hE.sl sP) hlt
 have x1:=ix_ints (i:=i) (hE.sl sP) hlt rfl
 have l2:=ld_ints (i:=i) (hE.sl sT) (by omega)
 have x2:=ix_ints (i:=i) (hE.sl sT) hlt hT
 have hw1:IntKind.i64.wrap ((i:Int)+1)=((i+1:Nat):Int):=wrap_nat (by omega)
 have r17:=fun X=>(Ext.refl.app (X:=X)).cells (hE.cells h17)
 have hfr':∀(f:Nat→Value),(∀j,(j<20∨(24<j∧j<182))→f j=fr' j)→∀j,(j<20∨(24<j∧j<182))→f j=fr j:=fun f h j hj=>(h j hj).trans (hfr j hj)
 have hxi:=hx _ (gt_mem (l:=T) (i:=i) (by omega))
 have mt:maxTime=1051898399:=rfl
 have ws:IntKind.i64.wrap (gt T i-b.time)=gt T i-b.time:=wrap_id (by omega) (by omega)
 have hpi':=hpi i hlt
 by_cases he:gt P5 i=b.place
 ·have hip:=hpi'.1 he
  by_cases h0:0≤gt T i
  ·simp only [n4,r4,g17,g20,g21,g183,g184,g185,hli,l1,l2,x1,x2,r17,encE_len,encE_0,encE_1,encE_2,encE_3,encE_4,encE_5,encE_6,hw1,eq_true he,eq_true h0,ws,max_v,min_v,SB,Nat.reduceLT,callee,aOp,ne_eq,Nat.reduceEqDiff,aBin,aUn,if_true,if_false,reduceCtorEq,frame0,place,notTuple,Nat.reduceAdd,Nat.reduceLeDiff,resVal,dite_true,dite_false,Int.reduceEq,Int.reduceLT,Int.reduceLE]
   exact hN (i+1) _ _ ⟨by omega,hE.app,by
    have e:wantN T b (i+1)=min (max (gt T i-b.time) 0) 60:=by unfold wantN;rw [←hip,if_pos ⟨by omega,h0⟩]
    rw [e];exact (by simp only [FB,Nat.reduceEqDiff]),(by simp only [g21,FB,Nat.reduceEqDiff]),(by simp only [g183,FB,Nat.reduceEqDiff]),(by simp only [g184,FB,Nat.reduceEqDiff]),(by simp only [FB,Nat.reduceEqDiff]),hfr' _ fun j hj=>by
    simp only [upd]
    repeat rw [if_neg (by omega)]⟩ (by omega)
  ·simp only [n4,r4,g17,g20,g21,g183,g184,g185,hli,l1,l2,x1,x2,r17,encE_len,encE_0,encE_1,encE_2,encE_3,encE_4,encE_5,encE_6,hw1,eq_true he,eq_false h0,ws,max_v,min_v,SB,Nat.reduceLT,callee,aOp,ne_eq,Nat.reduceEqDiff,aBin,aUn,if_true,if_false,reduceCtorEq,frame0,place,notTuple,Nat.reduceAdd,Nat.reduceLeDiff,resVal,dite_true,dite_false,Int.reduceEq,Int.reduceLT,Int.reduceLE]
   exact hN (i+1) _ _ ⟨by omega,hE.app,by
    have e:wantN T b (i+1)=wantN T b i:=by unfold wantN;rw [←hip,if_neg (fun h=>h0 h.2),if_neg (fun h=>h0 h.2)]
    rw [e];exact (by simp only [g20,FB,Nat.reduceEqDiff]),(by simp only [g21,FB,Nat.reduceEqDiff]),(by simp only [g183,FB,Nat.reduceEqDiff]),(by simp only [g184,FB,Nat.reduceEqDiff]),(by simp only [FB,Nat.reduceEqDiff]),hfr' _ fun j hj=>by
    simp only [upd]
    repeat rw [if_neg (by omega)]⟩ (by omega)
 ·simp only [n4,r4,g17,g20,g21,g183,g184,g185,hli,l1,l2,x1,x2,r17,encE_len,encE_0,encE_1,encE_2,encE_3,encE_4,encE_5,encE_6,hw1,eq_false he,ws,max_v,min_v,SB,Nat.reduceLT,callee,aOp,ne_eq,Nat.reduceEqDiff,aBin,aUn,if_true,if_false,reduceCtorEq,frame0,place,notTuple,Nat.reduceAdd,Nat.reduceLeDiff,resVal,dite_true,dite_false,Int.reduceEq,Int.reduceLT,Int.reduceLE]
  exact hN (i+1) _ _ ⟨by omega,hE.app,by
   have e:wantN T b (i+1)=wantN T b i:=by
    have:i≠posN P5 b.place:=fun h=>he (hpi'.2 h)
    unfold wantN
    simp only [show (posN P5 b.place<i+1)=(posN P5 b.place<i) from propext ⟨fun h=>by omega,fun h=>by omega⟩]
   rw [e];exact (by simp only [g20,FB,Nat.reduceEqDiff]),(by simp only [g21,FB,Nat.reduceEqDiff]),(by simp only [g183,FB,Nat.reduceEqDiff]),(by simp only [g184,FB,Nat.reduceEqDiff]),(by simp only [FB,Nat.reduceEqDiff]),hfr' _ fun j hj=>by
   simp only [upd]
   repeat rw [if_neg (by omega)]⟩ (by omega)
theorem price_want {L:List Leg} {a b:Ev} {T:List Int} (hv:validN P5 L=0) (h4:a.kind≠4) (hne:a.place≠b.place) (ha1:1≤a.place) (ha5:a.place≤5) (hb1:1≤b.place) (hb5:b.place≤5) (ht:0≤a.time∧a.time≤maxTime)
  (hT:arrL P5 L a.place a.time T):priceN P5 L a b=wantN T b 5:=by
 obtain ⟨hp5,_⟩:=P5_pos hb1 hb5
 have hbm:=in_P5 hb1 hb5
 have ham:=in_P5 ha1 ha5
 have he:errA P5 L a.place a.place a.time=0:=by unfold errA;rw [if_neg (by rw [hv];simp),if_pos ⟨ham,ham,ht.1,ht.2⟩]
 have hTq:=hT.2 _ hbm
 rw [←gt_getD (by rw [hT.1];exact hp5)] at hTq
 have ev:=hTq.uniq (arrV_is (valid_net hv) ham hbm ht.1)
 unfold priceN wantN
 rw [if_neg h4,if_neg hne,if_neg (by simpa using hbm),if_neg (by simpa using he),ev]
 by_cases h:arrV P5 L a.place a.time b.place<0
 ·rw [if_pos h,if_neg (fun h'=>by omega)]
 ·rw [if_neg h,if_pos ⟨hp5,by omega⟩]
theorem price_far {L:List Leg} {a b:Ev} (h4:a.kind≠4) (hne:a.place≠b.place) (h:¬(a.place≤5∧b.place≤5)):priceN P5 L a b=80:=by
 unfold priceN
 rw [if_neg h4,if_neg hne]
 by_cases hb:b.place∈P5
 ·rw [if_neg (by simpa using hb),if_pos]
  intro he
  obtain ⟨_,h2,_⟩:=errA_0 he
  exact h ⟨Int.not_lt.1 fun h=>P5_not h h2,Int.not_lt.1 fun h=>P5_not h hb⟩
 ·rw [if_pos hb]
def Nice (es:List Ev):Prop:=∀i,i<es.length→1≤(gt es i).place∧(gt es i).place≤6∧0≤(gt es i).time∧(gt es i).time≤2000000
theorem arr_range {L:List Leg} {p t:Int} {T:List Int} (hv:validN P5 L=0) (h:arrL P5 L p t T) (ht:t≤2000000) (h0:0≤t):∀x∈T,-1≤x∧x≤maxTime:=fun x hx=>by
 obtain ⟨i,hi,rfl⟩:=List.mem_iff_getElem.1 hx
 have h5:i<5:=by rw [h.1] at hi;exact hi
 have key:∀i,i<5→∃q∈P5,posN P5 q=i:=by decide
 obtain ⟨q,hq,e⟩:=key i h5
 have:=h.2 q hq
 rw [e,←gt_getD hi,gt_lt hi] at this
 have mt:maxTime=1051898399:=rfl
 refine ⟨?_,arr_le this (by omega) h0⟩
 rcases this with ⟨e,_⟩ | ⟨⟨⟨j,hw⟩,_⟩,_⟩
 ·omega
 ·have:=hw.later (valid_net hv).fine;omega
theorem eq3 (a b c:Int):aEq (.agg [.int .i64,.int .i64,.int .i64]) (.agg #[.int .i64 a,.int .i64 b,.int .i64 c]) (.agg #[.int .i64 a,.int .i64 b,.int .i64 c])=some true:=by
 simp [aEq,cellsEq,cellEq]
theorem steps_loop [OB] {lim A7 cl cq ck cr:Nat} {pp pl q qk r:Option Addr} {L:List Leg} {es:List Ev} {ks:List Int} {c0:Int} {H:Heap} {fr:Nat→Value} {K:List AItem} {Z:Value→Heap→Prop} (hlim:lim≤H.length) (hN0:NetIn H pp pl P5 L) (he:errI P5 L es=0) (hni:Nice es) (hks:KsOk es.length ks) (hk10:ks.length≤10)
  (h7:hget H A7=.cells false (netV pp 5 5 pl L.length cl)) (sE:Sl H encE 7 q es) (sK:Sl H encI 1 qk ks) (sR:Sl H enc3 3 r (stepsN P5 L es ks)) (hc0:0≤c0∧c0≤1000)
  (f7:fr 7=.pointer (some ⟨A7,0,none⟩)) (f8:fr 8=.slice q es.length cq) (f9:fr 9=.slice qk ks.length ck) (f13:fr 13=.int .i64 c0) (f90:fr 90=.slice r (stepsN P5 L es ks).length cr) (f91:fr 91=.int .i64 ((ks.length-1:Nat):Int)) (f92:fr 92=.int .i64 0)
  (hR:∀fr' G',Ext H G'→fr' 11=fr 11→fr' 13=.int .i64 (c0+sumN (stepsN P5 L es ks))→Ret E a4 lim K fr' G' Z) :
  Ret E a4 lim (.code (.loop l4_2)::.inBlock 2::K) fr H Z:=by
 have esl:(stepsN P5 L es ks).length=ks.length-1:=by simp [stepsN]
 refine Ret_rounds (fun i=>ks.length-1-i) (fun i fr' G=>i≤ks.length-1∧Ext H G∧(∀j,j<13→fr' j=fr j)∧fr' 13=.int .i64 (c0+sumN ((List.range i).map (stepN P5 L es ks)))∧fr' 90=fr 90∧fr' 91=fr 91∧fr' 92=.int .i64 (i:Int)) 0
  ⟨Nat.zero_le _,Ext.refl,fun _ _=>rfl,by rw [f13];simp [sumN],rfl,rfl,by rw [f92];rfl⟩ ?_
 intro i fr' G ⟨hi,hE,hfr,g13,g90,g91,g92⟩ hN
 rw [Ret_code l4_2.eq_1]
 rw [f90] at g90
 rw [f91] at g91
 have g7:=(hfr 7 (by decide)).trans f7
 have g8:=(hfr 8 (by decide)).trans f8
 have g9:=(hfr 9 (by decide)).trans f9
 have g11:=hfr 11 (by decide)
 have hb:=sumN_range (P:=P5) (L:=L) (es:=es) (ks:=ks) i
 have hfr':∀(f:Nat→Value),(∀j,j<13→f j=fr' j)→∀j,j<13→f j=fr j:=fun f h j hj=>(h j hj).trans (hfr j hj)
 refine Ret_pad ?_
 by_cases hlt:i<ks.length-1
 case neg=>
  obtain rfl:i=ks.length-1:=by omega
  have hnlt:=eq_false (show ¬((ks.length-1:Nat):Int)<((ks.length-1:Nat):Int) by omega)
  simp only [n4,r4,g13,g90,g91,g92,hnlt,SB,Nat.reduceLT,callee,aOp,ne_eq,Nat.reduceEqDiff,aBin,aUn,if_true,if_false,reduceCtorEq,frame0,place,notTuple,Nat.reduceAdd,Nat.reduceLeDiff,resVal,dite_true,dite_false,Int.reduceEq,Int.reduceLT,Int.reduceLE]
  exact hR _ _ hE.app (by simp only [g11,FB,Nat.reduceEqDiff]) (by rw [show stepsN P5 L es ks=(List.range (ks.length-1)).map (stepN P5 L es ks) from rfl];exact (by simp only [g13,FB,Nat.reduceEqDiff]))
 have hli:=eq_true (show (i:Int)<((ks.length-1:Nat):Int) by omega)
 have hi1:i<ks.length:=by omega
 have hi2:i+1<ks.length:=by omega
 have k1:=hks.2 i hi1
 have k2:=hks.2 (i+1) hi2
 have k3:=k2.2.2 (by omega)
 rw [Nat.add_sub_cancel] at k3
 obtain ⟨a,ha⟩:∃a:Nat,gt ks i=a:=⟨_,(Int.toNat_of_nonneg k1.1).symm⟩
 obtain ⟨b,hb'⟩:∃b:Nat,gt ks (i+1)=b:=⟨_,(Int.toNat_of_nonneg k2.1).symm⟩
 have hae:a<es.length:=by have:=k1.2.1;omega
 have hbe:b<es.length:=by have:=k2.2.1;omega
 have hab:a<b:=by omega
 have hstep:gt (stepsN P5 L es ks) i=((a:Int),(b:Int),priceN P5 L (gt es a) (gt es b)):=by
  rw [gt_lt (by omega)];simp [stepsN,stepN,ha,hb']
 have hsum:sumN ((List.range (i+1)).map (stepN P5 L es ks))=sumN ((List.range i).map (stepN P5 L es ks))+priceN P5 L (gt es a) (gt es b):=by
  rw [List.range_succ,List.map_append,List.map_singleton,sumN_snoc]
  simp [stepN,ha,hb']
 have hel:es.length≤40:=(errI_0 he).2.1
 have hpr:=priceN_range (P:=P5) (L:=L) (a:=gt es a) (b:=gt es b)
 have hPrice:∀(X:Heap) (mp:Bool) (lim:Nat) (Q:Value→Heap→Prop),CallR E mp lim 14 [.agg (netV pp 5 5 pl L.length cl).toArray,.agg (encE (gt es a)).toArray,.agg (encE (gt es b)).toArray] (G++X) Q=Q (.tuple #[.int .i64 (priceN P5 L (gt es a) (gt es b)),.int .i64 0]) (G++X):=fun X mp lim Q=>by
  have:=Price_ok (mp:=mp) (lim:=lim) (cp:=5) (cl:=cl) (a:=gt es a) (b:=gt es b) (Q:=Q) ((hN0.ext hE).app X)
  rw [two_err he hab hbe,if_pos rfl] at this
  exact this
 have sK':=hE.sl sK
 have sE':=hE.sl sE
 have sR':=hE.sl sR
 have l1:=ld_ints (i:=i) sK' hi1
 rw [ha] at l1
 have x1:=ix_ints (i:=i) sK' hi1 rfl
 have l2:=ld_ints (i:=i+1) sK' hi2
 rw [hb'] at l2
 have x2:=ix_ints (i:=i+1) sK' hi2 rfl
 have lR:=fun X=>(sR'.app X).loadCells enc3_len (show i<(stepsN P5 L es ks).length by omega)
 rw [hstep] at lR
 simp only [enc3] at lR
 have hlG:lim≤G.length:=Nat.le_trans hlim hE.len
 have xR:=fun c (kk:IntKind) (H1:Heap)=>sR'.idx (c:=c) (k:=kk) (H1:=H1) (show i<(stepsN P5 L es ks).length by omega)
 have la:=fun X=>(sE'.app X).loadCells encE_len hae
 have xa:=fun c (kk:IntKind) (H1:Heap)=>sE'.idx (c:=c) (k:=kk) (H1:=H1) hae
 have lb:=fun X=>(sE'.app X).loadCells encE_len hbe
 have xb:=fun c (kk:IntKind) (H1:Heap)=>sE'.idx (c:=c) (k:=kk) (H1:=H1) hbe
 have h7X:=fun X=>(Ext.refl.app (X:=X)).cells (hE.cells h7)
 have w1:IntKind.i64.wrap ((i:Int)+1)=((i+1:Nat):Int):=wrap_nat (by omega)
 have w2:IntKind.i64.wrap (c0+sumN ((List.range i).map (stepN P5 L es ks))+priceN P5 L (gt es a) (gt es b))=c0+sumN ((List.range (i+1)).map (stepN P5 L es ks)):=by
  rw [hsum,wrap_id (by omega) (by omega)];omega
 have na:=hni a hae
 have nb:=hni b hbe
 obtain ⟨hval,_,hev⟩:=errI_0 he
 generalize hEA:gt es a=ea at *
 generalize hEB:gt es b=eb at *
 generalize hp:priceN P5 L ea eb=pr at *
 generalize hS:c0+sumN ((List.range (i+1)).map (stepN P5 L es ks))=s1 at *
 by_cases h4:ea.kind=4
 ·obtain rfl:pr=80:=by rw [←hp];unfold priceN;rw [if_pos h4]
  simp only [n4,hlG,r4,g7,g8,g9,g13,g90,g91,g92,hli,l1,l2,x1,x2,lR,xR,la,xa,lb,xb,h7X,w1,w2,netV_len,netV_0,netV_1,encE_len,encE_0,encE_1,encE_2,encE_3,encE_4,encE_5,encE_6,hPrice,setAll_full,eq3,Bool.not_true,h4,SB,Nat.reduceLT,callee,aOp,ne_eq,Nat.reduceEqDiff,aBin,aUn,if_true,if_false,reduceCtorEq,frame0,place,notTuple,Nat.reduceAdd,Nat.reduceLeDiff,resVal,dite_true,dite_false,Int.reduceEq,Int.reduceLT,Int.reduceLE]
  exact hN (i+1) _ _ ⟨by omega,hE.app,hfr' _ fun j hj=>by
   simp only [upd]
   repeat rw [if_neg (by omega)],by rw [hS];exact (by simp only [FB,Nat.reduceEqDiff]),(by simp only [g90,f90,FB,Nat.reduceEqDiff]),(by simp only [g91,f91,FB,Nat.reduceEqDiff]),(by simp only [FB,Nat.reduceEqDiff])⟩ (by omega)
 by_cases hpl:ea.place=eb.place
 ·obtain rfl:pr=0:=by rw [←hp];unfold priceN;rw [if_neg h4,if_pos hpl]
  simp only [n4,hlG,r4,g7,g8,g9,g13,g90,g91,g92,hli,l1,l2,x1,x2,lR,xR,la,xa,lb,xb,h7X,w1,w2,netV_len,netV_0,netV_1,encE_len,encE_0,encE_1,encE_2,encE_3,encE_4,encE_5,encE_6,hPrice,setAll_full,eq3,Bool.not_true,eq_false h4,eq_true hpl,SB,Nat.reduceLT,callee,aOp,ne_eq,Nat.reduceEqDiff,aBin,aUn,if_true,if_false,reduceCtorEq,frame0,place,notTuple,Nat.reduceAdd,Nat.reduceLeDiff,resVal,dite_true,dite_false,Int.reduceEq,Int.reduceLT,Int.reduceLE]
  exact hN (i+1) _ _ ⟨by omega,hE.app,hfr' _ fun j hj=>by
   simp only [upd]
   repeat rw [if_neg (by omega)],by rw [hS];exact (by simp only [FB,Nat.reduceEqDiff]),(by simp only [g90,f90,FB,Nat.reduceEqDiff]),(by simp only [g91,f91,FB,Nat.reduceEqDiff]),(by simp only [FB,Nat.reduceEqDiff])⟩ (by omega)
 by_cases ha5:ea.place<6
 case neg=>
  obtain rfl:pr=80:=by rw [←hp];exact price_far h4 hpl fun h=>by omega
  simp only [n4,hlG,r4,g7,g8,g9,g13,g90,g91,g92,hli,l1,l2,x1,x2,lR,xR,la,xa,lb,xb,h7X,w1,w2,netV_len,netV_0,netV_1,encE_len,encE_0,encE_1,encE_2,encE_3,encE_4,encE_5,encE_6,hPrice,setAll_full,eq3,Bool.not_true,eq_false h4,eq_false hpl,eq_false ha5,SB,Nat.reduceLT,callee,aOp,ne_eq,Nat.reduceEqDiff,aBin,aUn,if_true,if_false,reduceCtorEq,frame0,place,notTuple,Nat.reduceAdd,Nat.reduceLeDiff,resVal,dite_true,dite_false,Int.reduceEq,Int.reduceLT,Int.reduceLE]
  exact hN (i+1) _ _ ⟨by omega,hE.app,hfr' _ fun j hj=>by
   simp only [upd]
   repeat rw [if_neg (by omega)],by rw [hS];exact (by simp only [FB,Nat.reduceEqDiff]),(by simp only [g90,f90,FB,Nat.reduceEqDiff]),(by simp only [g91,f91,FB,Nat.reduceEqDiff]),(by simp only [FB,Nat.reduceEqDiff])⟩ (by omega)
 by_cases hb5:eb.place<6
 case neg=>
  obtain rfl:pr=80:=by rw [←hp];exact price_far h4 hpl fun h=>by omega
  simp only [n4,hlG,r4,g7,g8,g9,g13,g90,g91,g92,hli,l1,l2,x1,x2,lR,xR,la,xa,lb,xb,h7X,w1,w2,netV_len,netV_0,netV_1,encE_len,encE_0,encE_1,encE_2,encE_3,encE_4,encE_5,encE_6,hPrice,setAll_full,eq3,Bool.not_true,eq_false h4,eq_false hpl,eq_true ha5,eq_false hb5,SB,Nat.reduceLT,callee,aOp,ne_eq,Nat.reduceEqDiff,aBin,aUn,if_true,if_false,reduceCtorEq,frame0,place,notTuple,Nat.reduceAdd,Nat.reduceLeDiff,resVal,dite_true,dite_false,Int.reduceEq,Int.reduceLT,Int.reduceLE]
  exact hN (i+1) _ _ ⟨by omega,hE.app,hfr' _ fun j hj=>by
   simp only [upd]
   repeat rw [if_neg (by omega)],by rw [hS];exact (by simp only [FB,Nat.reduceEqDiff]),(by simp only [g90,f90,FB,Nat.reduceEqDiff]),(by simp only [g91,f91,FB,Nat.reduceEqDiff]),(by simp only [FB,Nat.reduceEqDiff])⟩ (by omega)
 simp only [n4,hlG,r4,g7,g8,g9,g13,g90,g91,g92,hli,l1,l2,x1,x2,lR,xR,la,xa,lb,xb,h7X,w1,w2,netV_len,netV_0,netV_1,encE_len,encE_0,encE_1,encE_2,encE_3,encE_4,encE_5,encE_6,hPrice,setAll_full,eq3,Bool.not_true,eq_false h4,eq_false hpl,eq_true ha5,eq_true hb5,SB,Nat.reduceLT,callee,aOp,ne_eq,Nat.reduceEqDiff,aBin,aUn,if_true,if_false,reduceCtorEq,frame0,place,notTuple,Nat.reduceAdd,Nat.reduceLeDiff,resVal,dite_true,dite_false,Int.reduceEq,Int.reduceLT,Int.reduceLE]
 have heA:errA P5 L ea.place ea.place ea.time=0:=by
  have:=in_P5 na.1 (by omega)
  have mt:maxTime=1051898399:=rfl
  unfold errA;rw [if_neg (by rw [hval];simp),if_pos ⟨this,this,na.2.2.1,by omega⟩]
 refine Arrive_ok (P:=P5) (cp:=5) (cl:=cl) ((hN0.ext hE).app _) (by simp;omega) (fun _ h=>absurd heA h) fun G2 qt T _ hC2 hT hO2 hTl=>?_
 have hE2:Ext H G2:=hE.trans hC2.pre.ext
 have kA:=hC2.cells (show hget (G++[.cells false [.int .i64 (a:Int),.int .i64 (b:Int),.int .i64 pr],.cells false (encE ea),.cells false (encE eb)]) (G.length+2)=.cells false (encE eb) by rw [hget_new];rfl) (by simp)
 have kAX:=fun X=>(Ext.refl.app (X:=X)).cells kA
 have h7X2:=fun X=>(Ext.refl.app (X:=X)).cells (hE2.cells h7)
 have hT5:T.length=5:=hTl
 have e5:P5.length=5:=rfl
 have sT:=hO2.sl encI_len
 have hrng:=arr_range hval hT na.2.2.2 na.2.2.1
 have mt:maxTime=1051898399:=rfl
 refine Ret_pad ?_
 simp only [n4,r4,netV_len,netV_0,netV_1,e5,kAX,h7X2,g7,take_all,SB,Nat.reduceLT,callee,aOp,ne_eq,Nat.reduceEqDiff,aBin,aUn,if_true,if_false,reduceCtorEq,frame0,place,notTuple,Nat.reduceAdd,Nat.reduceLeDiff,resVal,dite_true,dite_false,Int.reduceEq,Int.reduceLT,Int.reduceLE]
 refine arr_loop (c1:=loose 1) (c2:=5) (b17:=G.length+2) (b:=eb) nb.1 (by omega) ((hN0.ext hE2).sp.app _) (sT.app _) hT5 ⟨nb.2.2.1,by omega⟩ hrng ((Ext.refl.app).cells kA) (by simp only [FB,Nat.reduceEqDiff]) (by simp only [FB,Nat.reduceEqDiff]) (by simp only [FB,Nat.reduceEqDiff]) (by simp only [FB,Nat.reduceEqDiff]) (by simp only [FB,Nat.reduceEqDiff]) (by simp only [FB,Nat.reduceEqDiff]) fun fr1 G3 hE3 f20 hfr1=>?_
 have ep:pr=wantN T eb 5:=by rw [←hp];exact price_want hval h4 hpl na.1 (by omega) nb.1 (by omega) ⟨na.2.2.1,by omega⟩ hT
 rw [←ep] at f20
 have hE4:Ext H G3:=(hE2.app).trans hE3
 have f18:fr1 18=.int .i64 pr:=(hfr1 18 (by omega)).trans (by simp only [FB,Nat.reduceEqDiff])
 have f13':fr1 13=.int .i64 s1:=(hfr1 13 (by omega)).trans (by simp only [FB,Nat.reduceEqDiff])
 have f90':fr1 90=fr 90:=(hfr1 90 (by omega)).trans (by simp only [g90,f90,FB,Nat.reduceEqDiff])
 have f91':fr1 91=fr 91:=(hfr1 91 (by omega)).trans (by simp only [g91,f91,FB,Nat.reduceEqDiff])
 have f92':fr1 92=.int .i64 (i:Int):=(hfr1 92 (by omega)).trans (by simp only [g92,FB,Nat.reduceEqDiff])
 have f00:∀j,j<13→fr1 j=fr' j:=fun j hj=>by
  rw [hfr1 j (by omega)]
  simp only [upd]
  repeat rw [if_neg (by omega)]
 refine Ret_pad ?_
 simp only [n4,r4,f18,f20,f13',f92',w1,SB,Nat.reduceLT,callee,aOp,ne_eq,Nat.reduceEqDiff,aBin,aUn,if_true,if_false,reduceCtorEq,frame0,place,notTuple,Nat.reduceAdd,Nat.reduceLeDiff,resVal,dite_true,dite_false,Int.reduceEq,Int.reduceLT,Int.reduceLE]
 exact hN (i+1) _ _ ⟨by omega,hE4.app,hfr' _ fun j hj=>by
  rw [←f00 j hj]
  simp only [upd]
  repeat rw [if_neg (by omega)],by rw [hS];exact (by simp only [f13',FB,Nat.reduceEqDiff]),(by simp only [f90',FB,Nat.reduceEqDiff]),(by simp only [f91',FB,Nat.reduceEqDiff]),(by simp only [FB,Nat.reduceEqDiff])⟩ (by omega)
theorem seen_nice {ls:List Lk} (hb:∀x∈ls,ByK x) {m:Nat} (hm:m≤ls.length) (h10:m≤10):Nice (seenN ls m):=fun i hi=>by
 rw [seenN_len] at hi
 have hby:=hb _ (gt_mem (l:=ls) (i:=i) (by omega))
 have t1:=timeN_bnd hb (i+1) (by omega)
 have ta1:=Int.tmod_lt_of_pos (gt ls i).a (show (0:Int)<6 by decide)
 have ta2:=Int.tmod_nonneg (6:Int) hby.1.1
 rw [seenN_get hi]
 show 1≤1+(gt ls i).a.tmod 6∧1+(gt ls i).a.tmod 6≤6∧0≤timeN ls (i+1)∧timeN ls (i+1)≤2000000
 omega
theorem Prices_ok [OB] {mp:Bool} {lim c c2 x:Nat} {p p2:Option Addr} {rs:List RL} {ls:List Lk} {H:Heap} {Q:Value→Heap→Prop} (hs:Sl H encR 6 p rs) (hb:∀x∈rs,ByR x) (hl:rs.length<2 ^ 63) (hc:CapOk 6 c rs.length)
  (hs2:Sl H encK 3 p2 ls) (hb2:∀x∈ls,ByK x) (hl2:ls.length<2 ^ 63) (hc2:CapOk 3 c2 ls.length) (hx:x<65536) (hA:OB.on 7=true) :
  CallR E mp lim 4 [.slice p rs.length c,.slice p2 ls.length c2,.int .u16 (x:Int)] H Q=Q (.bool true) H:=by
 refine pc (by decide) e4 rfl rfl ?_
 rw [b4,c4]
 simp only [n4,r4,SB,Nat.reduceLT,callee,aOp,ne_eq,Nat.reduceEqDiff,aBin,aUn,if_true,if_false,reduceCtorEq,frame0,place,notTuple,Nat.reduceAdd,Nat.reduceLeDiff,resVal,dite_true,dite_false,Int.reduceEq,Int.reduceLT,Int.reduceLE]
 refine Net_ok (hs.app _) hb hl hc (by simp) fun G0 pp pl cl hC0 hN0=>?_
 replace hC0:=hC0.pre
 have hn10:min rs.length 10≤10:=by omega
 have hnr:min rs.length 10≤rs.length:=by omega
 generalize min rs.length 10=n at hN0 hn10 hnr⊢
 have hl0:=hC0.len
 refine Ret_pad ?_
 simp only [n4,r4,SB,Nat.reduceLT,callee,aOp,ne_eq,Nat.reduceEqDiff,aBin,aUn,if_true,if_false,reduceCtorEq,frame0,place,notTuple,Nat.reduceAdd,Nat.reduceLeDiff,resVal,dite_true,dite_false,Int.reduceEq,Int.reduceLT,Int.reduceLE]
 refine Seen_ok (k:=10) ((hC0.sl hs2 (by simp)).app _) hb2 hl2 hc2 (by decide) (by simp;omega) fun G1 q cq hC1 hO1=>?_
 replace hC1:=hC1.pre
 have hm10:min ls.length 10≤10:=by omega
 have hml:min ls.length 10≤ls.length:=by omega
 generalize min ls.length 10=m at hO1 hm10 hml⊢
 have hl1:=hC1.len
 have hE1:Ext G0 G1:=hC1.ext
 have hN1:=hN0.ext hE1
 have s1:=hO1.sl encE_len
 have hHG:H.length≤G1.length:=by omega
 refine Ret_pad ?_
 simp only [n4,r4,setAll_full,hHG,netV_len,netV_0,netV_1,take_all,SB,Nat.reduceLT,callee,aOp,ne_eq,Nat.reduceEqDiff,aBin,aUn,if_true,if_false,reduceCtorEq,frame0,place,notTuple,Nat.reduceAdd,Nat.reduceLeDiff,resVal,dite_true,dite_false,Int.reduceEq,Int.reduceLT,Int.reduceLE]
 have herr:errI P5 (netL rs n) (seenN ls m)=0:=err_none hb hb2 hnr hn10 hml (by omega)
 have hnice:=seen_nice hb2 hml hm10
 generalize hes:seenN ls m=es at s1 hO1 herr hnice
 have hel:es.length=m:=by rw [←hes,seenN_len]
 refine bits16_loop (x:=x) (m:=m) (H:=G1++[.cells false (netV pp 5 5 pl (netL rs n).length cl)]) hx (by omega) (by simp;omega) Chg.refl (by simp only [FB,Nat.reduceEqDiff]) (by simp only [FB,Nat.reduceEqDiff]) (by simp only [FB,Nat.reduceEqDiff]) (by simp only [FB,Nat.reduceEqDiff]) fun fr1 G2 qk ck hC2 hO2 g9 hfr1=>?_
 have f7:fr1 7=.pointer (some ⟨G1.length,0,none⟩):=(hfr1 7 (by decide)).trans (by simp only [FB,Nat.reduceEqDiff])
 have f8:fr1 8=.slice q es.length cq:=(hfr1 8 (by decide)).trans (by rw [hel];exact (by simp only [FB,Nat.reduceEqDiff]))
 have k7:hget G2 G1.length=.cells false (netV pp 5 5 pl (netL rs n).length cl):=hC2.cells hget_new0 (by simp)
 have k7X:=fun X=>(Ext.refl.app (X:=X)).cells k7
 have hE2:Ext G1 G2:=hC2.pre.ext
 have hN2:=hN1.ext hE2
 have s2:=hE2.sl s1
 have sK:=hO2.sl encI_len
 have hl2':=hC2.pre.len
 have hasc:=bitsN_asc (x:=x) m
 have hblen:=bitsN_len (x:=x) m
 have hck0:qk=none→ck=0:=fun h=>by
  rcases hO2 with ⟨_,_,h3⟩ | ⟨R,h3,_⟩
  ·exact h3
  ·rw [h] at h3;cases h3
 generalize hbits:bitsN x m=ks at *
 rw [←hel] at hasc
 have hHG2:H.length≤G2.length:=by omega
 refine Ret_pad ?_
 simp only [n4,r4,f7,f8,g9,k7X,netV_len,netV_0,netV_1,take_all,SB,Nat.reduceLT,callee,aOp,ne_eq,Nat.reduceEqDiff,aBin,aUn,if_true,if_false,reduceCtorEq,frame0,place,notTuple,Nat.reduceAdd,Nat.reduceLeDiff,resVal,dite_true,dite_false,Int.reduceEq,Int.reduceLT,Int.reduceLE]
 by_cases h0:ks.length=0∧es.length≠0
 ·have ec:errC P5 (netL rs n) es ks=2:=by
   unfold errC
   rw [if_neg (by rw [herr];simp),if_neg fun h=>h0.2 (h.1 h0.1)]
  refine Cost_ok (P:=P5) (cp:=5) (cl:=cl) (hN2.app _) (by simp;omega) (s2.app _) (by omega) (sK.app _) (by omega) hck0 (fun G3 _ hC3=>?_) fun _ _ _ _ _ h=>absurd (h.symm.trans ec) (by decide)
  rw [ec]
  have hl3:=hC3.pre.len
  have e0:=eq_true (show ((ks.length:Nat):Int)=0 by omega)
  have e1:=eq_true (show (0:Int)<((es.length:Nat):Int) by omega)
  refine Ret_pad ?_
  simp only [n4,r4,f7,f8,g9,setAll_full,(show H.length≤G3.length by omega),e0,e1,awake38_on hA,SB,Nat.reduceLT,callee,aOp,ne_eq,Nat.reduceEqDiff,aBin,aUn,if_true,if_false,reduceCtorEq,frame0,place,notTuple,Nat.reduceAdd,Nat.reduceLeDiff,resVal,dite_true,dite_false,Int.reduceEq,Int.reduceLT,Int.reduceLE]
 have hks:KsOk es.length ks:=⟨fun h=>by omega,of_asc _ hasc⟩
 have ec:errC P5 (netL rs n) es ks=0:=by
  unfold errC
  rw [if_neg (by rw [herr];simp),if_pos hks]
 refine Cost_ok (P:=P5) (cp:=5) (cl:=cl) (hN2.app _) (by simp;omega) (s2.app _) (by omega) (sK.app _) (by omega) hck0 (fun _ h=>absurd ec h) fun G3 q3 c3 r3 cr3 _ hC3 hq3 hr3=>?_
 have hl3:=hC3.pre.len
 have hE3:Ext G2 G3:=hC3.pre.ext
 have s3:=hE3.sl s2
 have sK3:=hE3.sl sK
 have hN3:=hN2.ext hE3
 have hcost:costN P5 (netL rs n) es ks=30*((es.length:Int)-ks.length)+sumN (stepsN P5 (netL rs n) es ks):=rfl
 have esl:(stepsN P5 (netL rs n) es ks).length=ks.length-1:=by simp [stepsN]
 have hsame:∀(X:Heap) (mp:Bool) (lim:Nat) (Q:Value→Heap→Prop),CallR E mp lim 24 [.slice q3 ks.length c3,.slice qk ks.length ck] (G3++X) Q=Q (.bool true) (G3++X):=fun X mp lim Q=>by
  have:=sameints_ok (mp:=mp) (lim:=lim) (ca:=c3) (cb:=ck) (Q:=Q) ((hq3.1).app X) (sK3.app X) (by omega)
  rw [decide_eq_true rfl] at this
  exact this
 have e0:(((ks.length:Nat):Int)=0)→¬(0:Int)<((es.length:Nat):Int):=fun h=>by omega
 have w1:IntKind.i64.wrap (((ks.length:Nat):Int)-1)=(ks.length:Int)-1:=wrap_id (by omega) (by omega)
 have w2:max ((ks.length:Int)-1) 0=((ks.length-1:Nat):Int):=by omega
 have w3:IntKind.i64.wrap ((es.length:Int)-ks.length)=(es.length:Int)-ks.length:=wrap_id (by omega) (by omega)
 have w4:IntKind.i64.wrap (30*((es.length:Int)-ks.length))=30*((es.length:Int)-ks.length):=wrap_id (by omega) (by omega)
 have hHG3:H.length≤G3.length:=by omega
 have hlk:=asc_len hks.2
 refine Ret_pad ?_
 have hE3':=hE3.trans (Ext.refl.app (X:=[.cells false [.slice q3 ks.length c3,.slice r3 (ks.length-1) cr3,.int .i64 (costN P5 (netL rs n) es ks)]]))
 have k7':=hE3'.cells k7
 have k11:hget (G3++[.cells false [.slice q3 ks.length c3,.slice r3 (ks.length-1) cr3,.int .i64 (costN P5 (netL rs n) es ks)]]) G3.length=.cells false [.slice q3 ks.length c3,.slice r3 (ks.length-1) cr3,.int .i64 (costN P5 (netL rs n) es ks)]:=hget_new0
 have fin:∀fr K Z,(∀fr' G',fr' 11=.pointer (some ⟨G3.length,0,none⟩)→hget G' G3.length=.cells false [.slice q3 ks.length c3,.slice r3 (ks.length-1) cr3,.int .i64 (costN P5 (netL rs n) es ks)]→fr' 13=.int .i64 (costN P5 (netL rs n) es ks)→Ret E a4 H.length K fr' G' Z)→fr 7=.pointer (some ⟨G1.length,0,none⟩)→fr 8=.slice q es.length cq→fr 9=.slice qk ks.length ck→fr 11=.pointer (some ⟨G3.length,0,none⟩)→fr 13=.int .i64 (30*((es.length:Int)-ks.length))→fr 90=.slice r3 (ks.length-1) cr3→fr 91=.int .i64 ((ks.length-1:Nat):Int)→fr 92=.int .i64 0→Ret E a4 H.length (.code (.loop l4_2)::.inBlock 2::K) fr (G3++[.cells false [.slice q3 ks.length c3,.slice r3 (ks.length-1) cr3,.int .i64 (costN P5 (netL rs n) es ks)]]) Z:=fun fr K Z hK g7 g8 g9 g11 g13 g90 g91 g92=>by
  refine steps_loop (cr:=cr3) (by simp;omega) (hN3.app _) herr hnice hks (by omega) k7' (s3.app _) (sK3.app _) ((hr3.1).app _) ⟨by omega,by omega⟩ g7 g8 g9 g13 (by rw [esl];exact g90) g91 g92 fun fr' G' hE' h11 h13=>?_
  exact hK fr' G' (h11.trans g11) (hE'.cells k11) (by rw [h13,hcost])
 refine Ret_pad ?_
 by_cases hz:((ks.length:Nat):Int)=0
 ·simp only [n4,r4,f7,f8,g9,setAll_full,hHG3,hsame,w1,w2,w3,w4,esl,max_v,eq_true hz,eq_false (e0 hz),SB,Nat.reduceLT,callee,aOp,ne_eq,Nat.reduceEqDiff,aBin,aUn,if_true,if_false,reduceCtorEq,frame0,place,notTuple,Nat.reduceAdd,Nat.reduceLeDiff,resVal,dite_true,dite_false,Int.reduceEq,Int.reduceLT,Int.reduceLE]
  refine fin _ _ _ (fun fr2 G4 h11 hg h13=>?_) (by simp only [f7,FB,Nat.reduceEqDiff]) (by simp only [f8,FB,Nat.reduceEqDiff]) (by simp only [g9,FB,Nat.reduceEqDiff]) (by simp only [FB,Nat.reduceEqDiff]) (by simp only [FB,Nat.reduceEqDiff]) (by simp only [FB,Nat.reduceEqDiff]) (by simp only [FB,Nat.reduceEqDiff]) (by simp only [FB,Nat.reduceEqDiff])
  have hgX:=fun X=>(Ext.refl.app (X:=X)).cells hg
  refine Ret_pad ?_
  simp only [n4,r4,h11,h13,hgX,awake38_on hA,SB,Nat.reduceLT,callee,aOp,ne_eq,Nat.reduceEqDiff,aBin,aUn,if_true,if_false,reduceCtorEq,frame0,place,notTuple,Nat.reduceAdd,Nat.reduceLeDiff,resVal,dite_true,dite_false,Int.reduceEq,Int.reduceLT,Int.reduceLE]
 ·simp only [n4,r4,f7,f8,g9,setAll_full,hHG3,hsame,w1,w2,w3,w4,esl,max_v,eq_false hz,SB,Nat.reduceLT,callee,aOp,ne_eq,Nat.reduceEqDiff,aBin,aUn,if_true,if_false,reduceCtorEq,frame0,place,notTuple,Nat.reduceAdd,Nat.reduceLeDiff,resVal,dite_true,dite_false,Int.reduceEq,Int.reduceLT,Int.reduceLE]
  refine fin _ _ _ (fun fr2 G4 h11 hg h13=>?_) (by simp only [f7,FB,Nat.reduceEqDiff]) (by simp only [f8,FB,Nat.reduceEqDiff]) (by simp only [g9,FB,Nat.reduceEqDiff]) (by simp only [FB,Nat.reduceEqDiff]) (by simp only [FB,Nat.reduceEqDiff]) (by simp only [FB,Nat.reduceEqDiff]) (by simp only [FB,Nat.reduceEqDiff]) (by simp only [FB,Nat.reduceEqDiff])
  have hgX:=fun X=>(Ext.refl.app (X:=X)).cells hg
  refine Ret_pad ?_
  simp only [n4,r4,h11,h13,hgX,awake38_on hA,SB,Nat.reduceLT,callee,aOp,ne_eq,Nat.reduceEqDiff,aBin,aUn,if_true,if_false,reduceCtorEq,frame0,place,notTuple,Nat.reduceAdd,Nat.reduceLeDiff,resVal,dite_true,dite_false,Int.reduceEq,Int.reduceLT,Int.reduceLE]
end Go.Proofs.Ytjmmhkodgileiab.Fn

