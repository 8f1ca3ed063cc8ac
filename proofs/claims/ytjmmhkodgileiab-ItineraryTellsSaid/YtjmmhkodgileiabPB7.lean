/-
  Joined texts, 7 of 9. A part of the claim that the last text states.
-/
import Derived.Test.YtjmmhkodgileiabPB6
namespace Go.Proofs.Ytjmmhkodgileiab.Fn
open Go.AM Go.AM.Sym Go.Net
set_option maxRecDepth 100000
set_option linter.unusedVariables false
set_option linter.unusedSimpArgs false
set_option maxHeartbeats 4000000
def ascOk (n:Nat) (ks:List Int) (i:Nat):Prop:=0≤gt ks i∧gt ks i<n∧(0<i→gt ks (i-1)<gt ks i)
instance (n:Nat) (ks:List Int) (i:Nat):Decidable (ascOk n ks i):=by unfold ascOk;infer_instance
def KsOk (n:Nat) (ks:List Int):Prop:=(ks.length=0→n=0)∧∀i,i<ks.length→ascOk n ks i
instance (n:Nat) (ks:List Int):Decidable (KsOk n ks):=by unfold KsOk;infer_instance
def errC (P:List Int) (L:List Leg) (es:List Ev) (ks:List Int):Int:=if errI P L es≠0 then errI P L es else if KsOk es.length ks then 0 else 2
theorem asc_ge {n:Nat} {ks:List Int} (h:∀i,i<ks.length→ascOk n ks i):∀i,i<ks.length→(i:Int)≤gt ks i
 | 0,hi=>(h 0 hi).1
 | i+1,hi=>by
   have h1:=asc_ge h i (by omega)
   have h2:=(h (i+1) hi).2.2 (by omega)
   rw [Nat.add_sub_cancel] at h2
   omega
theorem asc_len {n:Nat} {ks:List Int} (h:∀i,i<ks.length→ascOk n ks i):ks.length≤n:=by
 apply Decidable.byContradiction;intro hc
 have h1:=asc_ge h (ks.length-1) (by omega)
 have h2:=(h (ks.length-1) (by omega)).2.1
 omega
theorem KsOk.mem {n:Nat} {ks:List Int} (h:KsOk n ks):∀k∈ks,0≤k∧k<n:=fun k hk=>by
 obtain ⟨i,hi,rfl⟩:=List.mem_iff_getElem.1 hk
 have:=h.2 i hi
 rw [←gt_lt hi]
 exact ⟨this.1,this.2.1⟩
theorem Cost_ok [OB] {lim:Nat} {pp pl pe pk:Option Addr} {P:List Int} {L:List Leg} {cp cl ce ck:Nat} {es:List Ev} {ks:List Int} {H:Heap} {Q:Value→Heap→Prop} (hn:NetIn H pp pl P L) (hlim:lim≤H.length)
  (hs:Sl H encE 7 pe es) (hsl:es.length<2 ^ 62) (hk:Sl H encI 1 pk ks) (hkl:ks.length<2 ^ 62) (hck:pk=none→ck=0)
  (hbad:∀G,errC P L es ks≠0→Chg [] H G→Q (.tuple #[.agg #[.slice none 0 0,.slice none 0 0,.int .i64 0],.int .i64 (errC P L es ks)]) G)
  (hok:∀G q cq r cr,errC P L es ks=0→Chg [] H G→Mine H.length G encI 1 q ks→Mine H.length G enc3 3 r (stepsN P L es ks)→Q (.tuple #[.agg #[.slice q ks.length cq,.slice r (stepsN P L es ks).length cr,.int .i64 (costN P L es ks)],.int .i64 0]) G) :
  CallR E false lim 11 [.agg (netV pp P.length cp pl L.length cl).toArray,.slice pe es.length ce,.slice pk ks.length ck] H Q:=by
 refine runs' (by decide) e11 rfl ?_
 rw [b11,c11]
 have hck':=fun X (mp:Bool) (lim:Nat) (Q:Value→Heap→Prop)=>check_ok (mp:=mp) (lim:=lim) (cp:=cp) (cl:=cl) (ce:=ce) (Q:=Q) (hn.app X) (hs.app X) (by omega)
 by_cases h0:errI P L es=0
 case neg=>
  have e:errC P L es ks=errI P L es:=by unfold errC;rw [if_pos h0]
  simp only [n11,r11,netV_len,netV_0,netV_1,take_all,hck',eq_false h0,hlim,SB,Nat.reduceLT,callee,aOp,ne_eq,Nat.reduceEqDiff,aBin,aUn,if_true,if_false,reduceCtorEq,frame0,place,notTuple,Nat.reduceAdd,Nat.reduceLeDiff,resVal,dite_true,dite_false,Int.reduceEq,Int.reduceLT,Int.reduceLE]
  rw [←e]
  exact hbad _ (by rw [e];exact h0) Chg.refl.app
 have e2:errC P L es ks=if KsOk es.length ks then 0 else 2:=by unfold errC;rw [if_neg (by simpa using h0)]
 have bad:∀G,¬KsOk es.length ks→Chg [] H G→Q (.tuple #[.agg #[.slice none 0 0,.slice none 0 0,.int .i64 0],.int .i64 2]) G:=fun G hb hC=>by
  rw [if_neg hb] at e2
  have:=hbad G (by rw [e2];decide) hC
  rw [e2] at this
  exact this
 obtain ⟨hv0,h40,hev⟩:=errI_0 h0
 by_cases hz:ks.length=0
 case' pos=>
  by_cases hz2:0<es.length
  case pos=>
   simp only [n11,r11,netV_len,netV_0,netV_1,take_all,hck',eq_true h0,hlim,eq_true (show (ks.length:Int)=0 by omega),eq_true hz2,eq_true (show (0:Int)<(es.length:Int) by omega),SB,Nat.reduceLT,callee,aOp,ne_eq,Nat.reduceEqDiff,aBin,aUn,if_true,if_false,reduceCtorEq,frame0,place,notTuple,Nat.reduceAdd,Nat.reduceLeDiff,resVal,dite_true,dite_false,Int.reduceEq,Int.reduceLT,Int.reduceLE]
   exact bad _ (fun hh=>by have:=hh.1 hz;omega) Chg.refl.app
  simp only [n11,r11,netV_len,netV_0,netV_1,take_all,hck',eq_true h0,hlim,eq_true (show (ks.length:Int)=0 by omega),eq_false hz2,eq_false (show ¬(0:Int)<(es.length:Int) by omega),SB,Nat.reduceLT,callee,aOp,ne_eq,Nat.reduceEqDiff,aBin,aUn,if_true,if_false,reduceCtorEq,frame0,place,notTuple,Nat.reduceAdd,Nat.reduceLeDiff,resVal,dite_true,dite_false,Int.reduceEq,Int.reduceLT,Int.reduceLE]
  have hzz:ks.length=0→es.length=0:=fun _=>by omega
 case' neg=>
  simp only [n11,r11,netV_len,netV_0,netV_1,take_all,hck',eq_true h0,hlim,eq_false (show ¬(ks.length:Int)=0 by omega),SB,Nat.reduceLT,callee,aOp,ne_eq,Nat.reduceEqDiff,aBin,aUn,if_true,if_false,reduceCtorEq,frame0,place,notTuple,Nat.reduceAdd,Nat.reduceLeDiff,resVal,dite_true,dite_false,Int.reduceEq,Int.reduceLT,Int.reduceLE]
  have hzz:ks.length=0→es.length=0:=fun hh=>absurd hh hz
 all_goals
  refine Ret_rounds (fun i=>ks.length-i) (fun i fr G=>i≤ks.length∧fr 1=.slice pe es.length ce∧fr 2=.slice pk ks.length ck∧fr 3=.pointer (some ⟨H.length,0,none⟩)∧fr 6=.pointer (some ⟨H.length+1,0,none⟩)∧fr 7=.int .i64 0∧fr 27=.slice pk ks.length ck∧fr 28=.int .i64 (ks.length:Int)∧fr 29=.int .i64 (i:Int)∧Ext (H++[.cells false (netV pp P.length cp pl L.length cl),.cells false [.slice none 0 0,.slice none 0 0,.int .i64 0]]) G∧∀j,j<i→ascOk es.length ks j) 0
   ⟨Nat.zero_le _,(by simp only [FB,Nat.reduceEqDiff]),(by simp only [FB,Nat.reduceEqDiff]),(by simp only [FB,Nat.reduceEqDiff]),(by simp only [FB,Nat.reduceEqDiff]),(by simp only [FB,Nat.reduceEqDiff]),(by simp only [FB,Nat.reduceEqDiff]),(by simp only [FB,Nat.reduceEqDiff]),by rfl,Ext.refl,fun j hj=>by omega⟩ ?_
  intro i fr G ⟨hi,g1,g2,g3,g6,g7,g27,g28,g29,hE,hall⟩ hN
  rw [Ret_code l11_1.eq_1]
  refine Ret_pad ?_
  have hl:=hE.len
  simp at hl
  have hEH:Ext H G:=(Ext.refl.app).trans hE
  have rB:=fun X=>(Ext.refl.app (X:=X)).cells (hE.cells (show hget _ H.length=.cells false (netV pp P.length cp pl L.length cl) by rw [hget_new0];rfl))
  have r6:=hE.cells (show hget _ (H.length+1)=.cells false [.slice none 0 0,.slice none 0 0,.int .i64 0] by rw [hget_new];rfl)
  have hlimG:lim≤H.length+1:=by omega
  by_cases hlt:i<ks.length
  case neg=>
   obtain rfl:i=ks.length:=by omega
   have hks:KsOk es.length ks:=⟨hzz,hall⟩
   rw [if_pos hks] at e2
   have hkl:=asc_len hall
   simp only [n11,r11,g1,g2,g3,g6,g7,g27,g28,g29,hlt,netV_len,netV_0,netV_1,rB,take_all,SB,Nat.reduceLT,callee,aOp,ne_eq,Nat.reduceEqDiff,aBin,aUn,if_true,if_false,reduceCtorEq,frame0,place,notTuple,Nat.reduceAdd,Nat.reduceLeDiff,resVal,dite_true,dite_false,Int.reduceEq,Int.reduceLT,Int.reduceLE]
   refine newPricer_ok (lim:=lim) (hn.ext (hEH.app)) (by simp;omega) fun G1 R M hE1 hR hM hPI=>?_
   have hl1:=hE1.len
   simp at hl1
   rw [List.append_nil] at hM hR
   have hE1H:=hEH.app.trans hE1
   refine Ret_pad ?_
   simp only [n11,r11,g1,g2,g3,g6,g7,SB,Nat.reduceLT,callee,aOp,ne_eq,Nat.reduceEqDiff,aBin,aUn,if_true,if_false,reduceCtorEq,frame0,place,notTuple,Nat.reduceAdd,Nat.reduceLeDiff,resVal,dite_true,dite_false,Int.reduceEq,Int.reduceLT,Int.reduceLE]
   refine path_ok (hPI.app _) (by simp;omega) ((hE1H.sl hs).app _) h40 (fun i hi=>⟨(hev i hi).2.1,(hev i hi).2.2.1⟩) ((hE1H.sl hk).app _) (by omega) hck hks.mem fun G2 q cq r cr hC2 hPI2 hq hr=>?_
   have r6':=hC2.cells (show hget (G1++[]) (H.length+1)=_ from (Ext.refl.app).cells (hE1.cells ((Ext.refl.app).cells r6))) (by simp;omega)
   obtain ⟨G3,e3,h3,m3⟩:=mut_set (hget_alive r6') (.cells false [.slice q ks.length cq,.slice r (stepsN P L es ks).length cr,.int .i64 (costN P L es ks)])
   have x6:=fun X=>(Ext.refl.app (X:=X)).cells r6'
   have x7:=fun X=>(Ext.refl.app (X:=X)).cells h3
   refine Ret_pad ?_
   simp only [n11,r11,g1,g2,g3,g6,g7,x6,e3,x7,hlimG,SB,Nat.reduceLT,callee,aOp,ne_eq,Nat.reduceEqDiff,aBin,aUn,if_true,if_false,reduceCtorEq,frame0,place,notTuple,Nat.reduceAdd,Nat.reduceLeDiff,resVal,dite_true,dite_false,Int.reduceEq,Int.reduceLT,Int.reduceLE]
   exact hok _ q cq r cr e2 (((Ext.chg (A:=[]) (hE1H.app (X:=[]))).trans' hC2 fun j hj hjl=>by simp at hj;omega).mut m3 (.inr (by omega))).app (((hq.mut m3 (by simp;omega)).le (by simp;omega)).app _) (((hr.mut m3 (by simp;omega)).le (by simp;omega)).app _)
  have ld:=fun X=>((hEH.sl hk).app X).loadCell0 encI_len hlt (by decide)
  simp only [encI,List.getElem?_cons_zero] at ld
  have ix:=fun c (k:IntKind) (H1:Heap)=>(hEH.sl hk).idx (c:=c) (k:=k) (H1:=H1) hlt
  have hw1:IntKind.i64.wrap ((i:Int)+1)=((i+1:Nat):Int):=wrap_nat (by omega)
  have nok:¬ascOk es.length ks i→¬KsOk es.length ks:=fun h hh=>h (hh.2 i hlt)
  have x6:=fun X=>(Ext.refl.app (X:=X)).cells r6
  obtain ⟨G3,e3,h3,m3⟩:=mut_set (hget_alive r6) (.cells false [.slice none 0 0,.slice none 0 0,.int .i64 0])
  have x7:=fun X=>(Ext.refl.app (X:=X)).cells h3
  have hC3:Chg [] H (G3++[]):=((Ext.chg hEH).mut m3 (.inr (by omega))).app
  by_cases c1:gt ks i<0
  ·simp only [n11,r11,g1,g2,g3,g6,g7,g27,g28,g29,hlt,ld,ix,x6,e3,x7,hlimG,eq_true c1,SB,Nat.reduceLT,callee,aOp,ne_eq,Nat.reduceEqDiff,aBin,aUn,if_true,if_false,reduceCtorEq,frame0,place,notTuple,Nat.reduceAdd,Nat.reduceLeDiff,resVal,dite_true,dite_false,Int.reduceEq,Int.reduceLT,Int.reduceLE]
   exact bad _ (nok fun h=>by have:=h.1;omega) hC3
  by_cases c2:(es.length:Int)≤gt ks i
  ·simp only [n11,r11,g1,g2,g3,g6,g7,g27,g28,g29,hlt,ld,ix,x6,e3,x7,hlimG,eq_false c1,eq_true c2,SB,Nat.reduceLT,callee,aOp,ne_eq,Nat.reduceEqDiff,aBin,aUn,if_true,if_false,reduceCtorEq,frame0,place,notTuple,Nat.reduceAdd,Nat.reduceLeDiff,resVal,dite_true,dite_false,Int.reduceEq,Int.reduceLT,Int.reduceLE]
   exact bad _ (nok fun h=>by have:=h.2.1;omega) hC3
  by_cases c3:0<i
  case neg=>
   obtain rfl:i=0:=by omega
   simp only [Int.cast_ofNat_Int] at ix
   simp only [n11,r11,g1,g2,g3,g6,g7,g27,g28,g29,hlt,ld,ix,x6,e3,x7,hlimG,eq_false c1,eq_false c2,show IntKind.i64.wrap (0+1)=1 by decide,SB,Nat.reduceLT,callee,aOp,ne_eq,Nat.reduceEqDiff,aBin,aUn,if_true,if_false,reduceCtorEq,frame0,place,notTuple,Nat.reduceAdd,Nat.reduceLeDiff,resVal,dite_true,dite_false,Int.reduceEq,Int.reduceLT,Int.reduceLE]
   exact hN 1 _ _ ⟨by omega,(by simp only [g1,FB,Nat.reduceEqDiff]),(by simp only [g2,FB,Nat.reduceEqDiff]),(by simp only [g3,FB,Nat.reduceEqDiff]),(by simp only [g6,FB,Nat.reduceEqDiff]),(by simp only [g7,FB,Nat.reduceEqDiff]),(by simp only [g27,FB,Nat.reduceEqDiff]),(by simp only [g28,FB,Nat.reduceEqDiff]),by rfl,hE.app,fun j hj=>by
    obtain rfl:j=0:=by omega
    exact ⟨by omega,by omega,fun h=>by omega⟩⟩ (by omega)
  obtain ⟨k,rfl⟩:∃k,i=k+1:=⟨i-1,by omega⟩
  have lk:=fun X=>((hEH.sl hk).app X).loadCell0 encI_len (i:=k) (by omega) (by decide)
  simp only [encI,List.getElem?_cons_zero] at lk
  have ik:=fun c (kk:IntKind) (H1:Heap)=>(hEH.sl hk).idx (c:=c) (k:=kk) (H1:=H1) (i:=k) (by omega)
  have wk:IntKind.i64.wrap (((k+1:Nat):Int)-1)=(k:Int):=by rw [wrap_id (by omega) (by omega)];omega
  by_cases c4:gt ks (k+1)≤gt ks k
  ·simp only [n11,r11,g1,g2,g3,g6,g7,g27,g28,g29,hlt,ld,ix,x6,e3,x7,hlimG,eq_false c1,eq_false c2,eq_true c3,lk,ik,wk,eq_true c4,SB,Nat.reduceLT,callee,aOp,ne_eq,Nat.reduceEqDiff,aBin,aUn,if_true,if_false,reduceCtorEq,frame0,place,notTuple,Nat.reduceAdd,Nat.reduceLeDiff,resVal,dite_true,dite_false,Int.reduceEq,Int.reduceLT,Int.reduceLE]
   exact bad _ (nok fun h=>by have:=h.2.2 c3;rw [Nat.add_sub_cancel] at this;omega) hC3
  simp only [n11,r11,g1,g2,g3,g6,g7,g27,g28,g29,hlt,ld,ix,x6,e3,x7,hlimG,eq_false c1,eq_false c2,eq_true c3,lk,ik,wk,eq_false c4,hw1,SB,Nat.reduceLT,callee,aOp,ne_eq,Nat.reduceEqDiff,aBin,aUn,if_true,if_false,reduceCtorEq,frame0,place,notTuple,Nat.reduceAdd,Nat.reduceLeDiff,resVal,dite_true,dite_false,Int.reduceEq,Int.reduceLT,Int.reduceLE]
  exact hN (k+2) _ _ ⟨by omega,(by simp only [g1,FB,Nat.reduceEqDiff]),(by simp only [g2,FB,Nat.reduceEqDiff]),(by simp only [g3,FB,Nat.reduceEqDiff]),(by simp only [g6,FB,Nat.reduceEqDiff]),(by simp only [g7,FB,Nat.reduceEqDiff]),(by simp only [g27,FB,Nat.reduceEqDiff]),(by simp only [g28,FB,Nat.reduceEqDiff]),(by simp only [FB,Nat.reduceEqDiff]),hE.app,fun j hj=>by
   rcases Nat.lt_or_ge j (k+1) with h | h
   ·exact hall j h
   ·obtain rfl:j=k+1:=by omega
    exact ⟨by omega,by omega,fun _=>by rw [Nat.add_sub_cancel];omega⟩⟩ (by omega)
abbrev Tri:=Int×Int×Int
def lessR (x y:Tri):Bool:=decide (x.1<y.1∨(x.1=y.1∧y.2.1<x.2.1))
theorem less_ok [OB] {mp:Bool} {lim:Nat} {x y:Tri} {H:Heap} {Q:Value→Heap→Prop}:CallR E mp lim 59 [.agg (enc3 x).toArray,.agg (enc3 y).toArray] H Q=Q (.bool (lessR x y)) H:=by
 refine pc (by decide) e59 rfl rfl ?_
 rw [b59,c59]
 obtain ⟨a,b,c⟩:=x
 obtain ⟨a',b',c'⟩:=y
 have e0:lessR (a,b,c) (a',b',c')=decide (a<a'∨(a=a'∧b'<b)):=rfl
 rw [e0]
 by_cases h1:a<a'
 ·have e:=decide_eq_true (show a<a'∨(a=a'∧b'<b) from .inl h1)
  rw [e]
  simp only [n59,r59,enc3,eq_true h1,SB,Nat.reduceLT,callee,aOp,ne_eq,Nat.reduceEqDiff,aBin,aUn,if_true,if_false,reduceCtorEq,frame0,place,notTuple,Nat.reduceAdd,Nat.reduceLeDiff,resVal,dite_true,dite_false,Int.reduceEq,Int.reduceLT,Int.reduceLE]
 by_cases h2:a=a'
 ·have e:decide (a<a'∨(a=a'∧b'<b))=decide (b'<b):=decide_eq_decide.2 ⟨fun h=>by omega,fun h=>.inr ⟨h2,h⟩⟩
  rw [e]
  simp only [n59,r59,enc3,eq_false h1,eq_true h2,SB,Nat.reduceLT,callee,aOp,ne_eq,Nat.reduceEqDiff,aBin,aUn,if_true,if_false,reduceCtorEq,frame0,place,notTuple,Nat.reduceAdd,Nat.reduceLeDiff,resVal,dite_true,dite_false,Int.reduceEq,Int.reduceLT,Int.reduceLE]
 ·have e:=decide_eq_false (show ¬(a<a'∨(a=a'∧b'<b)) by omega)
  rw [e]
  simp only [n59,r59,enc3,eq_false h1,eq_false h2,SB,Nat.reduceLT,callee,aOp,ne_eq,Nat.reduceEqDiff,aBin,aUn,if_true,if_false,reduceCtorEq,frame0,place,notTuple,Nat.reduceAdd,Nat.reduceLeDiff,resVal,dite_true,dite_false,Int.reduceEq,Int.reduceLT,Int.reduceLE]
def candN (P:List Int) (L:List Leg) (es:List Ev) (T:List Tri) (i j:Nat):Tri:=(priceN P L (gt es i) (gt es j)+30*((j:Int)-i-1)+(gt T j).1,(gt T j).2.1+1,(j:Int))
def pickR (x r:Tri):Tri:=if lessR x r then x else r
def rowUp (P:List Int) (L:List Leg) (es:List Ev) (T:List Tri) (i:Nat):Nat→Tri
 | 0=>(30*((es.length:Int)-1-i),1,-1)
 | m+1=>pickR (rowUp P L es T i m) (candN P L es T i (es.length-1-m))
def tableN (P:List Int) (L:List Leg) (es:List Ev):Nat→List Tri
 | 0=>List.replicate es.length (0,0,0)
 | k+1=>(tableN P L es k).set (es.length-1-k) (rowUp P L es (tableN P L es k) (es.length-1-k) k)
theorem tableN_len {P:List Int} {L:List Leg} {es:List Ev}:∀k,(tableN P L es k).length=es.length
 | 0=>by simp [tableN]
 | k+1=>by rw [tableN,List.length_set,tableN_len k]
def SmallT (T:List Tri):Prop:=∀j,0≤(gt T j).1∧(gt T j).1≤10000∧0≤(gt T j).2.1∧(gt T j).2.1≤40
theorem enc3_set3 {x:Tri} {a b c:Value}:(((enc3 x).set 0 a).set 1 b).set 2 c=[a,b,c]:=id rfl
theorem mask1 {G:Heap} {c:Blk}:maskH G.length [0] (G++[c])=G++[.dead]:=by
 show (G++[c]).set (G.length+0) .dead=_
 rw [Nat.add_zero,List.set_append_right _ _ (Nat.le_refl _),Nat.sub_self];rfl
theorem unmask1 {G G1:Heap} {c:Blk}:unmaskH G.length [0] (G++[c]) G1=G1.set G.length c:=by
 show G1.set (G.length+0) (hget (G++[c]) (G.length+0))=_
 rw [Nat.add_zero,hget_new0];rfl
theorem inner_ok [OB] {lim R M B8 BT:Nat} {S:List Nat} {pp pl pe:Option Addr} {P:List Int} {L:List Leg} {cp cl ce ct:Nat} {es:List Ev} {T:List Tri} {i:Nat} {G:Heap} {fr:Nat→Value} {K:List AItem} {Z:Value→Heap→Prop} (hi:i<es.length) (hlim:lim≤B8) (hS:B8∈S) (hS2:BT∈S)
  (h40:es.length≤40) (ht:∀i,i<es.length→0≤(gt es i).time∧(gt es i).time≤maxTime) (hT:T.length=es.length) (hsm:SmallT T)
  (hP:PI lim R M S G pp pl cp cl P L) (hs:Sl G encE 7 pe es) (hBT:hget G BT=.cells false (T.flatMap enc3)) (hB8:hget G B8=.cells false (enc3 (rowUp P L es T i 0)))
  (f0:fr 0=.pointer (some ⟨R,0,none⟩)) (f1:fr 1=.slice pe es.length ce) (f5:fr 5=.slice (some ⟨BT,0,none⟩) T.length ct) (f6:fr 6=.func (.func 59) #[] #[]) (f7:fr 7=.int .i64 (i:Int)) (f8:fr 8=.pointer (some ⟨B8,0,none⟩)) (f9:fr 9=.int .i64 ((es.length:Int)-1))
  (hR:∀fr' G',Chg [M,B8] G G'→PI lim R M S G' pp pl cp cl P L→hget G' B8=.cells false (enc3 (rowUp P L es T i (es.length-1-i)))→(∀j,j≤8→fr' j=fr j)→Ret E a38 lim K fr' G' Z) :
  Ret E a38 lim (.code (.loop l38_3)::.inBlock 2::K) fr G Z:=by
 refine Ret_rounds (fun m=>es.length-m) (fun m fr' G'=>m≤es.length-1-i∧Chg [M,B8] G G'∧PI lim R M S G' pp pl cp cl P L∧hget G' B8=.cells false (enc3 (rowUp P L es T i m))∧(∀j,j≤8→fr' j=fr j)∧fr' 9=.int .i64 ((es.length:Int)-1-m)) 0
  ⟨Nat.zero_le _,Chg.refl,hP,hB8,fun j _=>rfl,by rw [f9];simp⟩ ?_
 intro m fr' G' ⟨hm,hC,hPI,hB,hfr,g9⟩ hN
 rw [Ret_code l38_3.eq_1]
 have g0:=(hfr 0 (by decide)).trans f0
 have g1:=(hfr 1 (by decide)).trans f1
 have g5:=(hfr 5 (by decide)).trans f5
 have g6:=(hfr 6 (by decide)).trans f6
 have g7:=(hfr 7 (by decide)).trans f7
 have g8:=(hfr 8 (by decide)).trans f8
 refine Ret_pad ?_
 by_cases hlt:m<es.length-1-i
 case neg=>
  obtain rfl:m=es.length-1-i:=by omega
  have e9:(es.length:Int)-1-((es.length-1-i:Nat):Int)=(i:Int):=by omega
  rw [e9] at g9
  simp only [n38,r38,g7,g9,SB,Nat.reduceLT,callee,aOp,ne_eq,Nat.reduceEqDiff,aBin,aUn,if_true,if_false,reduceCtorEq,frame0,place,notTuple,Nat.reduceAdd,Nat.reduceLeDiff,resVal,dite_true,dite_false,Int.reduceEq,Int.reduceLT,Int.reduceLE]
  exact hR _ _ hC.app (hPI.app _) ((Ext.refl.app).cells hB) fun j hj=>by
   rw [←hfr j hj]
   simp only [upd]
   repeat rw [if_neg (by omega)]
 generalize hj:es.length-1-m=j
 have e9:(es.length:Int)-1-(m:Int)=(j:Int):=by omega
 rw [e9] at g9
 have hjn:j<es.length:=by omega
 have hij:i<j:=by omega
 have hne:BT≠B8:=by
  rintro rfl
  rw [hBT] at hB8
  simp only [Blk.cells.injEq,true_and] at hB8
  have:=congrArg List.length hB8
  rw [flat_len enc3_len,enc3_len] at this
  omega
 have hneM:BT≠M:=fun e=>hPI.oM (e▸hS2)
 have hsT:Sl G' enc3 3 (some ⟨BT,0,none⟩) T:=Sl.row (ro:=false) enc3_len (hC.cells hBT (by simp;exact ⟨hneM,hne⟩))
 have hB8l:∀a,pe=some a→es≠[]→a.block≠B8:=fun a ha hn e=>by
  subst ha
  obtain ⟨ro,c,k1,k2,_⟩:=hs.2 hn
  rw [e,hB8] at k1
  simp only [Blk.cells.injEq] at k1
  rw [←k1.2,enc3_len] at k2
  omega
 have hsG:Sl G' encE 7 pe es:=slSimA hs fun a ha hn ro c hc=>hC.cells hc (by
  have h1:=hB8l a ha hn
  have h2:a.block≠M:=fun e=>by obtain ⟨ms,k1,_⟩:=hP.m;rw [e,k1] at hc;cases hc
  simp;exact ⟨h2,h1⟩)
 have la:=fun X=>(hsG.app X).loadCells encE_len hi
 have lb:=fun X=>(hsG.app X).loadCells encE_len hjn
 have xa:=fun c (k:IntKind) (H1:Heap)=>hsG.idx (c:=c) (k:=k) (H1:=H1) hi
 have xb:=fun c (k:IntKind) (H1:Heap)=>hsG.idx (c:=c) (k:=k) (H1:=H1) hjn
 have hjT:j<T.length:=by omega
 have l0:=fun X=>(hsT.app X).loadCell enc3_len hjT (j:=0) (by decide)
 have l1:=fun X=>(hsT.app X).loadCell enc3_len hjT (j:=1) (by decide)
 simp only [enc3,List.getElem?_cons_zero,List.getElem?_cons_succ] at l0 l1
 have xj:=fun c (k:IntKind) (H1:Heap)=>hsT.idx (c:=c) (k:=k) (H1:=H1) hjT
 have hsj:=hsm j
 have w1:IntKind.i64.wrap ((j:Int)-i)=(j:Int)-i:=wrap_id (by omega) (by omega)
 have w2:IntKind.i64.wrap ((j:Int)-i-1)=(j:Int)-i-1:=wrap_id (by omega) (by omega)
 have w3:IntKind.i64.wrap (30*((j:Int)-i-1))=30*((j:Int)-i-1):=wrap_id (by omega) (by omega)
 have w4:IntKind.i64.wrap ((gt T j).2.1+1)=(gt T j).2.1+1:=wrap_id (by omega) (by omega)
 have dlt:=decide_eq_true (show i<j from hij)
 simp only [n38,r38,g0,g1,g5,g6,g7,g8,g9,dlt,la,lb,xa,xb,l0,l1,xj,w1,w2,w3,w4,SB,Nat.reduceLT,callee,aOp,ne_eq,Nat.reduceEqDiff,aBin,aUn,if_true,if_false,reduceCtorEq,frame0,place,notTuple,Nat.reduceAdd,Nat.reduceLeDiff,resVal,dite_true,dite_false,Int.reduceEq,Int.reduceLT,Int.reduceLE]
 have hB8g:=hget_alive hB8
 have hGG:=hC.len
 refine price_ok (a:=gt es i) (b:=gt es j) (hPI.grow [.dead] (Nat.le_refl _) (by simp)) (by simp;omega) (ht j hjn) fun G1 hC1 hPI1=>⟨cellsKept_of ?_, ?_⟩
 ·rw [mask1]
  exact (hPI.grow [.dead] (Nat.le_refl _) (by simp)).chgk hC1
 have hl1:=hC1.len
 simp at hl1
 obtain ⟨G2,e2,h2,m2⟩:=mut_set (show G'.length<G1.length by omega) (.cells false [.int .i64 0,.int .i64 0,.int .i64 0])
 have eu:unmaskH (List.length G') [0] (G'++[.cells false [.int .i64 0,.int .i64 0,.int .i64 0]]) G1=G2++[]:=by rw [unmask1,←e2,List.append_nil]
 rw [List.append_nil,eu]
 generalize hp:priceN P L (gt es i) (gt es j)=p
 have hpr:=priceN_range (P:=P) (L:=L) (a:=gt es i) (b:=gt es j)
 rw [hp] at hpr
 have w5:IntKind.i64.wrap (p+30*((j:Int)-i-1))=p+30*((j:Int)-i-1):=wrap_id (by omega) (by omega)
 have w6:IntKind.i64.wrap (p+30*((j:Int)-i-1)+(gt T j).1)=p+30*((j:Int)-i-1)+(gt T j).1:=wrap_id (by omega) (by omega)
 have w7:IntKind.i64.wrap ((j:Int)-1)=(es.length:Int)-1-((m+1:Nat):Int):=by rw [wrap_id (by omega) (by omega)];omega
 obtain ⟨G3,e3,h3,m3⟩:=mut_set (hget_alive h2) (.cells false [.int .i64 (p+30*((j:Int)-i-1)+(gt T j).1),.int .i64 ((gt T j).2.1+1),.int .i64 (j:Int)])
 have hB1:=(hPI.app [.dead]).chgk hC1 _ _ _ ((Ext.refl.app).cells hB)
 have hBlt:=hget_alive hB
 have hB3:=m3.cells (m2.cells hB1 (by omega)) (by omega)
 have ec:candN P L es T i j=(p+30*((j:Int)-i-1)+(gt T j).1,(gt T j).2.1+1,(j:Int)):=by unfold candN;rw [hp]
 have hless:∀(X:Heap) (mp:Bool) (lim:Nat) (Q:Value→Heap→Prop),CallR E mp lim 59 [.agg (enc3 (rowUp P L es T i m)).toArray,.agg #[.int .i64 (p+30*((j:Int)-i-1)+(gt T j).1),.int .i64 ((gt T j).2.1+1),.int .i64 (j:Int)]] X Q=Q (.bool (lessR (rowUp P L es T i m) (candN P L es T i j))) X:=fun X mp lim Q=>by rw [ec];exact less_ok (x:=rowUp P L es T i m) (y:=(p+30*((j:Int)-i-1)+(gt T j).1,(gt T j).2.1+1,(j:Int)))
 have er:rowUp P L es T i (m+1)=pickR (rowUp P L es T i m) (candN P L es T i j):=by rw [rowUp,hj]
 have X2:=fun X=>(Ext.refl.app (X:=X)).cells h2
 have X3:=fun X=>(Ext.refl.app (X:=X)).cells h3
 have XB:=fun X=>(Ext.refl.app (X:=X)).cells hB3
 have k1:Chg [M,B8] G G3:=((hC.trans (hC1.pre.mono fun j _ hj=>by simp at hj;simp [hj])).mut m2 (.inr (by have:=hC.len;omega))).mut m3 (.inr (by have:=hC.len;omega))
 have k2:=hPI1.chg ((Chg.refl.mut m2 (.inl (by simp))).mut m3 (.inl (by simp)))
 have hlimG':lim≤G'.length:=by omega
 cases hb:lessR (rowUp P L es T i m) (candN P L es T i j) with
 | true=>
   rw [hb] at hless
   rw [pickR,if_pos hb] at er
   simp only [n38,r38,g0,g1,g5,g6,g7,g8,g9,w5,w6,w7,X2,e3,X3,XB,enc3_len,take_all,hless,hlimG',SB,Nat.reduceLT,callee,aOp,ne_eq,Nat.reduceEqDiff,aBin,aUn,if_true,if_false,reduceCtorEq,frame0,place,notTuple,Nat.reduceAdd,Nat.reduceLeDiff,resVal,dite_true,dite_false,Int.reduceEq,Int.reduceLT,Int.reduceLE]
   exact hN (m+1) _ _ ⟨by omega,k1.app,k2.sub (fun q hq=>by simp [hq]) |>.app _,by rw [er];exact (Ext.refl.app).cells hB3,fun q hq=>by
    rw [←hfr q hq]
    simp only [upd]
    repeat rw [if_neg (by omega)],by rfl⟩ (by omega)
 | false=>
   rw [hb] at hless
   rw [pickR,if_neg (by rw [hb];decide),ec] at er
   obtain ⟨G4,e4,h4,m4⟩:=mut_set (hget_alive hB3) (.cells false [.int .i64 (p+30*((j:Int)-i-1)+(gt T j).1),.int .i64 ((gt T j).2.1+1),.int .i64 (j:Int)])
   simp only [n38,r38,g0,g1,g5,g6,g7,g8,g9,w5,w6,w7,X2,e3,X3,XB,enc3_len,take_all,hless,hlimG',hlim,e4,enc3_set3,SB,Nat.reduceLT,callee,aOp,ne_eq,Nat.reduceEqDiff,aBin,aUn,if_true,if_false,reduceCtorEq,frame0,place,notTuple,Nat.reduceAdd,Nat.reduceLeDiff,resVal,dite_true,dite_false,Int.reduceEq,Int.reduceLT,Int.reduceLE]
   exact hN (m+1) _ _ ⟨by omega,(k1.mut m4 (.inl (by simp))).app,((k2.chg (Chg.refl.mut m4 (.inl (by simp [hS])))).sub (fun q hq=>by simp [hq])).app _,by rw [er];exact (Ext.refl.app).cells h4,fun q hq=>by
    rw [←hfr q hq]
    simp only [upd]
    repeat rw [if_neg (by omega)],by rfl⟩ (by omega)
def Bnd (n j:Nat) (x:Tri):Prop:=0≤x.1∧x.1≤110*((n:Int)-1-j)∧0≤x.2.1∧x.2.1≤(n:Int)-j∧-1≤x.2.2∧x.2.2<n
theorem pickR_bnd {n j:Nat} {x y:Tri} (hx:Bnd n j x) (hy:Bnd n j y):Bnd n j (pickR x y):=by
 unfold pickR
 split
 ·exact hx
 ·exact hy
theorem rowUp_bnd {P:List Int} {L:List Leg} {es:List Ev} {T:List Tri} {i:Nat} (hT:∀j,j<es.length→Bnd es.length j (gt T j)) (hi:i<es.length):∀m,m≤es.length-1-i→Bnd es.length i (rowUp P L es T i m)
 | 0,_=>by
   unfold rowUp Bnd
   refine ⟨?_, ?_, ?_, ?_, ?_, ?_⟩<;>simp only<;>omega
 | m+1,hm=>by
   rw [rowUp]
   refine pickR_bnd (rowUp_bnd hT hi m (by omega)) ?_
   have h1:=hT (es.length-1-m) (by omega)
   have h2:=priceN_range (P:=P) (L:=L) (a:=gt es i) (b:=gt es (es.length-1-m))
   unfold candN Bnd at *
   refine ⟨?_, ?_, ?_, ?_, ?_, ?_⟩<;>simp only<;>omega
theorem gt_set {α:Type} [Inhabited α] {l:List α} {i j:Nat} {x:α} (hi:i<l.length):gt (l.set i x) j=if i=j then x else gt l j:=by
 unfold gt
 rw [List.getD_eq_getElem?_getD,List.getElem?_set,List.getD_eq_getElem?_getD]
 split
 ·simp [hi]
 ·rfl
theorem tableN_bnd {P:List Int} {L:List Leg} {es:List Ev}:∀k,k≤es.length→∀j,j<es.length→Bnd es.length j (gt (tableN P L es k) j)
 | 0,_,j,hj=>by
   rw [tableN,gt_lt (by simpa using hj),List.getElem_replicate]
   unfold Bnd
   refine ⟨?_, ?_, ?_, ?_, ?_, ?_⟩<;>simp only<;>omega
 | k+1,hk,j,hj=>by
   rw [tableN,gt_set (by rw [tableN_len];omega)]
   split
   ·rename_i e
    subst e
    exact rowUp_bnd (tableN_bnd k (by omega)) hj k (by omega)
   ·exact tableN_bnd k (by omega) j hj
theorem bnd_small {n:Nat} {T:List Tri} (hn:n≤40) (hT:T.length=n) (h:∀j,j<n→Bnd n j (gt T j)):SmallT T:=fun j=>by
 by_cases hj:j<n
 ·have:=h j hj
  unfold Bnd at this
  omega
 ·have e:gt T j=(0,0,0):=by unfold gt;rw [List.getD_eq_getElem?_getD,List.getElem?_eq_none (by omega)];rfl
  rw [e]
  refine ⟨?_, ?_, ?_, ?_⟩<;>simp only<;>omega
def NextOk (n j:Nat) (x:Tri):Prop:=x.2.2=-1∨((j:Int)<x.2.2∧x.2.2<n)
theorem rowUp_next {P:List Int} {L:List Leg} {es:List Ev} {T:List Tri} {i:Nat}:∀m,m≤es.length-1-i→NextOk es.length i (rowUp P L es T i m)
 | 0,_=>.inl rfl
 | m+1,hm=>by
   rw [rowUp,pickR]
   split
   ·exact rowUp_next m (by omega)
   ·refine .inr ⟨?_, ?_⟩<;>simp only [candN]<;>omega
theorem tableN_next {P:List Int} {L:List Leg} {es:List Ev}:∀k,k≤es.length→∀j,es.length-k≤j→j<es.length→NextOk es.length j (gt (tableN P L es k) j)
 | 0,_,j,h1,h2=>by omega
 | k+1,hk,j,h1,hj=>by
   rw [tableN,gt_set (by rw [tableN_len];omega)]
   split
   ·rename_i e
    subst e
    exact rowUp_next k (by omega)
   ·exact tableN_next k (by omega) j (by omega) hj
def topC (T:List Tri) (i:Nat):Tri:=(30*(i:Int)+(gt T i).1,(gt T i).2.1,(i:Int))
def topN (n:Nat) (T:List Tri):Nat→Tri
 | 0=>(0,0,-1)
 | m+1=>if (topN n T m).2.2<0 then topC T (n-1-m) else pickR (topN n T m) (topC T (n-1-m))
def chainN (T:List Tri):Nat→Int→List Int
 | 0,_=>[]
 | f+1,x=>if x<0 then [] else x::chainN T f (gt T x.toNat).2.2
def bestN (P:List Int) (L:List Leg) (es:List Ev):List Int:=chainN (tableN P L es es.length) es.length (topN es.length (tableN P L es es.length) es.length).2.2
theorem topN_next {n:Nat} {T:List Tri}:∀m,m≤n→(topN n T m).2.2<n∧-1≤(topN n T m).2.2
 | 0,_=>⟨by show (-1:Int)<n;omega,Int.le_refl _⟩
 | m+1,hm=>by
   have h1:(topC T (n-1-m)).2.2<n∧-1≤(topC T (n-1-m)).2.2:=by
    unfold topC
    constructor<;>simp only<;>omega
   have h2:=topN_next (n:=n) (T:=T) m (by omega)
   rw [topN]
   unfold pickR
   split
   ·exact h1
   ·split
    ·exact h2
    ·exact h1
theorem chainN_mem {n:Nat} {T:List Tri} (hT:∀j,j<n→NextOk n j (gt T j)):∀(f:Nat) (x:Int),x<n→∀k∈chainN T f x,0≤k∧k<n
 | 0,_,_,k,hk=>by cases hk
 | f+1,x,hx,k,hk=>by
   rw [chainN] at hk
   split at hk
   ·cases hk
   ·rename_i h0
    rcases List.mem_cons.1 hk with rfl | hk
    ·exact ⟨by omega,hx⟩
    ·refine chainN_mem hT f _ ?_ k hk
     rcases hT x.toNat (by omega) with e | e
     ·rw [e];omega
     ·exact e.2
theorem chainN_len {T:List Tri}:∀(f:Nat) (x:Int),(chainN T f x).length≤f
 | 0,_=>Nat.le_refl _
 | f+1,x=>by
   rw [chainN]
   split
   ·exact Nat.zero_le _
   ·rw [List.length_cons];have:=chainN_len (T:=T) f (gt T x.toNat).2.2;omega
theorem bestN_mem {P:List Int} {L:List Leg} {es:List Ev}:∀k∈bestN P L es,0≤k∧k<es.length:=
 chainN_mem (fun j hj=>tableN_next _ (Nat.le_refl _) j (by omega) hj) _ _ (topN_next _ (Nat.le_refl _)).1
theorem zeros3 (n:Nat):(List.range (n*3)).map (fun j=>[Value.int .i64 0,Value.int .i64 0,Value.int .i64 0].getD (j % 3) undef)=(List.replicate n ((0,0,0):Tri)).flatMap enc3:=by
 have h1:∀j,[Value.int .i64 0,Value.int .i64 0,Value.int .i64 0].getD (j % 3) undef=Value.int .i64 0:=fun j=>by
  have:j % 3=0∨j % 3=1∨j % 3=2:=by omega
  rcases this with e | e | e<;>rw [e]<;>rfl
 simp only [h1]
 rw [List.map_const',List.length_range]
 induction n with
 | zero=>rfl
 | succ n ih=>
   rw [List.replicate_succ,List.flatMap_cons,←ih,Nat.succ_mul]
   rfl
theorem tsl {T:List Tri} {n:Nat} (h:T.length=n) (p:Option Addr) (c:Nat):Value.slice p n c=Value.slice p T.length c:=by rw [h]
theorem top_ok [OB] {lim R M B BT n:Nat} {S:List Nat} {pp pl pe:Option Addr} {P:List Int} {L:List Leg} {cp cl ce ct:Nat} {T:List Tri} {G:Heap} {fr:Nat→Value} {K:List AItem} {Z:Value→Heap→Prop} (hlim:lim≤B) (h40:n≤40) (hT:T.length=n) (hTb:∀j,j<n→Bnd n j (gt T j))
  (hP:PI lim R M S G pp pl cp cl P L) (hS:B∈S) (hne:BT≠B) (hBT:hget G BT=.cells false (T.flatMap enc3)) (hB:hget G B=.cells false (enc3 (topN n T 0)))
  (f1:fr 1=.slice pe n ce) (f5:fr 5=.slice (some ⟨BT,0,none⟩) T.length ct) (f6:fr 6=.func (.func 59) #[] #[]) (f12:fr 12=.pointer (some ⟨B,0,none⟩)) (f13:fr 13=.int .i64 ((n:Int)-1))
  (hR:∀fr' G',Chg [B] G G'→PI lim R M S G' pp pl cp cl P L→hget G' B=.cells false (enc3 (topN n T n))→(∀j,j≤12→fr' j=fr j)→Ret E a38 lim K fr' G' Z) :
  Ret E a38 lim (.code (.loop l38_2)::.inBlock 4::K) fr G Z:=by
 refine Ret_rounds (fun m=>n-m) (fun m fr' G'=>m≤n∧Chg [B] G G'∧PI lim R M S G' pp pl cp cl P L∧hget G' B=.cells false (enc3 (topN n T m))∧(∀j,j≤12→fr' j=fr j)∧fr' 13=.int .i64 ((n:Int)-1-m)) 0
  ⟨Nat.zero_le _,Chg.refl,hP,hB,fun j _=>rfl,by rw [f13];simp⟩ ?_
 intro m fr' G' ⟨hm,hC,hPI,hB1,hfr,g13⟩ hN
 rw [Ret_code l38_2.eq_1]
 have g5:=(hfr 5 (by decide)).trans f5
 have g6:=(hfr 6 (by decide)).trans f6
 have g12:=(hfr 12 (by decide)).trans f12
 refine Ret_pad ?_
 by_cases hlt:m<n
 case neg=>
  obtain rfl:m=n:=by omega
  have e9:(m:Int)-1-(m:Int)=-1:=by omega
  rw [e9] at g13
  simp only [n38,r38,g13,SB,Nat.reduceLT,callee,aOp,ne_eq,Nat.reduceEqDiff,aBin,aUn,if_true,if_false,reduceCtorEq,frame0,place,notTuple,Nat.reduceAdd,Nat.reduceLeDiff,resVal,dite_true,dite_false,Int.reduceEq,Int.reduceLT,Int.reduceLE]
  exact hR _ _ hC.app (hPI.app _) ((Ext.refl.app).cells hB1) fun j hj=>by
   rw [←hfr j hj]
   simp only [upd]
   repeat rw [if_neg (by omega)]
 generalize hi:n-1-m=i
 have e9:(n:Int)-1-(m:Int)=(i:Int):=by omega
 rw [e9] at g13
 have hin:i<n:=by omega
 have hiT:i<T.length:=by omega
 have hsT:Sl G' enc3 3 (some ⟨BT,0,none⟩) T:=Sl.row (ro:=false) enc3_len (hC.cells hBT (by simp;exact hne))
 have l0:=fun X=>(hsT.app X).loadCell enc3_len hiT (j:=0) (by decide)
 have l1:=fun X=>(hsT.app X).loadCell enc3_len hiT (j:=1) (by decide)
 simp only [enc3,List.getElem?_cons_zero,List.getElem?_cons_succ] at l0 l1
 have xj:=fun c (k:IntKind) (H1:Heap)=>hsT.idx (c:=c) (k:=k) (H1:=H1) hiT
 have hb:=hTb i hin
 unfold Bnd at hb
 have w1:IntKind.i64.wrap (30*(i:Int))=30*(i:Int):=wrap_id (by omega) (by omega)
 have w2:IntKind.i64.wrap (30*(i:Int)+(gt T i).1)=30*(i:Int)+(gt T i).1:=wrap_id (by omega) (by omega)
 have w3:IntKind.i64.wrap ((i:Int)-1)=(n:Int)-1-((m+1:Nat):Int):=by rw [wrap_id (by omega) (by omega)];omega
 have i0:=eq_true (show (0:Int)≤(i:Int) by omega)
 have hlimG:lim≤G'.length:=by have:=hC.len;have:=hget_alive hB;omega
 have hBl:=hget_alive hB1
 have et:topN n T (m+1)=if (topN n T m).2.2<0 then topC T i else pickR (topN n T m) (topC T i):=by rw [topN,hi]
 generalize hx:topN n T m=x at et
 rw [hx] at hB1
 have hB2:=hB1
 simp only [enc3] at hB2
 have XB:=fun X=>(Ext.refl.app (X:=X)).cells hB2
 have hless:∀(X:Heap) (mp:Bool) (lim:Nat) (Q:Value→Heap→Prop),CallR E mp lim 59 [.agg #[.int .i64 x.1,.int .i64 x.2.1,.int .i64 x.2.2],.agg #[.int .i64 (30*(i:Int)+(gt T i).1),.int .i64 (gt T i).2.1,.int .i64 (i:Int)]] X Q=Q (.bool (lessR x (topC T i))) X:=fun X mp lim Q=>less_ok (x:=x) (y:=topC T i)
 obtain ⟨G3,e3,h3,m3⟩:=mut_set hBl (.cells false [.int .i64 (30*(i:Int)+(gt T i).1),.int .i64 (gt T i).2.1,.int .i64 (i:Int)])
 have hframe:∀(f:Nat→Value),(∀j,j≤12→f j=fr' j)→∀j,j≤12→f j=fr j:=fun f h j hj=>(h j hj).trans (hfr j hj)
 by_cases hneg:x.2.2<0
 ·rw [if_pos hneg] at et
  simp only [n38,r38,g5,g6,g12,g13,l0,l1,xj,w1,w2,w3,i0,hlimG,XB,eq_true hneg,hlim,e3,SB,Nat.reduceLT,callee,aOp,ne_eq,Nat.reduceEqDiff,aBin,aUn,if_true,if_false,reduceCtorEq,frame0,place,notTuple,Nat.reduceAdd,Nat.reduceLeDiff,resVal,dite_true,dite_false,Int.reduceEq,Int.reduceLT,Int.reduceLE]
  exact hN (m+1) _ _ ⟨by omega,(hC.mut m3 (.inl (by simp))).app,(hPI.chg (Chg.refl.mut m3 (.inl hS))).app _,by rw [et];exact (Ext.refl.app).cells h3,hframe _ (fun j hj=>by
   simp only [upd]
   repeat rw [if_neg (by omega)]),by rfl⟩ (by omega)
 rw [if_neg hneg] at et
 cases hb:lessR x (topC T i) with
 | true=>
   rw [hb] at hless
   rw [pickR,if_pos hb] at et
   simp only [n38,r38,g5,g6,g12,g13,l0,l1,xj,w1,w2,w3,i0,hlimG,XB,eq_false hneg,hlim,hless,SB,Nat.reduceLT,callee,aOp,ne_eq,Nat.reduceEqDiff,aBin,aUn,if_true,if_false,reduceCtorEq,frame0,place,notTuple,Nat.reduceAdd,Nat.reduceLeDiff,resVal,dite_true,dite_false,Int.reduceEq,Int.reduceLT,Int.reduceLE]
   exact hN (m+1) _ _ ⟨by omega,hC.app,hPI.app _,by rw [et];exact (Ext.refl.app).cells hB1,hframe _ (fun j hj=>by
    simp only [upd]
    repeat rw [if_neg (by omega)]),by rfl⟩ (by omega)
 | false=>
   rw [hb] at hless
   rw [pickR,if_neg (by rw [hb];decide)] at et
   simp only [n38,r38,g5,g6,g12,g13,l0,l1,xj,w1,w2,w3,i0,hlimG,XB,eq_false hneg,hlim,hless,e3,SB,Nat.reduceLT,callee,aOp,ne_eq,Nat.reduceEqDiff,aBin,aUn,if_true,if_false,reduceCtorEq,frame0,place,notTuple,Nat.reduceAdd,Nat.reduceLeDiff,resVal,dite_true,dite_false,Int.reduceEq,Int.reduceLT,Int.reduceLE]
   exact hN (m+1) _ _ ⟨by omega,(hC.mut m3 (.inl (by simp))).app,(hPI.chg (Chg.refl.mut m3 (.inl hS))).app _,by rw [et];exact (Ext.refl.app).cells h3,hframe _ (fun j hj=>by
    simp only [upd]
    repeat rw [if_neg (by omega)]),by rfl⟩ (by omega)
theorem best_ok [OB] {lim R M:Nat} {pp pl pe:Option Addr} {P:List Int} {L:List Leg} {cp cl ce:Nat} {es:List Ev} {H:Heap} {Q:Value→Heap→Prop} (h:PI lim R M [] H pp pl cp cl P L) (hlim:lim≤H.length)
  (hs:Sl H encE 7 pe es) (h40:es.length≤40) (ht:∀i,i<es.length→0≤(gt es i).time∧(gt es i).time≤maxTime)
  (hQ:∀G q cq,Chg [M] H G→PI lim R M [] G pp pl cp cl P L→Own H.length G encI 1 q cq (bestN P L es)→Q (.slice q (bestN P L es).length cq) G) :
  CallR E false lim 38 [.pointer (some ⟨R,0,none⟩),.slice pe es.length ce] H Q:=by
 refine runs' (by decide) e38 rfl ?_
 rw [b38,c38]
 have w1:IntKind.i64.wrap ((es.length:Int)-1)=(es.length:Int)-1:=wrap_id (by omega) (by omega)
 have z3:=zeros3 es.length
 have hMl:=h.alive
 have hms:=eq_true (show 0≤(es.length:Int)∧(es.length:Int)*24≤2 ^ 45∧(es.length:Int)<2 ^ 62 by omega)
 simp only [n38,r38,w1,hms,z3,SB,Nat.reduceLT,callee,aOp,ne_eq,Nat.reduceEqDiff,aBin,aUn,if_true,if_false,reduceCtorEq,frame0,place,notTuple,Nat.reduceAdd,Nat.reduceLeDiff,resVal,dite_true,dite_false,Int.reduceEq,Int.reduceLT,Int.reduceLE]
 refine Ret_rounds (fun k=>es.length-k) (fun k fr G=>k≤es.length∧fr 0=.pointer (some ⟨R,0,none⟩)∧fr 1=.slice pe es.length ce∧fr 5=.slice (some ⟨H.length,0,none⟩) es.length es.length∧fr 6=.func (.func 59) #[] #[]∧fr 7=.int .i64 ((es.length:Int)-1-k)∧Chg [M] H G∧PI lim R M [H.length] G pp pl cp cl P L∧hget G H.length=.cells false ((tableN P L es k).flatMap enc3)) 0
  ⟨Nat.zero_le _,(by simp only [FB,Nat.reduceEqDiff]),(by simp only [FB,Nat.reduceEqDiff]),(by simp only [FB,Nat.reduceEqDiff]),(by simp only [FB,Nat.reduceEqDiff]),by rw [show ((es.length:Int)-1-((0:Nat):Int))=(es.length:Int)-1 by omega];rfl,Chg.refl.app,h.grow _ (Nat.le_refl _) (by simp),by rw [hget_new0];rfl⟩ ?_
 ·intro k fr G ⟨hk,g0,g1,g5,g6,g7,hC,hPI,hT⟩ hN
  rw [Ret_code l38_4.eq_1]
  refine Ret_pad ?_
  by_cases hlt:k<es.length
  case neg=>
   obtain rfl:k=es.length:=by omega
   have e7:(es.length:Int)-1-(es.length:Int)=-1:=by omega
   rw [e7] at g7
   have hlimG:lim≤G.length:=by have:=hC.len;omega
   simp only [n38,r38,g0,g1,g5,g6,g7,w1,hlimG,SB,Nat.reduceLT,callee,aOp,ne_eq,Nat.reduceEqDiff,aBin,aUn,if_true,if_false,reduceCtorEq,frame0,place,notTuple,Nat.reduceAdd,Nat.reduceLeDiff,resVal,dite_true,dite_false,Int.reduceEq,Int.reduceLT,Int.reduceLE]
   have hTl:=tableN_len (P:=P) (L:=L) (es:=es) es.length
   have hTb:=tableN_bnd (P:=P) (L:=L) (es:=es) es.length (Nat.le_refl _)
   have hHG:=hget_alive hT
   rw [tsl hTl] at g5
   refine top_ok (B:=G.length) (BT:=H.length) (n:=es.length) (T:=tableN P L es es.length) (R:=R) (M:=M) (S:=[G.length,H.length]) (P:=P) (L:=L) (pp:=pp) (pl:=pl) (cp:=cp) (cl:=cl) (pe:=pe) (ce:=ce) (ct:=es.length) hlimG h40 hTl (fun j hj=>hTb j hj) (hPI.grow _ (Nat.le_refl _) (by simp)) (by simp) (by omega) ((Ext.refl.app).cells hT) (by rw [hget_new0];rfl) (by simp only [g1,FB,Nat.reduceEqDiff]) (by simp only [g5,FB,Nat.reduceEqDiff]) (by simp only [g6,FB,Nat.reduceEqDiff]) (by simp only [FB,Nat.reduceEqDiff]) (by simp only [FB,Nat.reduceEqDiff]) fun fr' G1 hC1 hPI1 hB1 hfr=>?_
   have q5:fr' 5=.slice (some ⟨H.length,0,none⟩) (tableN P L es es.length).length es.length:=(hfr 5 (by decide)).trans (by simp only [g5,FB,Nat.reduceEqDiff])
   have q12:fr' 12=.pointer (some ⟨G.length,0,none⟩):=(hfr 12 (by decide)).trans (by simp only [FB,Nat.reduceEqDiff])
   have hl1:=hC1.len
   simp at hl1
   have hT1:=hC1.cells ((Ext.refl.app).cells hT) (by simp;omega)
   simp only [enc3] at hB1
   have XB:=fun X=>(Ext.refl.app (X:=X)).cells hB1
   have htn:=topN_next (n:=es.length) (T:=tableN P L es es.length) es.length (Nat.le_refl _)
   have hC':Chg [M] H G1:=(hC.app (X:=[.cells false [.int .i64 0,.int .i64 0,.int .i64 (-1)]])).trans' hC1 fun j hj hjl=>by simp at hj;omega
   refine Ret_pad ?_
   simp only [n38,r38,q5,q12,XB,SB,Nat.reduceLT,callee,aOp,ne_eq,Nat.reduceEqDiff,aBin,aUn,if_true,if_false,reduceCtorEq,frame0,place,notTuple,Nat.reduceAdd,Nat.reduceLeDiff,resVal,dite_true,dite_false,Int.reduceEq,Int.reduceLT,Int.reduceLE]
   refine Ret_rounds (fun s:Nat×Int×List Int×Option Addr×Nat=>s.1) (fun s fr G=>fr 5=.slice (some ⟨H.length,0,none⟩) (tableN P L es es.length).length es.length∧fr 16=.int .i64 s.2.1∧fr 15=.slice s.2.2.2.1 s.2.2.1.length s.2.2.2.2∧Chg [M] H G∧PI lim R M (opB s.2.2.2.1++[H.length]) G pp pl cp cl P L∧hget G H.length=.cells false ((tableN P L es es.length).flatMap enc3)∧Own (H.length+1) G encI 1 s.2.2.2.1 s.2.2.2.2 s.2.2.1∧
     s.2.2.1++chainN (tableN P L es es.length) s.1 s.2.1=bestN P L es∧s.2.1<es.length∧(s.2.1<0∨(es.length:Int)-s.2.1≤s.1)∧s.2.2.1.length+s.1=es.length) (es.length,(topN es.length (tableN P L es es.length) es.length).2.2,[],none,0)
    ⟨(by simp only [q5,FB,Nat.reduceEqDiff]),(by simp only [FB,Nat.reduceEqDiff]),by rfl,hC'.app,(hPI1.sub (fun q hq=>by simp [opB] at hq;simp [hq])).app _,(Ext.refl.app).cells hT1,.nil,rfl,htn.1,by simp only;omega,by simp⟩ ?_
   rintro ⟨f,x,l,pw,cw⟩ fr G ⟨g5,g16,g15,hC,hPI,hT,hO,hch,hx,hf,hll⟩ hN
   simp only at g5 g16 g15 hPI hO hch hx hf hll
   rw [Ret_code l38_1.eq_1]
   refine Ret_pad ?_
   by_cases hx0:0≤x
   case neg=>
    have e:chainN (tableN P L es es.length) f x=[]:=by
     cases f with
     | zero=>rfl
     | succ f=>rw [chainN,if_pos (by omega)]
    rw [e,List.append_nil] at hch
    subst hch
    simp only [n38,r38,g5,g16,g15,eq_false hx0,SB,Nat.reduceLT,callee,aOp,ne_eq,Nat.reduceEqDiff,aBin,aUn,if_true,if_false,reduceCtorEq,frame0,place,notTuple,Nat.reduceAdd,Nat.reduceLeDiff,resVal,dite_true,dite_false,Int.reduceEq,Int.reduceLT,Int.reduceLE]
    exact hQ _ _ _ hC.app ((hPI.sub (fun q hq=>by cases hq)).app _) ((hO.le (by omega)).app _)
   obtain ⟨j,rfl⟩:=Int.eq_ofNat_of_zero_le hx0
   obtain ⟨f,rfl⟩:∃g,f=g+1:=⟨f-1,by omega⟩
   rw [chainN,if_neg (by omega),Int.toNat_natCast] at hch
   have hjn:j<(tableN P L es es.length).length:=by omega
   have hnx:=tableN_next (P:=P) (L:=L) (es:=es) es.length (Nat.le_refl _) j (by omega) (by omega)
   have hHl:=hget_alive hT
   obtain ⟨G4,e4,O4,C4,hl4⟩:=Own.moreF hO (lim':=lim) (bytes:=8) (by omega) encI_len (by decide) [(j:Int)] (by simp) (by simp;unfold maxBytes;omega) (by simp;omega) [.cells false [.int .i64 (j:Int)]] (x:=.slice (some ⟨G.length,0,none⟩) 1 1) (str:=false)
    (first_slice (m:=[(j:Int)]) (Sl.row (ro:=false) encI_len (by rw [hget_new0];rfl))) rfl
   have hpw:∀j,j∈opB pw→H.length+1≤j∧j<G.length:=fun j hj=>by
    cases hpe:pw with
    | none=>rw [hpe] at hj;cases hj
    | some a=>rw [hpe] at hj;have:=hO.block hpe;simp [opB] at hj;omega
   generalize hp':(G++[Blk.cells false [.int .i64 (j:Int)]]).length=r at e4 O4 hl4
   have hr':G.length≤r:=by rw [←hp'];simp
   generalize loose 1=c' at e4 O4
   simp only [List.length_cons,List.length_nil,Nat.zero_add] at e4
   have hT4:=C4.cells hT fun hm=>by have:=hpw _ hm;omega
   have hs4:=Sl.row (R:=H.length) (ro:=false) enc3_len hT4
   have l2:=fun X=>(hs4.app X).loadCell enc3_len hjn (j:=2) (by decide)
   simp only [enc3,List.getElem?_cons_zero,List.getElem?_cons_succ] at l2
   have xj:=fun c (k:IntKind) (H1:Heap)=>hs4.idx (c:=c) (k:=k) (H1:=H1) hjn
   simp only [n38,r38,g5,g16,g15,e4,l2,xj,eq_true hx0,SB,Nat.reduceLT,callee,aOp,ne_eq,Nat.reduceEqDiff,aBin,aUn,if_true,if_false,reduceCtorEq,frame0,place,notTuple,Nat.reduceAdd,Nat.reduceLeDiff,resVal,dite_true,dite_false,Int.reduceEq,Int.reduceLT,Int.reduceLE]
   have k1:=(hPI.growC (b:=r) (G':=G4) (C4.mono fun q _ hq=>List.mem_append_left _ hq) hr' hl4).sub (S':=opB (some ⟨r,0,none⟩)++[H.length]) fun q hq=>by
    simp [opB] at hq
    rcases hq with e | e
    ·simp [e]
    ·simp [e]
   have hx2:(gt (tableN P L es es.length) j).2.2<es.length∧((gt (tableN P L es es.length) j).2.2<0∨(es.length:Int)-(gt (tableN P L es es.length) j).2.2≤(f:Int)):=by
    rcases hnx with e | e
    ·exact ⟨by omega,.inl (by omega)⟩
    ·exact ⟨e.2,.inr (by omega)⟩
   exact hN (f,(gt (tableN P L es es.length) j).2.2,l++[(j:Int)],some ⟨r,0,none⟩,c') _ _ ⟨(by simp only [g5,FB,Nat.reduceEqDiff]),by rfl,by show _=Value.slice _ (l++[(j:Int)]).length _;rw [List.length_append];rfl,
    (hC.trans' C4 fun q hq hql=>by have:=hpw q hq;omega).app,k1.app _,(Ext.refl.app).cells hT4,(O4.le (by omega)).app _,by rw [List.append_assoc];exact hch,hx2.1,hx2.2,by simp only [List.length_append,List.length_singleton];omega⟩ (by show f<f+1;omega)
  generalize hi:es.length-1-k=i
  have e7:(es.length:Int)-1-(k:Int)=(i:Int):=by omega
  rw [e7] at g7
  have hie:i<es.length:=by omega
  have w2:IntKind.i64.wrap ((es.length:Int)-1-i)=(es.length:Int)-1-i:=wrap_id (by omega) (by omega)
  have w3:IntKind.i64.wrap (30*((es.length:Int)-1-i))=30*((es.length:Int)-1-i):=wrap_id (by omega) (by omega)
  have w4:IntKind.i64.wrap ((i:Int)-1)=(es.length:Int)-1-((k+1:Nat):Int):=by rw [wrap_id (by omega) (by omega)];omega
  have hlimG:lim≤G.length:=by have:=hC.len;omega
  have i0:=eq_true (show (0:Int)≤(i:Int) by omega)
  have hTl:=tableN_len (P:=P) (L:=L) (es:=es) k
  have hHG:=hget_alive hT
  simp only [n38,r38,g0,g1,g5,g6,g7,w1,w2,w3,hlimG,i0,SB,Nat.reduceLT,callee,aOp,ne_eq,Nat.reduceEqDiff,aBin,aUn,if_true,if_false,reduceCtorEq,frame0,place,notTuple,Nat.reduceAdd,Nat.reduceLeDiff,resVal,dite_true,dite_false,Int.reduceEq,Int.reduceLT,Int.reduceLE]
  rw [tsl hTl] at g5
  refine inner_ok (B8:=G.length) (BT:=H.length) (S:=[G.length,H.length]) (i:=i) (T:=tableN P L es k) (P:=P) (L:=L) (R:=R) (M:=M) (pp:=pp) (pl:=pl) (cp:=cp) (cl:=cl) (es:=es) (pe:=pe) (ce:=ce) (ct:=es.length) hie hlimG (by simp) (by simp) h40 ht hTl (bnd_small h40 hTl (tableN_bnd k (by omega)))
   (hPI.grow _ (Nat.le_refl _) (by simp)) (((hs.sim (h.chgk hC))).app _) ((Ext.refl.app).cells hT) (by rw [hget_new0];rfl) (by simp only [g0,FB,Nat.reduceEqDiff]) (by simp only [g1,FB,Nat.reduceEqDiff]) (by simp only [g5,FB,Nat.reduceEqDiff]) (by simp only [g6,FB,Nat.reduceEqDiff]) (by simp only [g7,FB,Nat.reduceEqDiff]) (by simp only [FB,Nat.reduceEqDiff]) (by simp only [FB,Nat.reduceEqDiff]) fun fr' G1 hC1 hPI1 hB1 hfr=>?_
  have q0:fr' 0=.pointer (some ⟨R,0,none⟩):=(hfr 0 (by decide)).trans (by simp only [g0,FB,Nat.reduceEqDiff])
  have q1:fr' 1=.slice pe es.length ce:=(hfr 1 (by decide)).trans (by simp only [g1,FB,Nat.reduceEqDiff])
  have q5:fr' 5=.slice (some ⟨H.length,0,none⟩) (tableN P L es k).length es.length:=(hfr 5 (by decide)).trans (by simp only [g5,FB,Nat.reduceEqDiff])
  have q6:fr' 6=.func (.func 59) #[] #[]:=(hfr 6 (by decide)).trans (by simp only [g6,FB,Nat.reduceEqDiff])
  have q7:fr' 7=.int .i64 (i:Int):=(hfr 7 (by decide)).trans (by simp only [g7,FB,Nat.reduceEqDiff])
  have q8:fr' 8=.pointer (some ⟨G.length,0,none⟩):=(hfr 8 (by decide)).trans (by simp only [FB,Nat.reduceEqDiff])
  have hkm:es.length-1-i=k:=by omega
  rw [hkm] at hB1
  have hMH:H.length∉[M,G.length]:=by simp;omega
  have hT1:=hC1.cells ((Ext.refl.app).cells hT) hMH
  obtain ⟨G2,e2,h2,m2⟩:=store_mut (lim:=lim) (p:=some ⟨H.length,0,none⟩) enc3_len rfl hT1 hlim (i:=i) (by rw [hTl];exact hie) (rowUp P L es (tableN P L es k) i k)
  have xT:=fun c (kk:IntKind) (H1:Heap)=>(Sl.row (R:=H.length) (ro:=false) enc3_len hT1).idx (c:=c) (k:=kk) (H1:=H1) (i:=i) (by rw [hTl];exact hie)
  have XB:=fun X=>(Ext.refl.app (X:=X)).cells hB1
  have et:tableN P L es (k+1)=(tableN P L es k).set i (rowUp P L es (tableN P L es k) i k):=by rw [tableN,hi]
  refine Ret_pad ?_
  simp only [n38,r38,q0,q1,q5,q6,q7,q8,XB,enc3_len,take_all,e2,xT,w4,SB,Nat.reduceLT,callee,aOp,ne_eq,Nat.reduceEqDiff,aBin,aUn,if_true,if_false,reduceCtorEq,frame0,place,notTuple,Nat.reduceAdd,Nat.reduceLeDiff,resVal,dite_true,dite_false,Int.reduceEq,Int.reduceLT,Int.reduceLE]
  have hl1:=hC1.len
  simp at hl1
  exact hN (k+1) _ _ ⟨by omega,(by simp only [q0,FB,Nat.reduceEqDiff]),(by simp only [q1,FB,Nat.reduceEqDiff]),(by simp only [q5,hTl,FB,Nat.reduceEqDiff]),(by simp only [q6,FB,Nat.reduceEqDiff]),(by simp only [FB,Nat.reduceEqDiff]),(((hC.app (X:=[.cells false (enc3 (rowUp P L es (tableN P L es k) i 0))])).trans' hC1 fun j hj hjl=>by simp at hj;simp;omega).mut m2 (.inr (by omega))).app,((hPI1.chg (Chg.refl.mut m2 (.inl (by simp)))).sub (fun q hq=>by simp at hq;simp [hq])).app _,by rw [et];exact (Ext.refl.app).cells h2⟩ (by omega)
theorem Best_ok [OB] {lim:Nat} {pp pl pe:Option Addr} {P:List Int} {L:List Leg} {cp cl ce:Nat} {es:List Ev} {H:Heap} {Q:Value→Heap→Prop} (hn:NetIn H pp pl P L) (hlim:lim≤H.length)
  (hs:Sl H encE 7 pe es) (hsl:es.length<2 ^ 62)
  (hbad:∀G,errI P L es≠0→Chg [] H G→Q (.tuple #[.agg #[.slice none 0 0,.slice none 0 0,.int .i64 0],.int .i64 (errI P L es)]) G)
  (hok:∀G q cq r cr,errI P L es=0→Chg [] H G→Mine H.length G encI 1 q (bestN P L es)→Mine H.length G enc3 3 r (stepsN P L es (bestN P L es))→Q (.tuple #[.agg #[.slice q (bestN P L es).length cq,.slice r (stepsN P L es (bestN P L es)).length cr,.int .i64 (costN P L es (bestN P L es))],.int .i64 0]) G) :
  CallR E false lim 10 [.agg (netV pp P.length cp pl L.length cl).toArray,.slice pe es.length ce] H Q:=by
 refine runs' (by decide) e10 rfl ?_
 rw [b10,c10]
 have hck':=fun X (mp:Bool) (lim:Nat) (Q:Value→Heap→Prop)=>check_ok (mp:=mp) (lim:=lim) (cp:=cp) (cl:=cl) (ce:=ce) (Q:=Q) (hn.app X) (hs.app X) (by omega)
 by_cases h0:errI P L es=0
 case neg=>
  simp only [n10,r10,netV_len,netV_0,netV_1,take_all,hck',eq_false h0,hlim,SB,Nat.reduceLT,callee,aOp,ne_eq,Nat.reduceEqDiff,aBin,aUn,if_true,if_false,reduceCtorEq,frame0,place,notTuple,Nat.reduceAdd,Nat.reduceLeDiff,resVal,dite_true,dite_false,Int.reduceEq,Int.reduceLT,Int.reduceLE]
  exact hbad _ h0 Chg.refl.app
 obtain ⟨hv0,h40,hev⟩:=errI_0 h0
 have ht:=fun i (hi:i<es.length)=>And.intro (hev i hi).2.1 (hev i hi).2.2.1
 simp only [n10,r10,netV_len,netV_0,netV_1,take_all,hck',eq_true h0,hlim,SB,Nat.reduceLT,callee,aOp,ne_eq,Nat.reduceEqDiff,aBin,aUn,if_true,if_false,reduceCtorEq,frame0,place,notTuple,Nat.reduceAdd,Nat.reduceLeDiff,resVal,dite_true,dite_false,Int.reduceEq,Int.reduceLT,Int.reduceLE]
 refine newPricer_ok (lim:=lim) (hn.app _) (by simp;omega) fun G1 R M hE1 hR hM hPI=>?_
 have hl1:=hE1.len
 simp at hl1 hR hM
 have hE1H:Ext H G1:=(Ext.refl.app).trans hE1
 have r4:hget G1 (H.length+1)=.cells false [.slice none 0 0,.slice none 0 0,.int .i64 0]:=hE1.cells (by rw [hget_new];rfl)
 refine Ret_pad ?_
 simp only [n10,r10,SB,Nat.reduceLT,callee,aOp,ne_eq,Nat.reduceEqDiff,aBin,aUn,if_true,if_false,reduceCtorEq,frame0,place,notTuple,Nat.reduceAdd,Nat.reduceLeDiff,resVal,dite_true,dite_false,Int.reduceEq,Int.reduceLT,Int.reduceLE]
 refine best_ok (hPI.app _) (by simp;omega) ((hE1H.sl hs).app _) h40 ht fun G2 q cq hC2 hPI2 hO2=>?_
 have hl2:=hC2.len
 simp at hl2
 have hC2':Chg [M] H G2:=((Ext.chg (A:=[M]) hE1H).trans hC2.pre)
 have hC2'':=hC2.pre
 refine Ret_pad ?_
 simp only [n10,r10,SB,Nat.reduceLT,callee,aOp,ne_eq,Nat.reduceEqDiff,aBin,aUn,if_true,if_false,reduceCtorEq,frame0,place,notTuple,Nat.reduceAdd,Nat.reduceLeDiff,resVal,dite_true,dite_false,Int.reduceEq,Int.reduceLT,Int.reduceLE]
 refine path_ok (hPI2.app _) (by simp;omega) (((hE1H.sl hs).sim (hPI.chgk hC2'')).app _) h40 ht ((hO2.sl encI_len).app _) (by have:=chainN_len (T:=tableN P L es es.length) es.length (topN es.length (tableN P L es es.length) es.length).2.2;unfold bestN;omega) (fun hq=>by
  rcases hO2 with ⟨_,_,k⟩ | ⟨R,k,_⟩
  ·exact k
  ·rw [hq] at k;cases k) bestN_mem fun G3 q' cq' r cr hC3 hPI3 hq hr=>?_
 have r4':=hC3.cells ((Ext.refl.app (X:=[])).cells (hC2''.cells r4 (by simp;omega))) (by simp;omega)
 obtain ⟨G4,e4,h4,m4⟩:=mut_set (hget_alive r4') (.cells false [.slice q' (bestN P L es).length cq',.slice r (stepsN P L es (bestN P L es)).length cr,.int .i64 (costN P L es (bestN P L es))])
 have x6:=fun X=>(Ext.refl.app (X:=X)).cells r4'
 have x7:=fun X=>(Ext.refl.app (X:=X)).cells h4
 have hlim1:lim≤H.length+1:=by omega
 refine Ret_pad ?_
 simp only [n10,r10,x6,e4,x7,hlim1,SB,Nat.reduceLT,callee,aOp,ne_eq,Nat.reduceEqDiff,aBin,aUn,if_true,if_false,reduceCtorEq,frame0,place,notTuple,Nat.reduceAdd,Nat.reduceLeDiff,resVal,dite_true,dite_false,Int.reduceEq,Int.reduceLT,Int.reduceLE]
 exact hok _ q' cq' r cr h0 ((((Ext.chg (A:=[]) hE1H).trans' hC2'' fun j hj hjl=>by simp at hj;omega).trans' hC3.pre fun j hj hjl=>by simp at hj;omega).mut m4 (.inr (by omega))).app (((hq.mut m4 (by simp;omega)).le (by simp;omega)).app _) (((hr.mut m4 (by simp;omega)).le (by simp;omega)).app _)
def lq1:Leg:=⟨1,1,2,600,60,0,1000,127⟩
def P2:List Int:=[1,2]
def L2:List Leg:=[lq1]
def seenE (p t:Int):Ev:=⟨7,p,1,2,t,t,t⟩
theorem val2:validN P2 L2=0:=by decide
theorem net2 {L:List Leg} (h:validN P2 L=0):NetOk 2 P2 L (posN P2):=by
 have:=valid_net h
 exact ⟨this.fine,this.frm,this.dst,this.inj,fun a ha=>List.idxOf_lt_length_of_mem ha⟩
theorem p21:posN P2 1=0:=rfl
theorem p22:posN P2 2=1:=rfl
theorem qn1:nextD lq1 500=some 600:=nx 0 rfl (by decide) (by decide) (by decide) (by decide) (by decide)
theorem qn2:nextD lq1 200=some 600:=nx 0 rfl (by decide) (by decide) (by decide) (by decide) (by decide)
theorem v_a:stepA (posN P2) (500+86400) L2 [500,-1]=[500,660]:=by simp [stepA,L2,useA,show lq1.frm=1 from rfl,show lq1.dst=2 from rfl,show lq1.mins=60 from rfl,p21,p22,qn1]
theorem v_b:stepA (posN P2) (500+86400) L2 [500,660]=[500,660]:=by simp [stepA,L2,useA,show lq1.frm=1 from rfl,show lq1.dst=2 from rfl,show lq1.mins=60 from rfl,p21,p22,qn1]
theorem v_c:stepA (posN P2) (200+86400) L2 [200,-1]=[200,660]:=by simp [stepA,L2,useA,show lq1.frm=1 from rfl,show lq1.dst=2 from rfl,show lq1.mins=60 from rfl,p21,p22,qn2]
theorem v_d:stepA (posN P2) (200+86400) L2 [200,660]=[200,660]:=by simp [stepA,L2,useA,show lq1.frm=1 from rfl,show lq1.dst=2 from rfl,show lq1.mins=60 from rfl,p21,p22,qn2]
theorem v_e:stepA (posN P2) (500+86400) L2 [-1,500]=[-1,500]:=by simp [stepA,L2,useA,show lq1.frm=1 from rfl,show lq1.dst=2 from rfl,show lq1.mins=60 from rfl,p21,p22]
theorem arr2 {p r q:Int} {A:List Int} {k:Nat} (hp:p∈P2) (hq:q∈P2) (hr:0≤r) (hk:arrK 2 (posN P2) (r+86400) L2 p r k=A) (hs:stepA (posN P2) (r+86400) L2 A=A):arrV P2 L2 p r q=A.getD (posN P2 q) (-1):=by
 have h1:=arrK_all (net2 val2) hp hr (by omega:r≤r+86400) (k:=k) (by rw [arrK,hk,hs]) q hq
 rw [hk] at h1
 have h2:IsArr L2 p r q (arrV P2 L2 p r q):=arrV_is (valid_net val2) hp hq hr
 exact h2.uniq h1
theorem u_a:arrV P2 L2 1 500 2=660:=arr2 (k:=1) (A:=[500,660]) (by decide) (by decide) (by decide) (by rw [arrK,arrK];exact v_a) v_b
theorem u_b:arrV P2 L2 1 200 2=660:=arr2 (k:=1) (A:=[200,660]) (by decide) (by decide) (by decide) (by rw [arrK,arrK];exact v_c) v_d
theorem u_c:arrV P2 L2 2 500 1=-1:=arr2 (k:=0) (A:=[-1,500]) (by decide) (by decide) (by decide) (by rw [arrK];rfl) v_e
theorem pr_eq {p t q s v:Int} (hv:arrV P2 L2 p t q=v) (h2:¬p=q) (hq:q∈P2) (he:errA P2 L2 p p t=0):priceN P2 L2 (seenE p t) (seenE q s)=if v<0 then 80 else min (max (v-s) 0) 60:=by
 unfold priceN
 show (if (2:Int)=4 then (80:Int) else if p=q then 0 else if q∉P2 then 80 else if errA P2 L2 p p t≠0 then 80 else if arrV P2 L2 p t q<0 then 80 else min (max (arrV P2 L2 p t q-s) 0) 60)=_
 rw [if_neg (by decide),if_neg h2,if_neg (by simpa using hq),if_neg (by simpa using he),hv]
theorem x_a:priceN P2 L2 (seenE 1 500) (seenE 2 660)=0:=(pr_eq u_a (by decide) (by decide) (by decide)).trans (by decide)
theorem x_b:priceN P2 L2 (seenE 1 500) (seenE 2 650)=10:=(pr_eq u_a (by decide) (by decide) (by decide)).trans (by decide)
theorem x_c:priceN P2 L2 (seenE 1 200) (seenE 2 300)=60:=(pr_eq u_b (by decide) (by decide) (by decide)).trans (by decide)
theorem x_d:priceN P2 L2 (seenE 2 500) (seenE 1 5000)=80:=(pr_eq u_c (by decide) (by decide) (by decide)).trans (by decide)
theorem x_e:priceN P2 L2 (seenE 1 500) (seenE 2 510)=60:=(pr_eq u_a (by decide) (by decide) (by decide)).trans (by decide)
theorem x_f:priceN P2 L2 (seenE 2 510) (seenE 2 660)=0:=rfl
theorem i_a:errI P2 L2 [seenE 1 500,seenE 2 660]=0:=by decide
theorem i_b:errI P2 L2 [seenE 1 500,seenE 2 650]=0:=by decide
theorem i_c:errI P2 L2 [seenE 1 200,seenE 2 300]=0:=by decide
theorem i_d:errI P2 L2 [seenE 2 500,seenE 1 5000]=0:=by decide
def E3:List Ev:=[seenE 1 500,seenE 2 510,seenE 2 660]
theorem i_e:errI P2 L2 E3=0:=by decide
theorem i_f:errC P2 L2 E3 [0,1,2]=0:=by decide
theorem ge0:gt E3 0=seenE 1 500:=rfl
theorem ge1:gt E3 1=seenE 2 510:=rfl
theorem ge2:gt E3 2=seenE 2 660:=rfl
theorem tb1:tableN P2 L2 E3 1=[(0,0,0),(0,0,0),(0,1,-1)]:=rfl
theorem tb2:tableN P2 L2 E3 2=[(0,0,0),(0,2,2),(0,1,-1)]:=by
 rw [tableN,tb1]
 have:candN P2 L2 E3 [(0,0,0),(0,0,0),(0,1,-1)] 1 2=(0,2,2):=by unfold candN;rw [ge1,ge2,x_f];rfl
 show List.set _ 1 (pickR (30,1,-1) (candN P2 L2 E3 [(0,0,0),(0,0,0),(0,1,-1)] 1 2))=_
 rw [this];rfl
theorem tb3:tableN P2 L2 E3 3=[(30,2,2),(0,2,2),(0,1,-1)]:=by
 rw [tableN,tb2]
 have a2:candN P2 L2 E3 [(0,0,0),(0,2,2),(0,1,-1)] 0 2=(30,2,2):=by unfold candN;rw [ge0,ge2,x_a];rfl
 have a1:candN P2 L2 E3 [(0,0,0),(0,2,2),(0,1,-1)] 0 1=(60,3,1):=by unfold candN;rw [ge0,ge1,x_e];rfl
 show List.set _ 0 (pickR (pickR (60,1,-1) (candN P2 L2 E3 [(0,0,0),(0,2,2),(0,1,-1)] 0 2)) (candN P2 L2 E3 [(0,0,0),(0,2,2),(0,1,-1)] 0 1))=_
 rw [a2,a1];rfl
theorem best3:bestN P2 L2 E3=[0,2]:=by
 show chainN (tableN P2 L2 E3 3) 3 (topN 3 (tableN P2 L2 E3 3) 3).2.2=_
 rw [tb3];rfl
theorem steps3:stepsN P2 L2 E3 [0,2]=[(0,2,0)]:=by
 show [(0,2,priceN P2 L2 (seenE 1 500) (seenE 2 660))]=_
 rw [x_a]
theorem cost3:costN P2 L2 E3 [0,2]=30:=by rw [costN,steps3];rfl
theorem steps4:stepsN P2 L2 E3 [0,1,2]=[(0,1,60),(1,2,0)]:=by
 show [(0,1,priceN P2 L2 (seenE 1 500) (seenE 2 510)),(1,2,0)]=_
 rw [x_e]
theorem cost4:costN P2 L2 E3 [0,1,2]=60:=by rw [costN,steps4];rfl
theorem Own1.le {α:Type} {lim e cap:Nat} {G:Heap} {enc:α→List Value} {p:Option Addr} {l:List α} (h:Own1 lim G enc e p cap l) {lim':Nat} (hl:lim'≤lim):Own1 lim' G enc e p cap l:=by
 rcases h with h | ⟨R,h0,h1,h2,h3,h4⟩
 ·exact .inl (h.le hl)
 ·exact .inr ⟨R,h0,h1,h2,h3,by omega⟩
theorem same_step {α:Type} [Inhabited α] {a b:List α} {i:Nat} (hl:a.length=b.length) (hi:i<a.length) (hall:∀j,j<i→gt a j=gt b j) (he:gt a i=gt b i):∀j,j<i+1→gt a j=gt b j:=fun j hj=>by
 rcases Nat.lt_or_ge j i with h | h
 ·exact hall j h
 ·obtain rfl:j=i:=by omega
  exact he
theorem same_all {α:Type} [Inhabited α] {a b:List α} (hl:a.length=b.length) (hall:∀j,j<a.length→gt a j=gt b j):a=b:=by
 apply List.ext_getElem hl
 intro i h1 h2
 have:=hall i h1
 rwa [gt_lt h1,gt_lt h2] at this
theorem sameints_ok [OB] {mp:Bool} {lim ca cb:Nat} {p q:Option Addr} {a b:List Int} {H:Heap} {Q:Value→Heap→Prop} (ha:Sl H encI 1 p a) (hb:Sl H encI 1 q b) (hn:a.length<2 ^ 62) :
  CallR E mp lim 24 [.slice p a.length ca,.slice q b.length cb] H Q=Q (.bool (decide (a=b))) H:=by
 refine pc (by decide) e24 rfl rfl ?_
 rw [b24,c24]
 by_cases hl:a.length=b.length
 case neg=>
  have h1:¬(a.length:Int)=(b.length:Int):=by omega
  simp only [n24,r24,eq_false h1,SB,Nat.reduceLT,callee,aOp,ne_eq,Nat.reduceEqDiff,aBin,aUn,if_true,if_false,reduceCtorEq,frame0,place,notTuple,Nat.reduceAdd,Nat.reduceLeDiff,resVal,dite_true,dite_false,Int.reduceEq,Int.reduceLT,Int.reduceLE]
  congr 1
  rw [eq_comm,decide_eq_false_iff_not]
  rintro rfl
  exact hl rfl
 have h1:(a.length:Int)=(b.length:Int):=by omega
 simp only [n24,r24,eq_true h1,SB,Nat.reduceLT,callee,aOp,ne_eq,Nat.reduceEqDiff,aBin,aUn,if_true,if_false,reduceCtorEq,frame0,place,notTuple,Nat.reduceAdd,Nat.reduceLeDiff,resVal,dite_true,dite_false,Int.reduceEq,Int.reduceLT,Int.reduceLE]
 refine Ret_rounds (fun j=>a.length-j) (fun j fr G=>j≤a.length∧fr 0=.slice p a.length ca∧fr 1=.slice q b.length cb∧fr 5=.int .i64 (j:Int)∧Ext H G∧∀i,i<j→gt a i=gt b i) 0 ⟨Nat.zero_le _,(by simp only [FB,Nat.reduceEqDiff]),(by simp only [FB,Nat.reduceEqDiff]),by rfl,Ext.refl.app,fun i hi=>by omega⟩ ?_
 intro j fr G ⟨hj,f0,f1,f5,hE,hall⟩ hN
 rw [Ret_code l24_1.eq_1]
 refine Ret_pad ?_
 by_cases hlt:j<a.length
 case neg=>
  obtain rfl:j=a.length:=by omega
  simp only [n24,r24,f0,f1,f5,hlt,SB,Nat.reduceLT,callee,aOp,ne_eq,Nat.reduceEqDiff,aBin,aUn,if_true,if_false,reduceCtorEq,frame0,place,notTuple,Nat.reduceAdd,Nat.reduceLeDiff,resVal,dite_true,dite_false,Int.reduceEq,Int.reduceLT,Int.reduceLE]
  rw [decide_eq_true (same_all hl hall)]
 have l1:=fun X=>((hE.sl ha).app X).loadCell0 encI_len hlt (by decide)
 have l2:=fun X=>((hE.sl hb).app X).loadCell0 encI_len (by omega:j<b.length) (by decide)
 simp only [encI,List.getElem?_cons_zero] at l1 l2
 have x1:=fun c (kk:IntKind) (H1:Heap)=>(hE.sl ha).idx (c:=c) (k:=kk) (H1:=H1) hlt
 have x2:=fun c (kk:IntKind) (H1:Heap)=>(hE.sl hb).idx (c:=c) (k:=kk) (H1:=H1) (by omega:j<b.length)
 have hw1:IntKind.i64.wrap ((j:Int)+1)=((j+1:Nat):Int):=wrap_nat (by omega)
 by_cases he:gt a j=gt b j
 ·simp only [n24,r24,f0,f1,f5,hlt,l1,l2,x1,x2,hw1,eq_true he,SB,Nat.reduceLT,callee,aOp,ne_eq,Nat.reduceEqDiff,aBin,aUn,if_true,if_false,reduceCtorEq,frame0,place,notTuple,Nat.reduceAdd,Nat.reduceLeDiff,resVal,dite_true,dite_false,Int.reduceEq,Int.reduceLT,Int.reduceLE]
  exact hN (j+1) _ _ ⟨by omega,(by simp only [f0,FB,Nat.reduceEqDiff]),(by simp only [f1,FB,Nat.reduceEqDiff]),(by simp only [FB,Nat.reduceEqDiff]),hE.app,same_step hl hlt hall he⟩ (by omega)
 ·simp only [n24,r24,f0,f1,f5,hlt,l1,l2,x1,x2,hw1,eq_false he,SB,Nat.reduceLT,callee,aOp,ne_eq,Nat.reduceEqDiff,aBin,aUn,if_true,if_false,reduceCtorEq,frame0,place,notTuple,Nat.reduceAdd,Nat.reduceLeDiff,resVal,dite_true,dite_false,Int.reduceEq,Int.reduceLT,Int.reduceLE]
  rw [decide_eq_false]
  rintro rfl
  exact he rfl
theorem seen_ok [OB] {mp:Bool} {lim:Nat} {p t:Int} {H:Heap} {Q:Value→Heap→Prop}:CallR E mp lim 32 [.int .i64 p,.int .i64 t] H Q=Q (.agg #[.int .i64 7,.int .i64 p,.int .i64 1,.int .u8 2,.int .i64 t,.int .i64 t,.int .i64 t]) H:=by
 refine pc (by decide) e32 rfl rfl ?_
 rw [b32,c32]
 simp only [n32,r32,setAll,fillV,SB,Nat.reduceLT,callee,aOp,ne_eq,Nat.reduceEqDiff,aBin,aUn,if_true,if_false,reduceCtorEq,frame0,place,notTuple,Nat.reduceAdd,Nat.reduceLeDiff,resVal,dite_true,dite_false,Int.reduceEq,Int.reduceLT,Int.reduceLE]
theorem two_ok [OB] {lim:Nat} {H:Heap} {Q:Value→Heap→Prop} (hlim:lim≤H.length) (hQ:∀H' a b,Ext H H'→NetIn H' a b P2 L2→Q (.agg (netV a 2 2 b 1 1).toArray) H'):CallR E false lim 31 [] H Q:=by
 refine runs' (by decide) e31 rfl ?_
 rw [b31,c31]
 simp only [n31,r31,setAll_full,hlim,SB,Nat.reduceLT,callee,aOp,ne_eq,Nat.reduceEqDiff,aBin,aUn,if_true,if_false,reduceCtorEq,frame0,place,notTuple,Nat.reduceAdd,Nat.reduceLeDiff,resVal,dite_true,dite_false,Int.reduceEq,Int.reduceLT,Int.reduceLE]
 refine hQ _ (some ⟨H.length+1,0,none⟩) (some ⟨H.length+2,0,none⟩) Ext.refl.app ⟨Sl.row (ro:=false) encI_len (by rw [hget_new];rfl),Sl.row (ro:=false) encL_len (by rw [hget_new];rfl),by decide,by decide, ?_⟩
 intro l hl
 simp only [L2,List.mem_cons,List.not_mem_nil,or_false] at hl
 rcases hl with rfl<;>(unfold By;decide)
theorem awake38_go [OB] {mp:Bool} {lim:Nat} {H:Heap} {Q:Value→Heap→Prop} (hoff:OB.on 7=false):CallR E mp lim 7 [] H Q=Q (.bool true) H:=by
 refine CallR_pure (E:=E) (by simp [E,orc,hoff]) (show E.tr 7=some a7 from e7) rfl rfl (Ret_pad ?_)
 rw [b7,c7]
 simp only [n7,r7,SB,Nat.reduceLT,callee,aOp,ne_eq,Nat.reduceEqDiff,aBin,aUn,if_true,if_false,reduceCtorEq,frame0,place,notTuple,Nat.reduceAdd,Nat.reduceLeDiff,resVal,dite_true,dite_false,Int.reduceEq,Int.reduceLT,Int.reduceLE]
 rw [List.append_nil]
 refine two_ok (Nat.le_refl _) fun H0 pa pb hE0 hn0=>?_
 refine Ret_pad ?_
 have hl0:=hE0.len
 have pr:∀(p t q s v:Int),errI P2 L2 [seenE p t,seenE q s]=0→priceN P2 L2 (seenE p t) (seenE q s)=v→∀(X:Heap) (mp:Bool) (lim:Nat) (Q:Value→Heap→Prop),CallR E mp lim 14 [.agg (netV pa 2 2 pb 1 1).toArray,.agg #[.int .i64 7,.int .i64 p,.int .i64 1,.int .u8 2,.int .i64 t,.int .i64 t,.int .i64 t],.agg #[.int .i64 7,.int .i64 q,.int .i64 1,.int .u8 2,.int .i64 s,.int .i64 s,.int .i64 s]] (H0++X) Q=Q (.tuple #[.int .i64 v,.int .i64 0]) (H0++X):=fun p t q s v h1 h2 X mp lim Q=>by
  have:=Price_ok (mp:=mp) (lim:=lim) (cp:=2) (cl:=1) (a:=seenE p t) (b:=seenE q s) (Q:=Q) (hn0.app X)
  rw [h1,if_pos rfl,h2] at this
  exact this
 have pr1:=pr _ _ _ _ _ i_a x_a
 have pr2:=pr _ _ _ _ _ i_b x_b
 have pr3:=pr _ _ _ _ _ i_c x_c
 have pr4:=pr _ _ _ _ _ i_d x_d
 simp only [n7,r7,netV_len,netV_0,netV_1,take_all,setAll_full,hl0,seen_ok,pr1,pr2,pr3,pr4,setAll,fillV,SB,Nat.reduceLT,callee,aOp,ne_eq,Nat.reduceEqDiff,aBin,aUn,if_true,if_false,reduceCtorEq,frame0,place,notTuple,Nat.reduceAdd,Nat.reduceLeDiff,resVal,dite_true,dite_false,Int.reduceEq,Int.reduceLT,Int.reduceLE]
 generalize hG:H0++[Blk.cells false (netV pa 2 2 pb 1 1),_]=G
 have hEG:Ext H0 G:=⟨_,hG.symm⟩
 have n0:hget G H0.length=.cells false (netV pa 2 2 pb 1 1):=by rw [←hG,hget_new0];rfl
 have s0:Sl G encE 7 (some ⟨H0.length+1,0,none⟩) E3:=Sl.row (ro:=false) encE_len (by rw [←hG,hget_new];rfl)
 have hlG:=hEG.len
 clear hG
 refine Best_ok (P:=P2) (L:=L2) (cp:=2) (cl:=1) (es:=E3) (ce:=3) (hn0.ext hEG) (by omega) s0 (by decide) (fun _ h=>absurd i_e h) fun G1 q cq r cr _ hC1 hq hr=>?_
 rw [best3] at hq hr⊢
 rw [steps3] at hr⊢
 rw [cost3]
 have n1:=hC1.cells n0 (by simp)
 have s1:=hC1.ext.sl s0
 have hE1:Ext H0 G1:=hEG.trans hC1.ext
 have hlG1:=hC1.len
 have n1X:=fun X=>(Ext.refl.app (X:=X)).cells n1
 refine Ret_pad ?_
 simp only [n7,r7,n1X,netV_len,netV_0,netV_1,take_all,setAll_full,setAll,fillV,show H.length≤G1.length by omega,SB,Nat.reduceLT,callee,aOp,ne_eq,Nat.reduceEqDiff,aBin,aUn,if_true,if_false,reduceCtorEq,frame0,place,notTuple,Nat.reduceAdd,Nat.reduceLeDiff,resVal,dite_true,dite_false,Int.reduceEq,Int.reduceLT,Int.reduceLE]
 refine Cost_ok (P:=P2) (L:=L2) (cp:=2) (cl:=1) (es:=E3) (ce:=3) (ks:=[0,1,2]) (ck:=3) ((hn0.ext hE1).app _) (by simp;omega) (s1.app _) (by decide) (Sl.row (ro:=false) encI_len (by rw [hget_new];rfl)) (by decide) (fun h=>by cases h) (fun _ h=>absurd i_f h) fun G2 q' cq' r' cr' _ hC2 hq' hr'=>?_
 rw [steps4,cost4]
 have hC2':=hC2.pre
 have o1:=hC2.cells hget_new0 (by simp)
 have q2:=hC2'.ext.sl hq.1
 have r2:=hC2'.ext.sl hr.1
 have hlG2:=hC2'.len
 have o1X:=fun X=>(Ext.refl.app (X:=X)).cells o1
 have ld:∀X,AM.loadCells (G2++X) (elt r 3 0) 3=some [.int .i64 0,.int .i64 2,.int .i64 0]:=fun X=>(r2.app X).loadCells enc3_len (i:=0) (by decide)
 have ix:∀c (kk:IntKind) (H1:Heap),idxK 3 (.slice r 1 c) (.int kk 0) H1=some (.pointer (some (elt r 3 0)),H1):=fun c kk H1=>r2.idx (c:=c) (k:=kk) (H1:=H1) (i:=0) (by decide)
 have eq3:aEq (.agg [.int .i64,.int .i64,.int .i64]) (.agg #[.int .i64 0,.int .i64 2,.int .i64 0]) (.agg #[.int .i64 0,.int .i64 2,.int .i64 0])=some true:=rfl
 have f1:∀(a:Blk) (X:Heap) (mp:Bool) (lim:Nat) (Q:Value→Heap→Prop),CallR E mp lim 24 [.slice q 2 cq,.slice (some ⟨G2.length+1,0,none⟩) 2 2] (G2++a::.cells false [.int .i64 0,.int .i64 2]::X) Q=Q (.bool true) (G2++a::.cells false [.int .i64 0,.int .i64 2]::X):=fun a X mp lim Q=>
  sameints_ok (a:=[0,2]) (b:=[0,2]) (q2.app _) (Sl.row (ro:=false) encI_len (by rw [hget_new];rfl)) (by decide)
 refine Ret_pad ?_
 have w0:IntKind.i64.wrap (0+0)=0:=by decide
 simp only [n7,r7,o1X,ld,ix,f1,take_all,setAll_full,setAll,fillV,show H.length≤G2.length by omega,w0,eq_self,decide_true,eq3,SB,Nat.reduceLT,callee,aOp,ne_eq,Nat.reduceEqDiff,aBin,aUn,if_true,if_false,reduceCtorEq,frame0,place,notTuple,Nat.reduceAdd,Nat.reduceLeDiff,resVal,dite_true,dite_false,Int.reduceEq,Int.reduceLT,Int.reduceLE]
structure RL where
 (a b c d e f:Int)
 deriving DecidableEq,Inhabited
structure Lk where
 (a b c:Int)
 deriving DecidableEq,Inhabited
theorem plants_iff {P:List Int}:PlantsOk P↔(∀p∈P,1≤p∧p≤999999)∧P.Nodup:=by
 constructor
 ·intro h
  refine ⟨fun p hp=>?_, ?_⟩
  ·obtain ⟨i,hi,rfl⟩:=List.mem_iff_getElem.1 hp
   have:=h i hi
   unfold pOk at this
   rw [gt_lt hi] at this
   exact ⟨this.1,this.2.1⟩
  ·unfold List.Nodup
   rw [List.pairwise_iff_getElem]
   intro i j hi hj hij e
   have h2:=(h j hj).2.2
   rw [gt_lt hj] at h2
   exact h2 (List.mem_take_iff_getElem.2 ⟨i,by omega,e⟩)
 ·rintro ⟨h1,h2⟩ i hi
  unfold pOk
  rw [gt_lt hi]
  refine ⟨(h1 _ (List.getElem_mem hi)).1,(h1 _ (List.getElem_mem hi)).2,fun hm=>?_⟩
  obtain ⟨j,hj,e⟩:=List.mem_take_iff_getElem.1 hm
  unfold List.Nodup at h2
  rw [List.pairwise_iff_getElem] at h2
  exact h2 j i (by omega) hi (by omega) e
theorem nodup_sub {m:List Int}:∀{l:List Int},l.Nodup→(∀x∈l,x∈m)→l.length≤m.length:=by
 intro l
 induction l generalizing m with
 | nil=>intro _ _;exact Nat.zero_le _
 | cons a l ih=>
   intro hn hs
   rw [List.nodup_cons] at hn
   have h1:=hs a (by simp)
   have h2:=ih (m:=m.erase a) hn.2 fun x hx=>(List.mem_erase_of_ne (fun e=>hn.1 (by rw [←e];exact hx))).2 (hs x (by simp [hx]))
   rw [List.length_erase_of_mem h1] at h2
   have:=List.length_pos_of_mem h1
   simp only [List.length_cons]
   omega
theorem isway_sub {L:List Leg}:∀{w:List (Leg×Int)} {p t q v:Int},IsWay L p t w q v→∀x∈w,x.1∈L
 | [],_,_,_,_,_,x,hx=>by cases hx
 | (l,a)::w,_,_,_,_,h,x,hx=>by
   rcases List.mem_cons.1 hx with rfl | hx
   ·exact h.1
   ·exact isway_sub h.2.2.2.2 x hx
theorem way_short {P:List Int} {L:List Leg} {p t q:Int} (hn:NetOk 50 P L (posN P)) (hp:p∈P):∀(j:Nat) (u:Int),Go.Net.Way L j p t q u→∃j' u',j'<P.length∧u'≤u∧Go.Net.Way L j' p t q u':=fun j=>by
 induction j using Nat.strongRecOn with
 | ind j ih=>
   intro u h
   by_cases hs:∃i v,i<j∧v≤u∧Go.Net.Way L i p t q v
   ·obtain ⟨i,v,h1,h2,h3⟩:=hs
    obtain ⟨j',u',g1,g2,g3⟩:=ih i h1 v h3
    exact ⟨j',u',g1,by omega,g3⟩
   ·obtain ⟨w,hwl,hw⟩:=h.isWay
    have hnd:=hw.nodup hn.fine fun i v hi hv=>by
     rcases Nat.lt_or_ge i j with h1 | h1
     ·exact absurd ⟨i,v,h1,hv,hi⟩ hs
     ·omega
    have:=nodup_sub (m:=P) hnd fun x hx=>by
     rcases List.mem_cons.1 hx with rfl | hx
     ·exact hp
     ·obtain ⟨y,hy,rfl⟩:=List.mem_map.1 hx
      exact hn.dst _ (isway_sub hw y hy)
    simp at this
    exact ⟨j,u,by omega,Int.le_refl _,h⟩
theorem early_min {P:List Int} {L:List Leg} {p t lim q:Int} (hn:NetOk 50 P L (posN P)) (hp:p∈P) (ht:0≤t) (hl:t≤lim) (hq:q∈P) :
  IsMin (fun u=>(∃j,Go.Net.Way L j p t q u)∧u≤lim) ((arrK P.length (posN P) lim L p t P.length).getD (posN P q) (-1)):=by
 have hn':NetOk P.length P L (posN P):=⟨hn.fine,hn.frm,hn.dst,hn.inj,fun a ha=>List.idxOf_lt_length_of_mem ha⟩
 rcases arrK_min hn' hp ht hl P.length q hq with ⟨e,h⟩ | ⟨⟨⟨j,hj,hw⟩,hl'⟩,h⟩
 ·refine .inl ⟨e,fun u ⟨⟨j,hw⟩,hu⟩=>?_⟩
  obtain ⟨j',u',g1,g2,g3⟩:=way_short hn hp j u hw
  exact h u' ⟨⟨j',by omega,g3⟩,by omega⟩
 ·refine .inr ⟨⟨⟨j,hw⟩,hl'⟩,fun u ⟨⟨i,hwi⟩,hu⟩=>?_⟩
  obtain ⟨j',u',g1,g2,g3⟩:=way_short hn hp i u hwi
  have:=h u' ⟨⟨j',by omega,g3⟩,by omega⟩
  omega
theorem early_arr {P:List Int} {L:List Leg} {p t:Int} (hn:NetOk 50 P L (posN P)) (hp:p∈P) (ht:0≤t):arrL P L p t (arrK P.length (posN P) (t+86400) L p t P.length):=
 ⟨arrK_len,fun q hq=>early_min hn hp ht (by omega) hq⟩
theorem in_ok [OB] {mp:Bool} {lim:Nat} {n a b:Int} {H:Heap} {Q:Value→Heap→Prop}:CallR E mp lim 60 [.int .i64 n,.int .i64 a,.int .i64 b] H Q=Q (.bool (decide (a≤n∧n≤b))) H:=by
 refine pc (by decide) e60 rfl rfl ?_
 rw [b60,c60]
 by_cases h1:a≤n
 ·simp only [n60,r60,eq_true h1,SB,Nat.reduceLT,callee,aOp,ne_eq,Nat.reduceEqDiff,aBin,aUn,if_true,if_false,reduceCtorEq,frame0,place,notTuple,Nat.reduceAdd,Nat.reduceLeDiff,resVal,dite_true,dite_false,Int.reduceEq,Int.reduceLT,Int.reduceLE]
 ·simp only [n60,r60,eq_false h1,SB,Nat.reduceLT,callee,aOp,ne_eq,Nat.reduceEqDiff,aBin,aUn,if_true,if_false,reduceCtorEq,frame0,place,notTuple,Nat.reduceAdd,Nat.reduceLeDiff,resVal,dite_true,dite_false,Int.reduceEq,Int.reduceLT,Int.reduceLE]
theorem rright_ok [OB] {mp:Bool} {lim:Nat} {l:Leg} {H:Heap} {Q:Value→Heap→Prop} (hd:By l):CallR E mp lim 62 [.agg (encL l).toArray] H Q=Q (.bool (decide (Fine l))) H:=by
 refine pc (by decide) e62 rfl rfl ?_
 rw [b62,c62]
 have no:¬Fine l→decide (Fine l)=false:=fun h=>decide_eq_false h
 by_cases h1:1≤l.id∧l.id≤999999
 case neg=>simp only [n62,r62,encL_len,encL_0,encL_1,encL_2,encL_3,encL_4,encL_5,encL_6,encL_7,take_all,in_ok,decide_eq_false h1,no (fun h=>h1 (by unfold Fine at h;omega)),SB,Nat.reduceLT,callee,aOp,ne_eq,Nat.reduceEqDiff,aBin,aUn,if_true,if_false,reduceCtorEq,frame0,place,notTuple,Nat.reduceAdd,Nat.reduceLeDiff,resVal,dite_true,dite_false,Int.reduceEq,Int.reduceLT,Int.reduceLE]
 by_cases h2:1≤l.frm∧l.frm≤999999
 case neg=>simp only [n62,r62,encL_len,encL_0,encL_1,encL_2,encL_3,encL_4,encL_5,encL_6,encL_7,take_all,in_ok,decide_eq_true h1,decide_eq_false h2,no (fun h=>h2 (by unfold Fine at h;omega)),SB,Nat.reduceLT,callee,aOp,ne_eq,Nat.reduceEqDiff,aBin,aUn,if_true,if_false,reduceCtorEq,frame0,place,notTuple,Nat.reduceAdd,Nat.reduceLeDiff,resVal,dite_true,dite_false,Int.reduceEq,Int.reduceLT,Int.reduceLE]
 by_cases h3:1≤l.dst∧l.dst≤999999
 case neg=>simp only [n62,r62,encL_len,encL_0,encL_1,encL_2,encL_3,encL_4,encL_5,encL_6,encL_7,take_all,in_ok,decide_eq_true h1,decide_eq_true h2,decide_eq_false h3,no (fun h=>h3 (by unfold Fine at h;omega)),SB,Nat.reduceLT,callee,aOp,ne_eq,Nat.reduceEqDiff,aBin,aUn,if_true,if_false,reduceCtorEq,frame0,place,notTuple,Nat.reduceAdd,Nat.reduceLeDiff,resVal,dite_true,dite_false,Int.reduceEq,Int.reduceLT,Int.reduceLE]
 by_cases h4:l.frm=l.dst
 ·simp only [n62,r62,encL_len,encL_0,encL_1,encL_2,encL_3,encL_4,encL_5,encL_6,encL_7,take_all,in_ok,decide_eq_true h1,decide_eq_true h2,decide_eq_true h3,eq_true h4,no (fun h=>by unfold Fine at h;omega),SB,Nat.reduceLT,callee,aOp,ne_eq,Nat.reduceEqDiff,aBin,aUn,if_true,if_false,reduceCtorEq,frame0,place,notTuple,Nat.reduceAdd,Nat.reduceLeDiff,resVal,dite_true,dite_false,Int.reduceEq,Int.reduceLT,Int.reduceLE]
 by_cases h5:0≤l.dep∧l.dep≤1439
 case neg=>simp only [n62,r62,encL_len,encL_0,encL_1,encL_2,encL_3,encL_4,encL_5,encL_6,encL_7,take_all,in_ok,decide_eq_true h1,decide_eq_true h2,decide_eq_true h3,eq_false h4,decide_eq_false h5,no (fun h=>h5 (by unfold Fine at h;omega)),SB,Nat.reduceLT,callee,aOp,ne_eq,Nat.reduceEqDiff,aBin,aUn,if_true,if_false,reduceCtorEq,frame0,place,notTuple,Nat.reduceAdd,Nat.reduceLeDiff,resVal,dite_true,dite_false,Int.reduceEq,Int.reduceLT,Int.reduceLE]
 by_cases h6:1≤l.mins∧l.mins≤20160
 case neg=>simp only [n62,r62,encL_len,encL_0,encL_1,encL_2,encL_3,encL_4,encL_5,encL_6,encL_7,take_all,in_ok,decide_eq_true h1,decide_eq_true h2,decide_eq_true h3,eq_false h4,decide_eq_true h5,decide_eq_false h6,no (fun h=>h6 (by unfold Fine at h;omega)),SB,Nat.reduceLT,callee,aOp,ne_eq,Nat.reduceEqDiff,aBin,aUn,if_true,if_false,reduceCtorEq,frame0,place,notTuple,Nat.reduceAdd,Nat.reduceLeDiff,resVal,dite_true,dite_false,Int.reduceEq,Int.reduceLT,Int.reduceLE]
 by_cases h7:0≤l.cut∧l.cut≤10080
 case neg=>simp only [n62,r62,encL_len,encL_0,encL_1,encL_2,encL_3,encL_4,encL_5,encL_6,encL_7,take_all,in_ok,decide_eq_true h1,decide_eq_true h2,decide_eq_true h3,eq_false h4,decide_eq_true h5,decide_eq_true h6,decide_eq_false h7,no (fun h=>h7 (by unfold Fine at h;omega)),SB,Nat.reduceLT,callee,aOp,ne_eq,Nat.reduceEqDiff,aBin,aUn,if_true,if_false,reduceCtorEq,frame0,place,notTuple,Nat.reduceAdd,Nat.reduceLeDiff,resVal,dite_true,dite_false,Int.reduceEq,Int.reduceLT,Int.reduceLE]
 by_cases h8:0≤l.grams∧l.grams≤1000000000
 case neg=>simp only [n62,r62,encL_len,encL_0,encL_1,encL_2,encL_3,encL_4,encL_5,encL_6,encL_7,take_all,in_ok,decide_eq_true h1,decide_eq_true h2,decide_eq_true h3,eq_false h4,decide_eq_true h5,decide_eq_true h6,decide_eq_true h7,decide_eq_false h8,no (fun h=>h8 (by unfold Fine at h;omega)),SB,Nat.reduceLT,callee,aOp,ne_eq,Nat.reduceEqDiff,aBin,aUn,if_true,if_false,reduceCtorEq,frame0,place,notTuple,Nat.reduceAdd,Nat.reduceLeDiff,resVal,dite_true,dite_false,Int.reduceEq,Int.reduceLT,Int.reduceLE]
 by_cases h9:1≤l.days
 case neg=>simp only [n62,r62,encL_len,encL_0,encL_1,encL_2,encL_3,encL_4,encL_5,encL_6,encL_7,take_all,in_ok,decide_eq_true h1,decide_eq_true h2,decide_eq_true h3,eq_false h4,decide_eq_true h5,decide_eq_true h6,decide_eq_true h7,decide_eq_true h8,eq_false h9,no (fun h=>h9 (by unfold Fine at h;omega)),SB,Nat.reduceLT,callee,aOp,ne_eq,Nat.reduceEqDiff,aBin,aUn,if_true,if_false,reduceCtorEq,frame0,place,notTuple,Nat.reduceAdd,Nat.reduceLeDiff,resVal,dite_true,dite_false,Int.reduceEq,Int.reduceLT,Int.reduceLE]
 simp only [n62,r62,encL_len,encL_0,encL_1,encL_2,encL_3,encL_4,encL_5,encL_6,encL_7,take_all,in_ok,decide_eq_true h1,decide_eq_true h2,decide_eq_true h3,eq_false h4,decide_eq_true h5,decide_eq_true h6,decide_eq_true h7,decide_eq_true h8,eq_true h9,SB,Nat.reduceLT,callee,aOp,ne_eq,Nat.reduceEqDiff,aBin,aUn,if_true,if_false,reduceCtorEq,frame0,place,notTuple,Nat.reduceAdd,Nat.reduceLeDiff,resVal,dite_true,dite_false,Int.reduceEq,Int.reduceLT,Int.reduceLE]
 congr 2
 unfold Fine
 exact propext (by omega)
theorem has_ok [OB] {mp:Bool} {lim c:Nat} {p:Option Addr} {P:List Int} {a:Int} {H:Heap} {Q:Value→Heap→Prop} (hs:Sl H encI 1 p P) (hn:P.length<2 ^ 62):CallR E mp lim 61 [.slice p P.length c,.int .i64 a] H Q=Q (.int .i64 (P.count a:Int)) H:=by
 refine pc (by decide) e61 rfl rfl ?_
 rw [b61,c61]
 simp only [n61,r61,SB,Nat.reduceLT,callee,aOp,ne_eq,Nat.reduceEqDiff,aBin,aUn,if_true,if_false,reduceCtorEq,frame0,place,notTuple,Nat.reduceAdd,Nat.reduceLeDiff,resVal,dite_true,dite_false,Int.reduceEq,Int.reduceLT,Int.reduceLE]
 refine Ret_rounds (fun j=>P.length-j) (fun j fr G=>j≤P.length∧fr 0=.slice p P.length c∧fr 1=.int .i64 a∧fr 5=.int .i64 ((P.take j).count a:Int)∧fr 6=.int .i64 (j:Int)∧Ext H G) 0 ⟨Nat.zero_le _,(by simp only [FB,Nat.reduceEqDiff]),(by simp only [FB,Nat.reduceEqDiff]),by rfl,by rfl,Ext.refl.app⟩ ?_
 intro j fr G ⟨hj,f0,f1,f5,f6,hE⟩ hN
 rw [Ret_code l61_1.eq_1]
 refine Ret_pad ?_
 by_cases hlt:j<P.length
 case neg=>
  obtain rfl:j=P.length:=by omega
  rw [List.take_length] at f5
  simp only [n61,r61,f0,f1,f5,f6,hlt,SB,Nat.reduceLT,callee,aOp,ne_eq,Nat.reduceEqDiff,aBin,aUn,if_true,if_false,reduceCtorEq,frame0,place,notTuple,Nat.reduceAdd,Nat.reduceLeDiff,resVal,dite_true,dite_false,Int.reduceEq,Int.reduceLT,Int.reduceLE]
 have l1:=fun X=>((hE.sl hs).app X).loadCell0 encI_len hlt (by decide)
 simp only [encI,List.getElem?_cons_zero] at l1
 have x1:=fun c (kk:IntKind) (H1:Heap)=>(hE.sl hs).idx (c:=c) (k:=kk) (H1:=H1) hlt
 have hw1:IntKind.i64.wrap ((j:Int)+1)=((j+1:Nat):Int):=wrap_nat (by omega)
 have hc:(P.take j).count a≤P.length:=Nat.le_trans List.count_le_length (by rw [List.length_take];omega)
 have hst:(P.take (j+1)).count a=(P.take j).count a+if gt P j=a then 1 else 0:=by
  rw [take_snoc hlt,List.count_append,List.count_cons,List.count_nil];simp
 have hw2:IntKind.i64.wrap (((P.take j).count a:Int)+1)=(((P.take j).count a+1:Nat):Int):=wrap_nat (by omega)
 by_cases he:gt P j=a
 ·rw [if_pos he] at hst
  simp only [n61,r61,f0,f1,f5,f6,hlt,l1,x1,hw1,hw2,eq_true he,SB,Nat.reduceLT,callee,aOp,ne_eq,Nat.reduceEqDiff,aBin,aUn,if_true,if_false,reduceCtorEq,frame0,place,notTuple,Nat.reduceAdd,Nat.reduceLeDiff,resVal,dite_true,dite_false,Int.reduceEq,Int.reduceLT,Int.reduceLE]
  exact hN (j+1) _ _ ⟨by omega,(by simp only [f0,FB,Nat.reduceEqDiff]),(by simp only [f1,FB,Nat.reduceEqDiff]),by rw [hst];exact (by simp only [FB,Nat.reduceEqDiff]),(by simp only [FB,Nat.reduceEqDiff]),hE.app⟩ (by omega)
 ·rw [if_neg he] at hst
  replace hst:(P.take (j+1)).count a=(P.take j).count a:=hst
  simp only [n61,r61,f0,f1,f5,f6,hlt,l1,x1,hw1,eq_false he,SB,Nat.reduceLT,callee,aOp,ne_eq,Nat.reduceEqDiff,aBin,aUn,if_true,if_false,reduceCtorEq,frame0,place,notTuple,Nat.reduceAdd,Nat.reduceLeDiff,resVal,dite_true,dite_false,Int.reduceEq,Int.reduceLT,Int.reduceLE]
  exact hN (j+1) _ _ ⟨by omega,(by simp only [f0,FB,Nat.reduceEqDiff]),(by simp only [f1,FB,Nat.reduceEqDiff]),by rw [hst];exact (by simp only [f5,FB,Nat.reduceEqDiff]),(by simp only [FB,Nat.reduceEqDiff]),hE.app⟩ (by omega)
theorem plants_count {P:List Int}:PlantsOk P↔∀i,i<P.length→(1≤gt P i∧gt P i≤999999)∧P.count (gt P i)≤1:=by
 rw [plants_iff,List.nodup_iff_count]
 constructor
 ·rintro ⟨h1,h2⟩ i hi
  exact ⟨h1 _ (gt_mem hi),h2 _⟩
 ·intro h
  refine ⟨fun p hp=>?_,fun a=>?_⟩
  ·obtain ⟨i,hi,rfl⟩:=List.mem_iff_getElem.1 hp
   rw [←gt_lt hi];exact (h i hi).1
  ·by_cases ha:a∈P
   ·obtain ⟨i,hi,rfl⟩:=List.mem_iff_getElem.1 ha
    rw [←gt_lt hi];exact (h i hi).2
   ·rw [List.count_eq_zero_of_not_mem ha];omega
theorem rvalid_inner [OB] {H G:Heap} {i R5:Nat} {pp pl:Option Addr} {P:List Int} {L:List Leg} {cp cl:Nat} {fr:Nat→Value} {K:List AItem} {Z:Value→Heap→Prop}
  (hn:NetIn G pp pl P L) (hi:i<L.length) (hB:hget G H.length=.cells false (netV pp P.length cp pl L.length cl)) (h5:hget G R5=.cells false (encL (gt L i)))
  (f1:fr 1=.pointer (some ⟨H.length,0,none⟩)) (f4:fr 4=.int .i64 (i:Int)) (f5:fr 5=.pointer (some ⟨R5,0,none⟩)) (f6:fr 6=.int .i64 0)
  (hbad:(gt L i).id∈(L.take i).map (·.id)→Z (.int .i64 321) (G++[]))
  (hR:(gt L i).id∉(L.take i).map (·.id)→∀fr',fr' 1=fr 1→fr' 4=fr 4→Ret E a39 H.length K fr' (G++[]) Z) :
  Ret E a39 H.length (.code (.loop l39_1)::.inBlock 4::K) fr G Z:=by
 have hBX:=fun X=>(Ext.refl.app (X:=X)).cells hB
 have h5X:=fun X=>(Ext.refl.app (X:=X)).cells h5
 refine Ret_rounds (fun j=>i-j) (fun j fr' G'=>j≤i∧fr' 1=.pointer (some ⟨H.length,0,none⟩)∧fr' 4=.int .i64 (i:Int)∧fr' 5=.pointer (some ⟨R5,0,none⟩)∧fr' 6=.int .i64 (j:Int)∧G'=G++[]∧∀k,k<j→(gt L k).id≠(gt L i).id) 0 ⟨Nat.zero_le _,f1,f4,f5,f6,by simp,fun k hk=>by omega⟩ ?_
 rintro j fr' G' ⟨hj,g1,g4,g5,g6,rfl,hall⟩ hN
 rw [Ret_code l39_1.eq_1]
 by_cases hlt:j<i
 case neg=>
  obtain rfl:j=i:=by omega
  simp only [n39,r39,g1,g4,g5,g6,hlt,SB,Nat.reduceLT,callee,aOp,ne_eq,Nat.reduceEqDiff,aBin,aUn,if_true,if_false,reduceCtorEq,frame0,place,notTuple,Nat.reduceAdd,Nat.reduceLeDiff,resVal,dite_true,dite_false,Int.reduceEq,Int.reduceLT,Int.reduceLE]
  refine hR (fun hm=>?_) _ (by rw [f1];exact (by simp only [g1,FB,Nat.reduceEqDiff])) (by rw [f4];exact (by simp only [g4,FB,Nat.reduceEqDiff]))
  obtain ⟨l,hl,e⟩:=List.mem_map.1 hm
  obtain ⟨k,hk,rfl⟩:=List.mem_take_iff_getElem.1 hl
  exact hall k (by omega) (by rw [gt_lt (by omega)];exact e)
 have hjl:j<L.length:=by omega
 have ld:=fun X=>(hn.sl.app X).loadCell encL_len hjl (j:=0) (by decide)
 rw [encL_0] at ld
 have ix:=fun c (kk:IntKind) (H1:Heap)=>hn.sl.idx (c:=c) (k:=kk) (H1:=H1) hjl
 have hw1:IntKind.i64.wrap ((j:Int)+1)=((j+1:Nat):Int):=wrap_nat (by have:=hn.nl;omega)
 by_cases he:(gt L j).id=(gt L i).id
 ·simp only [n39,r39,g1,g4,g5,g6,hlt,hBX,h5X,ld,ix,hw1,netV_len,netV_0,netV_1,encL_len,encL_0,encL_1,encL_2,encL_3,encL_4,encL_5,encL_6,encL_7,take_all,eq_true he,SB,Nat.reduceLT,callee,aOp,ne_eq,Nat.reduceEqDiff,aBin,aUn,if_true,if_false,reduceCtorEq,frame0,place,notTuple,Nat.reduceAdd,Nat.reduceLeDiff,resVal,dite_true,dite_false,Int.reduceEq,Int.reduceLT,Int.reduceLE]
  rw [List.append_nil] at hbad
  rw [List.append_nil]
  refine hbad (List.mem_map.2 ⟨gt L j, ?_,he⟩)
  rw [gt_lt hjl]
  exact List.mem_take_iff_getElem.2 ⟨j,by omega,rfl⟩
 ·simp only [n39,r39,g1,g4,g5,g6,hlt,hBX,h5X,ld,ix,hw1,netV_len,netV_0,netV_1,encL_len,encL_0,encL_1,encL_2,encL_3,encL_4,encL_5,encL_6,encL_7,take_all,eq_false he,SB,Nat.reduceLT,callee,aOp,ne_eq,Nat.reduceEqDiff,aBin,aUn,if_true,if_false,reduceCtorEq,frame0,place,notTuple,Nat.reduceAdd,Nat.reduceLeDiff,resVal,dite_true,dite_false,Int.reduceEq,Int.reduceLT,Int.reduceLE]
  exact hN (j+1) _ _ ⟨by omega,(by simp only [g1,FB,Nat.reduceEqDiff]),(by simp only [g4,FB,Nat.reduceEqDiff]),(by simp only [g5,FB,Nat.reduceEqDiff]),(by simp only [FB,Nat.reduceEqDiff]),rfl,fun k hk=>by
   rcases Nat.lt_or_ge k j with h | h
   ·exact hall k h
   ·obtain rfl:k=j:=by omega
    exact he⟩ (by omega)
theorem rvalid_ok [OB] {mp:Bool} {lim:Nat} {pp pl:Option Addr} {P:List Int} {L:List Leg} {cp cl:Nat} {H:Heap} {Q:Value→Heap→Prop} (hn:NetIn H pp pl P L) :
  CallR E mp lim 39 [.agg (netV pp P.length cp pl L.length cl).toArray] H Q=Q (.int .i64 (validN P L)) H:=by
 refine pc (by decide) e39 rfl rfl ?_
 rw [b39,c39]
 by_cases h50:50<(P.length:Int)
 ·simp only [n39,r39,netV_len,netV_0,netV_1,eq_true h50,SB,Nat.reduceLT,callee,aOp,ne_eq,Nat.reduceEqDiff,aBin,aUn,if_true,if_false,reduceCtorEq,frame0,place,notTuple,Nat.reduceAdd,Nat.reduceLeDiff,resVal,dite_true,dite_false,Int.reduceEq,Int.reduceLT,Int.reduceLE]
  rw [validN,if_pos (by omega)]
 by_cases h200:200<(L.length:Int)
 ·simp only [n39,r39,netV_len,netV_0,netV_1,eq_false h50,eq_true h200,SB,Nat.reduceLT,callee,aOp,ne_eq,Nat.reduceEqDiff,aBin,aUn,if_true,if_false,reduceCtorEq,frame0,place,notTuple,Nat.reduceAdd,Nat.reduceLeDiff,resVal,dite_true,dite_false,Int.reduceEq,Int.reduceLT,Int.reduceLE]
  rw [validN,if_pos (by omega)]
 simp only [n39,r39,netV_len,netV_0,netV_1,eq_false h50,eq_false h200,SB,Nat.reduceLT,callee,aOp,ne_eq,Nat.reduceEqDiff,aBin,aUn,if_true,if_false,reduceCtorEq,frame0,place,notTuple,Nat.reduceAdd,Nat.reduceLeDiff,resVal,dite_true,dite_false,Int.reduceEq,Int.reduceLT,Int.reduceLE]
 have hv:validN P L=if ¬PlantsOk P then 320 else if ¬LegsOk P L then 321 else 0:=by rw [validN,if_neg (by omega)]
 refine Ret_rounds (fun i=>P.length-i) (fun i fr G=>i≤P.length∧fr 1=.pointer (some ⟨H.length,0,none⟩)∧fr 3=.int .i64 (i:Int)∧Ext H G∧hget G H.length=.cells false (netV pp P.length cp pl L.length cl)∧∀j,j<i→(1≤gt P j∧gt P j≤999999)∧P.count (gt P j)≤1) 0
  ⟨Nat.zero_le _,(by simp only [FB,Nat.reduceEqDiff]),by rfl,Ext.refl.app,hget_new0,fun j hj=>by omega⟩ ?_
 intro i fr G ⟨hi,f1,f3,hE,hB,hall⟩ hN
 rw [Ret_code l39_3.eq_1]
 refine Ret_pad ?_
 have hBX:=fun X=>(Ext.refl.app (X:=X)).cells hB
 have hnG:=hn.ext hE
 by_cases hlt:i<P.length
 case pos=>
  have ld:=fun X=>(hnG.sp.app X).loadCell0 encI_len hlt (by decide)
  simp only [encI,List.getElem?_cons_zero] at ld
  have ix:=fun c (kk:IntKind) (H1:Heap)=>hnG.sp.idx (c:=c) (k:=kk) (H1:=H1) hlt
  have hw1:IntKind.i64.wrap ((i:Int)+1)=((i+1:Nat):Int):=wrap_nat (by omega)
  have hhas:=fun X (mp:Bool) (lim:Nat) (Q:Value→Heap→Prop)=>has_ok (mp:=mp) (lim:=lim) (c:=cp) (a:=gt P i) (Q:=Q) (hnG.sp.app X) (by omega)
  have bad:¬((1≤gt P i∧gt P i≤999999)∧P.count (gt P i)≤1)→validN P L=320:=fun h=>by
   rw [hv,if_pos fun hh=>h (plants_count.1 hh i hlt)]
  by_cases h1:1≤gt P i∧gt P i≤999999
  case neg=>
   simp only [n39,r39,f1,f3,hBX,netV_len,netV_0,netV_1,hlt,ld,ix,in_ok,decide_eq_false h1,SB,Nat.reduceLT,callee,aOp,ne_eq,Nat.reduceEqDiff,aBin,aUn,if_true,if_false,reduceCtorEq,frame0,place,notTuple,Nat.reduceAdd,Nat.reduceLeDiff,resVal,dite_true,dite_false,Int.reduceEq,Int.reduceLT,Int.reduceLE]
   rw [bad fun h=>h1 h.1]
  by_cases h2:1<(P.count (gt P i):Int)
  ·simp only [n39,r39,f1,f3,hBX,netV_len,netV_0,netV_1,hlt,ld,ix,in_ok,decide_eq_true h1,hhas,eq_true h2,SB,Nat.reduceLT,callee,aOp,ne_eq,Nat.reduceEqDiff,aBin,aUn,if_true,if_false,reduceCtorEq,frame0,place,notTuple,Nat.reduceAdd,Nat.reduceLeDiff,resVal,dite_true,dite_false,Int.reduceEq,Int.reduceLT,Int.reduceLE]
   rw [bad fun h=>by omega]
  ·simp only [n39,r39,f1,f3,hBX,netV_len,netV_0,netV_1,hlt,ld,ix,in_ok,decide_eq_true h1,hhas,eq_false h2,hw1,SB,Nat.reduceLT,callee,aOp,ne_eq,Nat.reduceEqDiff,aBin,aUn,if_true,if_false,reduceCtorEq,frame0,place,notTuple,Nat.reduceAdd,Nat.reduceLeDiff,resVal,dite_true,dite_false,Int.reduceEq,Int.reduceLT,Int.reduceLE]
   exact hN (i+1) _ _ ⟨by omega,(by simp only [f1,FB,Nat.reduceEqDiff]),(by simp only [FB,Nat.reduceEqDiff]),hE.app,(Ext.refl.app).cells hB,fun j hj=>by
    rcases Nat.lt_or_ge j i with h | h
    ·exact hall j h
    ·obtain rfl:j=i:=by omega
     exact ⟨h1,by omega⟩⟩ (by omega)
 obtain rfl:i=P.length:=by omega
 have hP:PlantsOk P:=plants_count.2 hall
 rw [if_neg (by simpa using hP)] at hv
 simp only [n39,r39,f1,f3,hBX,netV_len,netV_0,netV_1,hlt,SB,Nat.reduceLT,callee,aOp,ne_eq,Nat.reduceEqDiff,aBin,aUn,if_true,if_false,reduceCtorEq,frame0,place,notTuple,Nat.reduceAdd,Nat.reduceLeDiff,resVal,dite_true,dite_false,Int.reduceEq,Int.reduceLT,Int.reduceLE]
 refine Ret_rounds (fun i=>L.length-i) (fun i fr2 G2=>i≤L.length∧fr2 1=.pointer (some ⟨H.length,0,none⟩)∧fr2 4=.int .i64 (i:Int)∧Ext H G2∧hget G2 H.length=.cells false (netV pp P.length cp pl L.length cl)∧∀j,j<i→lOk P L j) 0
  ⟨Nat.zero_le _,(by simp only [f1,FB,Nat.reduceEqDiff]),by rfl,hE.app,(Ext.refl.app).cells hB,fun j hj=>by omega⟩ ?_
 intro i fr2 G2 ⟨hi2,g1,g4,hE2,hB2,hall2⟩ hM
 rw [Ret_code l39_2.eq_1]
 refine Ret_pad ?_
 have hB2X:=fun X=>(Ext.refl.app (X:=X)).cells hB2
 have hn2:=hn.ext hE2
 have hl2:=hE2.len
 by_cases hlt2:i<L.length
 case neg=>
  obtain rfl:i=L.length:=by omega
  rw [if_neg (show ¬¬LegsOk P L from fun h=>h hall2)] at hv
  simp only [n39,r39,g1,g4,hB2X,netV_len,netV_0,netV_1,hlt2,hv,SB,Nat.reduceLT,callee,aOp,ne_eq,Nat.reduceEqDiff,aBin,aUn,if_true,if_false,reduceCtorEq,frame0,place,notTuple,Nat.reduceAdd,Nat.reduceLeDiff,resVal,dite_true,dite_false,Int.reduceEq,Int.reduceLT,Int.reduceLE]
 have ld:=fun X=>(hn2.sl.app X).loadCells encL_len hlt2
 have ix:=fun c (kk:IntKind) (H1:Heap)=>hn2.sl.idx (c:=c) (k:=kk) (H1:=H1) hlt2
 have hw1:IntKind.i64.wrap ((i:Int)+1)=((i+1:Nat):Int):=wrap_nat (by omega)
 have hby:=hn.bys _ (gt_mem hlt2)
 have hrt:=fun (H:Heap) (mp:Bool) (lim:Nat) (Q:Value→Heap→Prop)=>rright_ok (mp:=mp) (lim:=lim) (H:=H) (Q:=Q) hby
 have hhas:=fun X (a:Int) (mp:Bool) (lim:Nat) (Q:Value→Heap→Prop)=>has_ok (mp:=mp) (lim:=lim) (c:=cp) (a:=a) (Q:=Q) (hn2.sp.app X) (by omega)
 have bad:¬lOk P L i→validN P L=321:=fun h=>by rw [hv,if_pos fun hh=>h (hh i hlt2)]
 have cnt:∀a:Int,(P.count a:Int)=0↔a∉P:=fun a=>by rw [←List.count_eq_zero];omega
 by_cases h1:Fine (gt L i)
 case neg=>
  simp only [n39,r39,g1,g4,hB2X,netV_len,netV_0,netV_1,encL_len,encL_0,encL_1,encL_2,encL_3,encL_4,encL_5,encL_6,encL_7,take_all,hlt2,ld,ix,setAll_full,hl2,hrt,hhas,decide_eq_false h1,SB,Nat.reduceLT,callee,aOp,ne_eq,Nat.reduceEqDiff,aBin,aUn,if_true,if_false,reduceCtorEq,frame0,place,notTuple,Nat.reduceAdd,Nat.reduceLeDiff,resVal,dite_true,dite_false,Int.reduceEq,Int.reduceLT,Int.reduceLE]
  rw [bad fun h=>h1 h.1]
 by_cases h2:(gt L i).frm∈P
 case neg=>
  simp only [n39,r39,g1,g4,hB2X,netV_len,netV_0,netV_1,encL_len,encL_0,encL_1,encL_2,encL_3,encL_4,encL_5,encL_6,encL_7,take_all,hlt2,ld,ix,setAll_full,hl2,hrt,hhas,decide_eq_true h1,eq_true ((cnt _).2 h2),SB,Nat.reduceLT,callee,aOp,ne_eq,Nat.reduceEqDiff,aBin,aUn,if_true,if_false,reduceCtorEq,frame0,place,notTuple,Nat.reduceAdd,Nat.reduceLeDiff,resVal,dite_true,dite_false,Int.reduceEq,Int.reduceLT,Int.reduceLE]
  rw [bad fun h=>h2 h.2.2.1]
 by_cases h3:(gt L i).dst∈P
 case neg=>
  simp only [n39,r39,g1,g4,hB2X,netV_len,netV_0,netV_1,encL_len,encL_0,encL_1,encL_2,encL_3,encL_4,encL_5,encL_6,encL_7,take_all,hlt2,ld,ix,setAll_full,hl2,hrt,hhas,decide_eq_true h1,eq_false (fun h=>(cnt _).1 h h2),eq_true ((cnt _).2 h3),SB,Nat.reduceLT,callee,aOp,ne_eq,Nat.reduceEqDiff,aBin,aUn,if_true,if_false,reduceCtorEq,frame0,place,notTuple,Nat.reduceAdd,Nat.reduceLeDiff,resVal,dite_true,dite_false,Int.reduceEq,Int.reduceLT,Int.reduceLE]
  rw [bad fun h=>h3 h.2.2.2]
 simp only [n39,r39,g1,g4,hB2X,netV_len,netV_0,netV_1,encL_len,encL_0,encL_1,encL_2,encL_3,encL_4,encL_5,encL_6,encL_7,take_all,hlt2,ld,ix,setAll_full,hl2,hrt,hhas,decide_eq_true h1,eq_false (fun h=>(cnt _).1 h h2),eq_false (fun h=>(cnt _).1 h h3),SB,Nat.reduceLT,callee,aOp,ne_eq,Nat.reduceEqDiff,aBin,aUn,if_true,if_false,reduceCtorEq,frame0,place,notTuple,Nat.reduceAdd,Nat.reduceLeDiff,resVal,dite_true,dite_false,Int.reduceEq,Int.reduceLT,Int.reduceLE]
 refine rvalid_inner (R5:=G2.length) (cp:=cp) (cl:=cl) (hn2.app _) hlt2 ((Ext.refl.app).cells hB2) hget_new0 (by simp only [g1,FB,Nat.reduceEqDiff]) (by simp only [g4,FB,Nat.reduceEqDiff]) (by simp only [FB,Nat.reduceEqDiff]) (by simp only [FB,Nat.reduceEqDiff]) (fun hm=>?_) (fun hm fr3 k1 k4=>?_)
 ·rw [bad fun h=>h.2.1 hm]
 ·replace k1:fr3 1=.pointer (some ⟨H.length,0,none⟩):=k1.trans (by simp only [g1,FB,Nat.reduceEqDiff])
  replace k4:fr3 4=.int .i64 (i:Int):=k4.trans (by simp only [g4,FB,Nat.reduceEqDiff])
  simp only [n39,r39,k1,k4,hw1,SB,Nat.reduceLT,callee,aOp,ne_eq,Nat.reduceEqDiff,aBin,aUn,if_true,if_false,reduceCtorEq,frame0,place,notTuple,Nat.reduceAdd,Nat.reduceLeDiff,resVal,dite_true,dite_false,Int.reduceEq,Int.reduceLT,Int.reduceLE]
  exact hM (i+1) _ _ ⟨by omega,(by simp only [k1,FB,Nat.reduceEqDiff]),(by simp only [FB,Nat.reduceEqDiff]),hE2.app,(Ext.refl.app).cells hB2,fun j hj=>by
   rcases Nat.lt_or_ge j i with h | h
   ·exact hall2 j h
   ·obtain rfl:j=i:=by omega
    exact ⟨h1,hm,h2,h3⟩⟩ (by omega)
def onDay (l:Leg) (d:Int):Option (Int×Int):=if 0≤d∧d<730485 then depOn l d.toNat else none
theorem rruns_ok [OB] {mp:Bool} {lim w:Nat} {l:Leg} {H:Heap} {Q:Value→Heap→Prop} (hd:By l) (hw:w≤6):CallR E mp lim 103 [.agg (encL l).toArray,.int .i64 (w:Int)] H Q=Q (.bool (l.days.toNat / 2 ^ w % 2 == 1)) H:=by
 refine pc (by decide) e103 rfl rfl ?_
 rw [b103,c103]
 unfold By at hd
 obtain ⟨D,hD⟩:∃D:Nat,l.days=(D:Int):=⟨l.days.toNat,by omega⟩
 have wd:IntKind.i64.wrap l.days=l.days:=wrap_id (by omega) (by omega)
 simp only [n103,r103,encL_len,encL_0,encL_1,encL_2,encL_3,encL_4,encL_5,encL_6,encL_7,take_all,wd,SB,Nat.reduceLT,callee,aOp,ne_eq,Nat.reduceEqDiff,aBin,aUn,if_true,if_false,reduceCtorEq,frame0,place,notTuple,Nat.reduceAdd,Nat.reduceLeDiff,resVal,dite_true,dite_false,Int.reduceEq,Int.reduceLT,Int.reduceLE]
 rw [hD,Int.toNat_natCast]
 refine Ret_rounds (fun j=>w-j) (fun j fr G=>j≤w∧fr 1=.int .i64 (w:Int)∧fr 5=.int .i64 ((D / 2 ^ j:Nat):Int)∧fr 6=.int .i64 (j:Int)) 0 ⟨Nat.zero_le _,(by simp only [FB,Nat.reduceEqDiff]),by simp only [FB,Nat.reduceEqDiff,hD,Nat.pow_zero,Nat.div_one],by rfl⟩ ?_
 intro j fr G ⟨hj,f1,f5,f6⟩ hN
 rw [Ret_code l103_1.eq_1]
 refine Ret_pad ?_
 have hle:D / 2 ^ j≤D:=Nat.div_le_self _ _
 by_cases hlt:j<w
 ·have hw1:IntKind.i64.wrap ((j:Int)+1)=((j+1:Nat):Int):=wrap_nat (by omega)
  have hw2:IntKind.i64.wrap (Int.tdiv ((D / 2 ^ j:Nat):Int) 2)=((D / 2 ^ (j+1):Nat):Int):=by
   rw [show Int.tdiv ((D / 2 ^ j:Nat):Int) 2=((D / 2 ^ j / 2:Nat):Int) from rfl,Nat.div_div_eq_div_mul,show 2 ^ j*2=2 ^ (j+1) from rfl]
   have:D / 2 ^ (j+1)≤D:=Nat.div_le_self _ _
   generalize D / 2 ^ (j+1)=z at this⊢
   exact wrap_id (by omega) (by omega)
  simp only [n103,r103,f1,f5,f6,hlt,hw1,hw2,SB,Nat.reduceLT,callee,aOp,ne_eq,Nat.reduceEqDiff,aBin,aUn,if_true,if_false,reduceCtorEq,frame0,place,notTuple,Nat.reduceAdd,Nat.reduceLeDiff,resVal,dite_true,dite_false,Int.reduceEq,Int.reduceLT,Int.reduceLE]
  exact hN (j+1) _ _ ⟨by omega,(by simp only [f1,FB,Nat.reduceEqDiff]),(by simp only [FB,Nat.reduceEqDiff]),(by simp only [FB,Nat.reduceEqDiff])⟩ (by omega)
 ·obtain rfl:j=w:=by omega
  have hm:Int.tmod ((D / 2 ^ j:Nat):Int) 2=((D / 2 ^ j % 2:Nat):Int):=rfl
  have hz:D / 2 ^ j % 2<2:=Nat.mod_lt _ (by decide)
  generalize D / 2 ^ j % 2=z at hm hz
  have hw3:IntKind.i64.wrap (z:Int)=(z:Int):=wrap_id (by omega) (by omega)
  match z,hz,hm,hw3 with
  | 0,_,hm,hw3=>
    replace hm:Int.tmod ((D / 2 ^ j:Nat):Int) 2=0:=hm
    have w0:IntKind.i64.wrap 0=0:=by decide
    simp only [n103,r103,f1,f5,f6,hlt,hm,w0,SB,Nat.reduceLT,callee,aOp,ne_eq,Nat.reduceEqDiff,aBin,aUn,if_true,if_false,reduceCtorEq,frame0,place,notTuple,Nat.reduceAdd,Nat.reduceLeDiff,resVal,dite_true,dite_false,Int.reduceEq,Int.reduceLT,Int.reduceLE]
    rfl
  | 1,_,hm,hw3=>
    replace hm:Int.tmod ((D / 2 ^ j:Nat):Int) 2=1:=hm
    have w0:IntKind.i64.wrap 1=1:=by decide
    simp only [n103,r103,f1,f5,f6,hlt,hm,w0,SB,Nat.reduceLT,callee,aOp,ne_eq,Nat.reduceEqDiff,aBin,aUn,if_true,if_false,reduceCtorEq,frame0,place,notTuple,Nat.reduceAdd,Nat.reduceLeDiff,resVal,dite_true,dite_false,Int.reduceEq,Int.reduceLT,Int.reduceLE]
    rfl
theorem ron_ok [OB] {mp:Bool} {lim:Nat} {l:Leg} {d:Int} {H:Heap} {Q:Value→Heap→Prop} (hl:Fine l):CallR E mp lim 92 [.agg (encL l).toArray,.int .i64 d] H Q=Q (depV (onDay l d)) H:=by
 refine pc (by decide) e92 rfl depV_flat ?_
 rw [b92,c92]
 have hrt:=fun (H:Heap) (mp:Bool) (lim:Nat) (Q:Value→Heap→Prop)=>rright_ok (mp:=mp) (lim:=lim) (H:=H) (Q:=Q) hl.by
 rw [decide_eq_true hl] at hrt
 have hF:=hl
 unfold Fine at hF
 by_cases h1:0≤d∧d≤730484
 case neg=>
  have e:onDay l d=none:=by unfold onDay;rw [if_neg (by omega)]
  simp only [n92,r92,encL_len,encL_0,encL_1,encL_2,encL_3,encL_4,encL_5,encL_6,encL_7,take_all,hrt,in_ok,decide_eq_false h1,setAll_full,e,depV,SB,Nat.reduceLT,callee,aOp,ne_eq,Nat.reduceEqDiff,aBin,aUn,if_true,if_false,reduceCtorEq,frame0,place,notTuple,Nat.reduceAdd,Nat.reduceLeDiff,resVal,dite_true,dite_false,Int.reduceEq,Int.reduceLT,Int.reduceLE]
 obtain ⟨n,rfl⟩:∃n:Nat,d=(n:Int):=⟨d.toNat,by omega⟩
 have e:onDay l (n:Int)=depOn l n:=by unfold onDay;rw [if_pos (by omega),Int.toNat_natCast]
 rw [e]
 have hm:Int.tmod (n:Int) 7=((n % 7:Nat):Int):=rfl
 have wm:IntKind.i64.wrap ((n % 7:Nat):Int)=((n % 7:Nat):Int):=wrap_id (by omega) (by omega)
 have hrn:=fun (H:Heap) (mp:Bool) (lim:Nat) (Q:Value→Heap→Prop)=>rruns_ok (mp:=mp) (lim:=lim) (H:=H) (Q:=Q) (w:=n % 7) hl.by (by omega)
 have hg:goes l n=(l.days.toNat / 2 ^ (n % 7) % 2 == 1&&decide (0≤1440*(n:Int)+l.dep-l.cut)&&decide (1440*(n:Int)+l.dep+l.mins≤1051898399)):=rfl
 generalize (l.days.toNat / 2 ^ (n % 7) % 2 == 1)=b at hrn hg
 have w1:IntKind.i64.wrap ((n:Int)*1440)=1440*(n:Int):=by rw [wrap_id (by omega) (by omega)];omega
 have w2:IntKind.i64.wrap (1440*(n:Int)+l.dep)=1440*(n:Int)+l.dep:=wrap_id (by omega) (by omega)
 have w3:IntKind.i64.wrap (1440*(n:Int)+l.dep-l.cut)=1440*(n:Int)+l.dep-l.cut:=wrap_id (by omega) (by omega)
 have w4:IntKind.i64.wrap (1440*(n:Int)+l.dep+l.mins)=1440*(n:Int)+l.dep+l.mins:=wrap_id (by omega) (by omega)
 have no:goes l n=false→depOn l n=none:=fun h=>by unfold depOn;rw [h];rfl
 cases b with
 | false=>
   have e2:=no (by rw [hg];rfl)
   simp only [n92,r92,encL_len,encL_0,encL_1,encL_2,encL_3,encL_4,encL_5,encL_6,encL_7,take_all,hrt,in_ok,decide_eq_true h1,hm,wm,hrn,w1,w2,w3,w4,setAll_full,e2,depV,SB,Nat.reduceLT,callee,aOp,ne_eq,Nat.reduceEqDiff,aBin,aUn,if_true,if_false,reduceCtorEq,frame0,place,notTuple,Nat.reduceAdd,Nat.reduceLeDiff,resVal,dite_true,dite_false,Int.reduceEq,Int.reduceLT,Int.reduceLE]
 | true=>
   by_cases h2:1440*(n:Int)+l.dep-l.cut<0
   ·have e2:=no (by rw [hg,decide_eq_false (by omega)];rfl)
    simp only [n92,r92,encL_len,encL_0,encL_1,encL_2,encL_3,encL_4,encL_5,encL_6,encL_7,take_all,hrt,in_ok,decide_eq_true h1,hm,wm,hrn,w1,w2,w3,w4,setAll_full,eq_true h2,e2,depV,SB,Nat.reduceLT,callee,aOp,ne_eq,Nat.reduceEqDiff,aBin,aUn,if_true,if_false,reduceCtorEq,frame0,place,notTuple,Nat.reduceAdd,Nat.reduceLeDiff,resVal,dite_true,dite_false,Int.reduceEq,Int.reduceLT,Int.reduceLE]
   ·by_cases h3:1051898399<1440*(n:Int)+l.dep+l.mins
    ·have e2:=no (by rw [hg,decide_eq_false (p:=_≤(1051898399:Int)) (by omega),Bool.and_false])
     simp only [n92,r92,encL_len,encL_0,encL_1,encL_2,encL_3,encL_4,encL_5,encL_6,encL_7,take_all,hrt,in_ok,decide_eq_true h1,hm,wm,hrn,w1,w2,w3,w4,setAll_full,eq_false h2,eq_true h3,e2,depV,SB,Nat.reduceLT,callee,aOp,ne_eq,Nat.reduceEqDiff,aBin,aUn,if_true,if_false,reduceCtorEq,frame0,place,notTuple,Nat.reduceAdd,Nat.reduceLeDiff,resVal,dite_true,dite_false,Int.reduceEq,Int.reduceLT,Int.reduceLE]
    ·have e2:depOn l n=some (1440*(n:Int)+l.dep,1440*(n:Int)+l.dep+l.mins):=by
      unfold depOn
      rw [hg,decide_eq_true (p:=_≤(1051898399:Int)) (by omega),decide_eq_true (by omega)];rfl
     simp only [n92,r92,encL_len,encL_0,encL_1,encL_2,encL_3,encL_4,encL_5,encL_6,encL_7,take_all,hrt,in_ok,decide_eq_true h1,hm,wm,hrn,w1,w2,w3,w4,setAll_full,eq_false h2,eq_false h3,e2,depV,SB,Nat.reduceLT,callee,aOp,ne_eq,Nat.reduceEqDiff,aBin,aUn,if_true,if_false,reduceCtorEq,frame0,place,notTuple,Nat.reduceAdd,Nat.reduceLeDiff,resVal,dite_true,dite_false,Int.reduceEq,Int.reduceLT,Int.reduceLE]
theorem rplace_ok [OB] {mp:Bool} {lim:Nat} {pp pl:Option Addr} {P:List Int} {L:List Leg} {cp cl:Nat} {p:Int} {H:Heap} {Q:Value→Heap→Prop} (hn:NetIn H pp pl P L) :
  CallR E mp lim 83 [.agg (netV pp P.length cp pl L.length cl).toArray,.int .i64 p] H Q=Q (.int .i64 (placeN P p)) H:=by
 refine pc (by decide) e83 rfl rfl ?_
 rw [b83,c83]
 simp only [n83,r83,netV_len,netV_0,netV_1,SB,Nat.reduceLT,callee,aOp,ne_eq,Nat.reduceEqDiff,aBin,aUn,if_true,if_false,reduceCtorEq,frame0,place,notTuple,Nat.reduceAdd,Nat.reduceLeDiff,resVal,dite_true,dite_false,Int.reduceEq,Int.reduceLT,Int.reduceLE]
 refine Ret_rounds (fun i=>P.length-i) (fun i fr G=>i≤P.length∧fr 1=.int .i64 p∧fr 2=.pointer (some ⟨H.length,0,none⟩)∧fr 5=.int .i64 (i:Int)∧Ext H G∧hget G H.length=.cells false (netV pp P.length cp pl L.length cl)∧∀j,j<i→gt P j≠p) 0
  ⟨Nat.zero_le _,(by simp only [FB,Nat.reduceEqDiff]),(by simp only [FB,Nat.reduceEqDiff]),by rfl,Ext.refl.app,hget_new0,fun j hj=>by omega⟩ ?_
 intro i fr G ⟨hi,h1,h2,h5,hE,hb,hall⟩ hN
 rw [Ret_code l83_1.eq_1]
 refine Ret_pad ?_
 have hbX:=fun X=>(Ext.refl.app (X:=X)).cells hb
 by_cases hlt:i<P.length
 ·have hld:=fun X=>((hE.sl hn.sp).app X).loadCell0 encI_len hlt (by decide)
  simp only [encI,List.getElem?_cons_zero] at hld
  have hidx:=fun c (k:IntKind) (H1:Heap)=>(hE.sl hn.sp).idx (c:=c) (k:=k) (H1:=H1) hlt
  have hw1:IntKind.i64.wrap ((i:Int)+1)=((i+1:Nat):Int):=wrap_nat (by have:=hn.np;omega)
  by_cases he:gt P i=p
  ·simp only [n83,r83,h1,h2,h5,hbX,netV_len,netV_0,netV_1,hlt,hidx,hld,hw1,eq_true he,SB,Nat.reduceLT,callee,aOp,ne_eq,Nat.reduceEqDiff,aBin,aUn,if_true,if_false,reduceCtorEq,frame0,place,notTuple,Nat.reduceAdd,Nat.reduceLeDiff,resVal,dite_true,dite_false,Int.reduceEq,Int.reduceLT,Int.reduceLE]
   congr 1
   have hm:p∈P:=he▸gt_mem hlt
   rw [placeN,if_pos hm]
   have h1:posN P p≤i:=by
    unfold posN
    apply Decidable.byContradiction;intro hc
    have:=List.not_of_lt_findIdx (xs:=P) (p:=(· == p)) (i:=i) (by unfold List.idxOf at hc;omega)
    rw [gt_lt hlt] at he
    simp [he] at this
   rcases Nat.lt_or_ge (posN P p) i with h3 | h3
   ·exfalso
    have hl:posN P p<P.length:=List.idxOf_lt_length_of_mem hm
    have:=List.getElem_idxOf hl
    refine hall _ h3 ?_
    rw [gt_lt hl];exact this
   ·omega
  ·simp only [n83,r83,h1,h2,h5,hbX,netV_len,netV_0,netV_1,hlt,hidx,hld,hw1,eq_false he,SB,Nat.reduceLT,callee,aOp,ne_eq,Nat.reduceEqDiff,aBin,aUn,if_true,if_false,reduceCtorEq,frame0,place,notTuple,Nat.reduceAdd,Nat.reduceLeDiff,resVal,dite_true,dite_false,Int.reduceEq,Int.reduceLT,Int.reduceLE]
   exact hN (i+1) _ _ ⟨by omega,(by simp only [h1,FB,Nat.reduceEqDiff]),(by simp only [h2,FB,Nat.reduceEqDiff]),(by simp only [FB,Nat.reduceEqDiff]),hE.app,(Ext.refl.app).cells hb,fun j hj=>by
    rcases Nat.lt_or_ge j i with h | h
    ·exact hall j h
    ·obtain rfl:j=i:=by omega
     exact he⟩ (by omega)
 ·obtain rfl:i=P.length:=by omega
  simp only [n83,r83,h1,h2,h5,hbX,netV_len,netV_0,netV_1,hlt,SB,Nat.reduceLT,callee,aOp,ne_eq,Nat.reduceEqDiff,aBin,aUn,if_true,if_false,reduceCtorEq,frame0,place,notTuple,Nat.reduceAdd,Nat.reduceLeDiff,resVal,dite_true,dite_false,Int.reduceEq,Int.reduceLT,Int.reduceLE]
  rw [placeN,if_neg fun hm=>?_]
  obtain ⟨j,hj,he⟩:=List.mem_iff_getElem.1 hm
  exact hall j hj (by rw [gt_lt hj];exact he)
theorem rcheck_ok [OB] {mp:Bool} {lim:Nat} {pp pl:Option Addr} {P:List Int} {L:List Leg} {cp cl:Nat} {a b t:Int} {H:Heap} {Q:Value→Heap→Prop} (hn:NetIn H pp pl P L) :
  CallR E mp lim 65 [.agg (netV pp P.length cp pl L.length cl).toArray,.int .i64 a,.int .i64 b,.int .i64 t] H Q=Q (.int .i64 (errA P L a b t)) H:=by
 refine pc (by decide) e65 rfl rfl ?_
 rw [b65,c65]
 have hv:=fun X (mp:Bool) (lim:Nat) (Q:Value→Heap→Prop)=>rvalid_ok (mp:=mp) (lim:=lim) (cp:=cp) (cl:=cl) (Q:=Q) (hn.app X)
 have hp:=fun X (a:Int) (mp:Bool) (lim:Nat) (Q:Value→Heap→Prop)=>rplace_ok (mp:=mp) (lim:=lim) (cp:=cp) (cl:=cl) (Q:=Q) (p:=a) (hn.app X)
 by_cases h0:validN P L=0
 case neg=>
  have e:errA P L a b t=validN P L:=by unfold errA;rw [if_pos h0]
  simp only [n65,r65,netV_len,netV_0,netV_1,take_all,hv,eq_false h0,e,SB,Nat.reduceLT,callee,aOp,ne_eq,Nat.reduceEqDiff,aBin,aUn,if_true,if_false,reduceCtorEq,frame0,place,notTuple,Nat.reduceAdd,Nat.reduceLeDiff,resVal,dite_true,dite_false,Int.reduceEq,Int.reduceLT,Int.reduceLE]
 have e2:¬(a∈P∧b∈P∧0≤t∧t≤maxTime)→errA P L a b t=2:=fun h=>by unfold errA;rw [if_neg (by simpa using h0),if_neg h]
 have pa:=placeN_nn (P:=P) (p:=a)
 have pb:=placeN_nn (P:=P) (p:=b)
 by_cases h1:placeN P a<0
 ·have e:=e2 fun h=>by have:=pa.2 h.1;omega
  simp only [n65,r65,netV_len,netV_0,netV_1,take_all,hv,hp,eq_true h0,eq_true h1,e,SB,Nat.reduceLT,callee,aOp,ne_eq,Nat.reduceEqDiff,aBin,aUn,if_true,if_false,reduceCtorEq,frame0,place,notTuple,Nat.reduceAdd,Nat.reduceLeDiff,resVal,dite_true,dite_false,Int.reduceEq,Int.reduceLT,Int.reduceLE]
 by_cases h2:placeN P b<0
 ·have e:=e2 fun h=>by have:=pb.2 h.2.1;omega
  simp only [n65,r65,netV_len,netV_0,netV_1,take_all,hv,hp,eq_true h0,eq_false h1,eq_true h2,e,SB,Nat.reduceLT,callee,aOp,ne_eq,Nat.reduceEqDiff,aBin,aUn,if_true,if_false,reduceCtorEq,frame0,place,notTuple,Nat.reduceAdd,Nat.reduceLeDiff,resVal,dite_true,dite_false,Int.reduceEq,Int.reduceLT,Int.reduceLE]
 by_cases h3:t<0
 ·have e:=e2 fun h=>by omega
  simp only [n65,r65,netV_len,netV_0,netV_1,take_all,hv,hp,eq_true h0,eq_false h1,eq_false h2,eq_true h3,e,SB,Nat.reduceLT,callee,aOp,ne_eq,Nat.reduceEqDiff,aBin,aUn,if_true,if_false,reduceCtorEq,frame0,place,notTuple,Nat.reduceAdd,Nat.reduceLeDiff,resVal,dite_true,dite_false,Int.reduceEq,Int.reduceLT,Int.reduceLE]
 by_cases h4:1051898399<t
 ·have e:=e2 fun h=>by unfold maxTime at h;omega
  simp only [n65,r65,netV_len,netV_0,netV_1,take_all,hv,hp,eq_true h0,eq_false h1,eq_false h2,eq_false h3,eq_true h4,e,SB,Nat.reduceLT,callee,aOp,ne_eq,Nat.reduceEqDiff,aBin,aUn,if_true,if_false,reduceCtorEq,frame0,place,notTuple,Nat.reduceAdd,Nat.reduceLeDiff,resVal,dite_true,dite_false,Int.reduceEq,Int.reduceLT,Int.reduceLE]
 have e:errA P L a b t=0:=by unfold errA;rw [if_neg (by simpa using h0),if_pos ⟨pa.1 (by omega),pb.1 (by omega),by omega,by unfold maxTime;omega⟩]
 simp only [n65,r65,netV_len,netV_0,netV_1,take_all,hv,hp,eq_true h0,eq_false h1,eq_false h2,eq_false h3,eq_false h4,e,SB,Nat.reduceLT,callee,aOp,ne_eq,Nat.reduceEqDiff,aBin,aUn,if_true,if_false,reduceCtorEq,frame0,place,notTuple,Nat.reduceAdd,Nat.reduceLeDiff,resVal,dite_true,dite_false,Int.reduceEq,Int.reduceLT,Int.reduceLE]
def firstN (t:Int):Int:=if t<0 then 0 else if 1051898399<t then 730485 else Int.tdiv t 1440
theorem rfirst_ok [OB] {mp:Bool} {lim:Nat} {t:Int} {H:Heap} {Q:Value→Heap→Prop} (ht:-2 ^ 62<t∧t<2 ^ 62):CallR E mp lim 97 [.int .i64 t] H Q=Q (.int .i64 (firstN t)) H:=by
 refine pc (by decide) e97 rfl rfl ?_
 rw [b97,c97]
 by_cases h1:t<0
 ·simp only [n97,r97,eq_true h1,SB,Nat.reduceLT,callee,aOp,ne_eq,Nat.reduceEqDiff,aBin,aUn,if_true,if_false,reduceCtorEq,frame0,place,notTuple,Nat.reduceAdd,Nat.reduceLeDiff,resVal,dite_true,dite_false,Int.reduceEq,Int.reduceLT,Int.reduceLE]
  unfold firstN;rw [if_pos h1]
 ·by_cases h2:1051898399<t
  ·simp only [n97,r97,eq_false h1,eq_true h2,SB,Nat.reduceLT,callee,aOp,ne_eq,Nat.reduceEqDiff,aBin,aUn,if_true,if_false,reduceCtorEq,frame0,place,notTuple,Nat.reduceAdd,Nat.reduceLeDiff,resVal,dite_true,dite_false,Int.reduceEq,Int.reduceLT,Int.reduceLE]
   unfold firstN;rw [if_neg h1,if_pos h2]
  ·simp only [n97,r97,eq_false h1,eq_false h2,SB,Nat.reduceLT,callee,aOp,ne_eq,Nat.reduceEqDiff,aBin,aUn,if_true,if_false,reduceCtorEq,frame0,place,notTuple,Nat.reduceAdd,Nat.reduceLeDiff,resVal,dite_true,dite_false,Int.reduceEq,Int.reduceLT,Int.reduceLE]
   unfold firstN;rw [if_neg h1,if_neg h2]
   have:=Int.tdiv_eq_ediv_of_nonneg (a:=t) (b:=1440) (by omega)
   rw [wrap_id (by omega) (by omega)]
theorem goes_week {l:Leg} {d e:Nat} (hl:Fine l) (h:goes l d=true) (h7:d % 7=e % 7) (hed:e≤d) (h0:7≤e):goes l e=true:=by
 unfold goes runs at *
 unfold Fine at hl
 simp only [Bool.and_eq_true,decide_eq_true_eq] at h⊢
 rw [←h7]
 refine ⟨⟨h.1.1,by omega⟩,by omega⟩
theorem next_in {l:Leg} {r:Int} (hl:Fine l) (hr:0≤r) {e0:Nat} (he:(e0:Int)=r / 1440) (hno:∀i:Nat,i<30→∀a b,onDay l ((e0+i:Nat):Int)=some (a,b)→¬r≤a-l.cut):nextD l r=none:=by
 refine nextD_no fun d hd ⟨hg,hge⟩=>?_
 have hl':=hl
 unfold Fine at hl'
 have hd0:e0≤d:=by omega
 have dn:=dayN_eq
 have key:∀i:Nat,i<30→e0+i<dayN→goes l (e0+i)=true→¬r≤1440*((e0+i:Nat):Int)+l.dep-l.cut:=fun i hi hn hg=>by
  refine hno i hi _ (1440*((e0+i:Nat):Int)+l.dep+l.mins) ?_
  unfold onDay depOn
  rw [if_pos ⟨by omega,by omega⟩,Int.toNat_natCast,if_pos hg]
 rcases Nat.lt_or_ge d (e0+30) with h | h
 ·have:=key (d-e0) (by omega) (by omega) (by rw [show e0+(d-e0)=d by omega];exact hg)
  rw [show e0+(d-e0)=d by omega] at this
  exact this hge
 ·obtain ⟨k,hk⟩:∃k,k=(d-(e0+10)) % 7:=⟨_,rfl⟩
  have h2:=goes_week (e:=e0+(10+k)) hl hg (by omega) (by omega) (by omega)
  exact key (10+k) (by omega) (by omega) h2 (by omega)
theorem next_at {l:Leg} {r:Int} (hl:Fine l) (hr:0≤r) {e0 i:Nat} (he:(e0:Int)=r / 1440) {a b:Int} (hi:onDay l ((e0+i:Nat):Int)=some (a,b)) (hge:r≤a-l.cut) (hno:∀j:Nat,j<i→∀a b,onDay l ((e0+j:Nat):Int)=some (a,b)→¬r≤a-l.cut):nextD l r=some a∧b=a+l.mins:=by
 unfold onDay depOn at hi
 split at hi
 case isFalse=>cases hi
 rename_i h1
 rw [Int.toNat_natCast] at hi
 split at hi
 case isFalse=>cases hi
 rename_i h2
 cases hi
 have dn:=dayN_eq
 have hl':=hl
 unfold Fine at hl'
 refine ⟨nextD_is (by omega) h2 hge fun d hd ⟨hg,hge'⟩=>?_,rfl⟩
 have hd0:e0≤d:=by omega
 refine hno (d-e0) (by omega) (1440*(d:Int)+l.dep) (1440*(d:Int)+l.dep+l.mins) ?_ hge'
 unfold onDay depOn
 rw [show e0+(d-e0)=d by omega,if_pos ⟨by omega,by omega⟩,Int.toNat_natCast,if_pos hg]
theorem rnext_ok [OB] {mp:Bool} {lim:Nat} {l:Leg} {r:Int} {H:Heap} {Q:Value→Heap→Prop} (hl:Fine l) (hr:0≤r) (hr2:r<2 ^ 40):CallR E mp lim 84 [.agg (encL l).toArray,.int .i64 r] H Q=Q (depV ((nextD l r).map fun a=>(a,a+l.mins))) H:=by
 refine pc (by decide) e84 rfl depV_flat ?_
 rw [b84,c84]
 have hF:=hl
 unfold Fine at hF
 obtain ⟨e0,he0⟩:∃e0:Nat,firstN r=e0:=⟨(firstN r).toNat,by unfold firstN;split<;>(try split)<;>(try have:=Int.tdiv_eq_ediv_of_nonneg (a:=r) (b:=1440) (by omega))<;>omega⟩
 have hfst:∀(H:Heap) (mp:Bool) (lim:Nat) (Q:Value→Heap→Prop),CallR E mp lim 97 [.int .i64 r] H Q=Q (.int .i64 (e0:Int)) H:=fun H mp lim Q=>by rw [←he0];exact rfirst_ok ⟨by omega,by omega⟩
 have hfb:e0≤730485:=by
  have:firstN r≤730485:=by
   unfold firstN;split<;>(try split)<;>(try have:=Int.tdiv_eq_ediv_of_nonneg (a:=r) (b:=1440) (by omega))<;>omega
  omega
 have hon:=fun (d:Int) (H:Heap) (mp:Bool) (lim:Nat) (Q:Value→Heap→Prop)=>ron_ok (mp:=mp) (lim:=lim) (d:=d) (H:=H) (Q:=Q) hl
 have hfin:(∀i:Nat,i<30→∀a b,onDay l ((e0+i:Nat):Int)=some (a,b)→¬r≤a-l.cut)→nextD l r=none:=fun h=>by
  by_cases hbig:1051898399<r
  ·exact nextD_late hl hbig
  ·refine next_in hl hr ?_ h
   rw [←he0];unfold firstN;rw [if_neg (by omega),if_neg hbig,Int.tdiv_eq_ediv_of_nonneg hr]
 have hat:∀i:Nat,i<30→∀a b,onDay l ((e0+i:Nat):Int)=some (a,b)→r≤a-l.cut→(∀j:Nat,j<i→∀a b,onDay l ((e0+j:Nat):Int)=some (a,b)→¬r≤a-l.cut)→nextD l r=some a∧b=a+l.mins:=fun i hi a b h1 h2 h3=>by
  by_cases hbig:1051898399<r
  ·exfalso
   have e:(e0:Int)=730485:=by rw [←he0];unfold firstN;rw [if_neg (by omega),if_pos hbig]
   unfold onDay at h1
   rw [if_neg (by omega)] at h1
   cases h1
  ·exact next_at hl hr (by rw [←he0];unfold firstN;rw [if_neg (by omega),if_neg hbig,Int.tdiv_eq_ediv_of_nonneg hr]) h1 h2 h3
 simp only [n84,r84,encL_len,encL_0,encL_1,encL_2,encL_3,encL_4,encL_5,encL_6,encL_7,take_all,hfst,setAll_full,SB,Nat.reduceLT,callee,aOp,ne_eq,Nat.reduceEqDiff,aBin,aUn,if_true,if_false,reduceCtorEq,frame0,place,notTuple,Nat.reduceAdd,Nat.reduceLeDiff,resVal,dite_true,dite_false,Int.reduceEq,Int.reduceLT,Int.reduceLE]
 refine Ret_rounds (fun i=>30-i) (fun i fr G=>i≤30∧fr 1=.int .i64 r∧fr 2=.pointer (some ⟨H.length,0,none⟩)∧fr 4=.pointer (some ⟨H.length+1,0,none⟩)∧fr 6=.int .i64 (e0:Int)∧fr 7=.int .i64 ((e0+i:Nat):Int)∧H.length+2≤G.length∧hget G H.length=.cells false (encL l)∧hget G (H.length+1)=.cells false [.int .i64 0,.int .i64 0]∧∀j:Nat,j<i→∀a b,onDay l ((e0+j:Nat):Int)=some (a,b)→¬r≤a-l.cut) 0
  ⟨Nat.zero_le _,(by simp only [FB,Nat.reduceEqDiff]),(by simp only [FB,Nat.reduceEqDiff]),(by simp only [FB,Nat.reduceEqDiff]),(by simp only [FB,Nat.reduceEqDiff]),by rfl,by simp,by rw [hget_new0];rfl,by rw [hget_new];rfl,fun j hj=>by omega⟩ ?_
 intro i fr G ⟨hi,g1,g2,g4,g6,g7,hlG,hb,hb4,hall⟩ hN
 rw [Ret_code l84_1.eq_1]
 refine Ret_pad ?_
 have hHG:H.length≤G.length:=by omega
 have w1:IntKind.i64.wrap ((e0:Int)+30)=(e0:Int)+30:=wrap_id (by omega) (by omega)
 have bX:=fun X=>(Ext.refl.app (X:=X)).cells hb
 have b4X:=fun X=>(Ext.refl.app (X:=X)).cells hb4
 by_cases hlt:i<30
 case neg=>
  obtain rfl:i=30:=by omega
  have hno:=hfin hall
  have h1:=eq_false (show ¬((e0+30:Nat):Int)<(e0:Int)+30 by omega)
  have hs:=fun b=>hget_set_eq (X:=G++[]) (j:=H.length+1) (b:=b) (by simp;omega)
  simp only [n84,r84,g1,g2,g4,g6,g7,w1,h1,b4X,hs,hno,Option.map_none,depV,take_all,SB,Nat.reduceLT,callee,aOp,ne_eq,Nat.reduceEqDiff,aBin,aUn,if_true,if_false,reduceCtorEq,frame0,place,notTuple,Nat.reduceAdd,Nat.reduceLeDiff,resVal,dite_true,dite_false,Int.reduceEq,Int.reduceLT,Int.reduceLE]
 have h1:=eq_true (show ((e0+i:Nat):Int)<(e0:Int)+30 by omega)
 have wi:IntKind.i64.wrap (((e0+i:Nat):Int)+1)=((e0+(i+1):Nat):Int):=by rw [wrap_id (by omega) (by omega)];omega
 have hr0:=eq_false (show ¬r<0 by omega)
 rcases hod:onDay l ((e0+i:Nat):Int) with _ | ⟨a,b⟩
 ·have hon1:=fun (H:Heap) (mp:Bool) (lim:Nat) (Q:Value→Heap→Prop)=>hon ((e0+i:Nat):Int) H mp lim Q
  rw [hod] at hon1
  simp only [depV] at hon1
  simp only [n84,r84,g1,g2,g4,g6,g7,w1,h1,bX,encL_len,encL_0,encL_1,encL_2,encL_3,encL_4,encL_5,encL_6,encL_7,take_all,hon1,hHG,setAll_full,wi,SB,Nat.reduceLT,callee,aOp,ne_eq,Nat.reduceEqDiff,aBin,aUn,if_true,if_false,reduceCtorEq,frame0,place,notTuple,Nat.reduceAdd,Nat.reduceLeDiff,resVal,dite_true,dite_false,Int.reduceEq,Int.reduceLT,Int.reduceLE]
  exact hN (i+1) _ _ ⟨by omega,(by simp only [g1,FB,Nat.reduceEqDiff]),(by simp only [g2,FB,Nat.reduceEqDiff]),(by simp only [g4,FB,Nat.reduceEqDiff]),(by simp only [g6,FB,Nat.reduceEqDiff]),(by simp only [FB,Nat.reduceEqDiff]),by simp;omega,(Ext.refl.app).cells hb,(Ext.refl.app).cells hb4,fun j hj a b h=>by
   rcases Nat.lt_or_ge j i with h2 | h2
   ·exact hall j h2 a b h
   ·obtain rfl:j=i:=by omega
    rw [hod] at h;cases h⟩ (by omega)
 have hab:0≤a∧a≤1051898399:=by
  unfold onDay depOn goes at hod
  split at hod
  case isFalse=>cases hod
  split at hod
  case isFalse=>cases hod
  rename_i h2 h3
  cases hod
  simp only [Bool.and_eq_true,decide_eq_true_eq] at h3
  have mt:maxTime=1051898399:=rfl
  omega
 have w2:IntKind.i64.wrap (a-l.cut)=a-l.cut:=wrap_id (by omega) (by omega)
 have hon1:=fun (H:Heap) (mp:Bool) (lim:Nat) (Q:Value→Heap→Prop)=>hon ((e0+i:Nat):Int) H mp lim Q
 rw [hod] at hon1
 simp only [depV] at hon1
 by_cases hge:r≤a-l.cut
 ·obtain ⟨hx,hy⟩:=hat i hlt a b hod hge hall
  have hs:=fun X b=>hget_set_eq (X:=G++X) (j:=H.length+1) (b:=b) (by simp;omega)
  simp only [n84,r84,g1,g2,g4,g6,g7,w1,h1,bX,b4X,encL_len,encL_0,encL_1,encL_2,encL_3,encL_4,encL_5,encL_6,encL_7,take_all,hon1,hHG,setAll_full,wi,hr0,w2,eq_true hge,hs,hx,hy,Option.map_some,depV,take_all,SB,Nat.reduceLT,callee,aOp,ne_eq,Nat.reduceEqDiff,aBin,aUn,if_true,if_false,reduceCtorEq,frame0,place,notTuple,Nat.reduceAdd,Nat.reduceLeDiff,resVal,dite_true,dite_false,Int.reduceEq,Int.reduceLT,Int.reduceLE]
 ·simp only [n84,r84,g1,g2,g4,g6,g7,w1,h1,bX,encL_len,encL_0,encL_1,encL_2,encL_3,encL_4,encL_5,encL_6,encL_7,take_all,hon1,hHG,setAll_full,wi,hr0,w2,eq_false hge,SB,Nat.reduceLT,callee,aOp,ne_eq,Nat.reduceEqDiff,aBin,aUn,if_true,if_false,reduceCtorEq,frame0,place,notTuple,Nat.reduceAdd,Nat.reduceLeDiff,resVal,dite_true,dite_false,Int.reduceEq,Int.reduceLT,Int.reduceLE]
  exact hN (i+1) _ _ ⟨by omega,(by simp only [g1,FB,Nat.reduceEqDiff]),(by simp only [g2,FB,Nat.reduceEqDiff]),(by simp only [g4,FB,Nat.reduceEqDiff]),(by simp only [g6,FB,Nat.reduceEqDiff]),(by simp only [FB,Nat.reduceEqDiff]),by simp;omega,(Ext.refl.app).cells hb,(Ext.refl.app).cells hb4,fun j hj a' b' h=>by
   rcases Nat.lt_or_ge j i with h2 | h2
   ·exact hall j h2 a' b' h
   ·obtain rfl:j=i:=by omega
    rw [hod] at h;cases h;exact hge⟩ (by omega)
theorem legs_loop [OB] {lim A5 Rb Ra cb ca cp cl:Nat} {pp pl:Option Addr} {P:List Int} {L:List Leg} {bef:List Int} {ul:Int} {G0:Heap} {fr:Nat→Value} {K:List AItem} {Z:Value→Heap→Prop} (hno:NetOk 50 P L (posN P)) (h50:P.length≤50) (hLl:L.length<2 ^ 60)
  (hnet:∀G,Chg [Ra] G0 G→NetIn G pp pl P L) (hlim:lim≤Ra) (hlG0:lim≤G0.length) (hb5:hget G0 A5=.cells false (netV pp P.length cp pl L.length cl)) (h5a:A5≠Ra) (hbef:hget G0 Rb=.cells false (bef.flatMap encI)) (hba:Rb≠Ra) (hbl:bef.length=P.length) (hbr:∀x∈bef,x<2 ^ 40)
  (haft:hget G0 Ra=.cells false (bef.flatMap encI)) (f3:fr 3=.int .i64 ul) (f5:fr 5=.pointer (some ⟨A5,0,none⟩)) (f11:fr 11=.slice (some ⟨Rb,0,none⟩) P.length cb) (f14:fr 14=.slice (some ⟨Ra,0,none⟩) P.length ca) (f15:fr 15=.int .i64 0)
  (hR:∀fr' G,Chg [Ra] G0 G→hget G Ra=.cells false ((stepA (posN P) ul L bef).flatMap encI)→(∀j,j≤14→fr' j=fr j)→Ret E a66 lim K fr' G Z) :
  Ret E a66 lim (.code (.loop l66_1)::.inBlock 4::K) fr G0 Z:=by
 refine Ret_rounds (fun i=>L.length-i) (fun i fr' G=>i≤L.length∧Chg [Ra] G0 G∧hget G Ra=.cells false (((L.take i).foldl (useA (posN P) ul bef) bef).flatMap encI)∧(∀j,j≤14→fr' j=fr j)∧fr' 15=.int .i64 (i:Int)) 0
  ⟨Nat.zero_le _,Chg.refl,haft,fun _ _=>rfl,by rw [f15];rfl⟩ ?_
 intro i fr' G ⟨hi,hC,hA,hfr,g15⟩ hN
 rw [Ret_code l66_1.eq_1]
 have g3:=(hfr 3 (by decide)).trans f3
 have g5:=(hfr 5 (by decide)).trans f5
 have g11:=(hfr 11 (by decide)).trans f11
 have g14:=(hfr 14 (by decide)).trans f14
 have hn:=hnet G hC
 have b5:=hC.cells hb5 (by simpa using h5a)
 have b5X:=fun X=>(Ext.refl.app (X:=X)).cells b5
 have hlG:lim≤G.length:=Nat.le_trans hlG0 hC.len
 have hfr':∀(f:Nat→Value),(∀j,j≤14→f j=fr' j)→∀j,j≤14→f j=fr j:=fun f h j hj=>(h j hj).trans (hfr j hj)
 refine Ret_pad ?_
 by_cases hlt:i<L.length
 case neg=>
  obtain rfl:i=L.length:=by omega
  rw [List.take_length] at hA
  simp only [n66,r66,g3,g5,g11,g14,g15,b5X,netV_len,netV_0,netV_1,hlt,SB,Nat.reduceLT,callee,aOp,ne_eq,Nat.reduceEqDiff,aBin,aUn,if_true,if_false,reduceCtorEq,frame0,place,notTuple,Nat.reduceAdd,Nat.reduceLeDiff,resVal,dite_true,dite_false,Int.reduceEq,Int.reduceLT,Int.reduceLE]
  exact hR _ _ hC.app ((Ext.refl.app).cells hA) fun j hj=>by
   rw [←hfr j hj]
   simp only [upd]
   repeat rw [if_neg (by omega)]
 have hll:=gt_mem (l:=L) (i:=i) hlt
 have hf:=hno.frm _ hll
 have hd:=hno.dst _ hll
 have hfine:=hno.fine _ hll
 have hstep:(L.take (i+1)).foldl (useA (posN P) ul bef) bef=useA (posN P) ul bef ((L.take i).foldl (useA (posN P) ul bef) bef) (gt L i):=foldl_take hlt
 have hafl:((L.take i).foldl (useA (posN P) ul bef) bef).length=P.length:=by rw [foldA_len,hbl]
 have hpf:posN P (gt L i).frm<P.length:=List.idxOf_lt_length_of_mem hf
 have hpd:posN P (gt L i).dst<P.length:=List.idxOf_lt_length_of_mem hd
 have hp1:∀(X:Heap) (mp:Bool) (lim:Nat) (Q:Value→Heap→Prop),CallR E mp lim 83 [.agg (netV pp P.length cp pl L.length cl).toArray,.int .i64 (gt L i).frm] (G++X) Q=Q (.int .i64 (posN P (gt L i).frm:Int)) (G++X):=fun X mp lim Q=>by
  have:=rplace_ok (mp:=mp) (lim:=lim) (cp:=cp) (cl:=cl) (p:=(gt L i).frm) (Q:=Q) (hn.app X)
  rw [placeN,if_pos hf] at this
  exact this
 have hp2:∀(X:Heap) (mp:Bool) (lim:Nat) (Q:Value→Heap→Prop),CallR E mp lim 83 [.agg (netV pp P.length cp pl L.length cl).toArray,.int .i64 (gt L i).dst] (G++X) Q=Q (.int .i64 (posN P (gt L i).dst:Int)) (G++X):=fun X mp lim Q=>by
  have:=rplace_ok (mp:=mp) (lim:=lim) (cp:=cp) (cl:=cl) (p:=(gt L i).dst) (Q:=Q) (hn.app X)
  rw [placeN,if_pos hd] at this
  exact this
 have lL:=fun X=>(hn.sl.app X).loadCells encL_len hlt
 have xL:=fun c (kk:IntKind) (H1:Heap)=>hn.sl.idx (c:=c) (k:=kk) (H1:=H1) hlt
 have bR:=hC.cells hbef (by simpa using hba)
 have sB:Sl G encI 1 (some ⟨Rb,0,none⟩) bef:=Sl.row encI_len bR
 have lB:=ld_ints (i:=posN P (gt L i).frm) sB (by omega)
 have xB:=ix_ints (i:=posN P (gt L i).frm) sB hpf hbl
 have eB:gt bef (posN P (gt L i).frm)=bef.getD (posN P (gt L i).frm) (-1):=gt_getD (by omega)
 have hBm:=hbr _ (gt_mem (l:=bef) (i:=posN P (gt L i).frm) (by omega))
 rw [eB] at lB hBm
 have w1:IntKind.i64.wrap ((i:Int)+1)=((i+1:Nat):Int):=wrap_nat (by omega)
 generalize haf:(L.take i).foldl (useA (posN P) ul bef) bef=aft at *
 have sA:Sl G encI 1 (some ⟨Ra,0,none⟩) aft:=Sl.row encI_len hA
 have lA:=ld_ints (i:=posN P (gt L i).dst) sA (by omega)
 have xA:=ix_ints (i:=posN P (gt L i).dst) sA hpd hafl
 have eA:gt aft (posN P (gt L i).dst)=aft.getD (posN P (gt L i).dst) (-1):=gt_getD (by omega)
 rw [eA] at lA
 generalize hnxt:(L.take (i+1)).foldl (useA (posN P) ul bef) bef=nxt at hstep
 unfold useA at hstep
 generalize gt L i=l at *
 generalize bef.getD (posN P l.frm) (-1)=v at *
 generalize hw:aft.getD (posN P l.dst) (-1)=w at *
 by_cases hv:v<0
 ·rw [if_pos hv] at hstep
  simp only [n66,r66,g3,g5,g11,g14,g15,b5X,netV_len,netV_0,netV_1,encL_len,encL_0,encL_1,encL_2,encL_3,encL_4,encL_5,encL_6,encL_7,take_all,hlt,hlG,hp1,hp2,lL,xL,lB,xB,lA,xA,w1,setAll_full,eq_true hv,SB,Nat.reduceLT,callee,aOp,ne_eq,Nat.reduceEqDiff,aBin,aUn,if_true,if_false,reduceCtorEq,frame0,place,notTuple,Nat.reduceAdd,Nat.reduceLeDiff,resVal,dite_true,dite_false,Int.reduceEq,Int.reduceLT,Int.reduceLE]
  exact hN (i+1) _ _ ⟨by omega,hC.app,by rw [hnxt,hstep];exact (Ext.refl.app).cells hA,hfr' _ fun j hj=>by
   simp only [upd]
   repeat rw [if_neg (by omega)],(by simp only [FB,Nat.reduceEqDiff])⟩ (by omega)
 rw [if_neg hv] at hstep
 have hnx:=fun (H:Heap) (mp:Bool) (lim:Nat) (Q:Value→Heap→Prop)=>rnext_ok (mp:=mp) (lim:=lim) (H:=H) (Q:=Q) hfine (show 0≤v by omega) hBm
 rcases hnd:nextD l v with _ | a
 ·rw [hnd] at hstep hnx
  simp only [Option.map_none,depV] at hstep hnx
  simp only [n66,r66,g3,g5,g11,g14,g15,b5X,netV_len,netV_0,netV_1,encL_len,encL_0,encL_1,encL_2,encL_3,encL_4,encL_5,encL_6,encL_7,take_all,hlt,hlG,hp1,hp2,lL,xL,lB,xB,lA,xA,w1,setAll_full,eq_false hv,hnx,SB,Nat.reduceLT,callee,aOp,ne_eq,Nat.reduceEqDiff,aBin,aUn,if_true,if_false,reduceCtorEq,frame0,place,notTuple,Nat.reduceAdd,Nat.reduceLeDiff,resVal,dite_true,dite_false,Int.reduceEq,Int.reduceLT,Int.reduceLE]
  exact hN (i+1) _ _ ⟨by omega,hC.app,by rw [hnxt,hstep];exact (Ext.refl.app).cells hA,hfr' _ fun j hj=>by
   simp only [upd]
   repeat rw [if_neg (by omega)],(by simp only [FB,Nat.reduceEqDiff])⟩ (by omega)
 rw [hnd] at hstep hnx
 simp only [Option.map_some,depV] at hstep hnx
 by_cases h1:a+l.mins≤ul
 case neg=>
  rw [if_neg fun h=>h1 h.1] at hstep
  simp only [n66,r66,g3,g5,g11,g14,g15,b5X,netV_len,netV_0,netV_1,encL_len,encL_0,encL_1,encL_2,encL_3,encL_4,encL_5,encL_6,encL_7,take_all,hlt,hlG,hp1,hp2,lL,xL,lB,xB,lA,xA,w1,setAll_full,eq_false hv,hnx,eq_false h1,SB,Nat.reduceLT,callee,aOp,ne_eq,Nat.reduceEqDiff,aBin,aUn,if_true,if_false,reduceCtorEq,frame0,place,notTuple,Nat.reduceAdd,Nat.reduceLeDiff,resVal,dite_true,dite_false,Int.reduceEq,Int.reduceLT,Int.reduceLE]
  exact hN (i+1) _ _ ⟨by omega,hC.app,by rw [hnxt,hstep];exact (Ext.refl.app).cells hA,hfr' _ fun j hj=>by
   simp only [upd]
   repeat rw [if_neg (by omega)],(by simp only [FB,Nat.reduceEqDiff])⟩ (by omega)
 by_cases h2:w<0∨a+l.mins<w
 case neg=>
  rw [if_neg fun h=>h2 h.2] at hstep
  simp only [n66,r66,g3,g5,g11,g14,g15,b5X,netV_len,netV_0,netV_1,encL_len,encL_0,encL_1,encL_2,encL_3,encL_4,encL_5,encL_6,encL_7,take_all,hlt,hlG,hp1,hp2,lL,xL,lB,xB,lA,xA,w1,setAll_full,eq_false hv,hnx,eq_true h1,eq_false (show ¬w<0 by omega),eq_false (show ¬a+l.mins<w by omega),SB,Nat.reduceLT,callee,aOp,ne_eq,Nat.reduceEqDiff,aBin,aUn,if_true,if_false,reduceCtorEq,frame0,place,notTuple,Nat.reduceAdd,Nat.reduceLeDiff,resVal,dite_true,dite_false,Int.reduceEq,Int.reduceLT,Int.reduceLE]
  exact hN (i+1) _ _ ⟨by omega,hC.app,by rw [hnxt,hstep];exact (Ext.refl.app).cells hA,hfr' _ fun j hj=>by
   simp only [upd]
   repeat rw [if_neg (by omega)],(by simp only [FB,Nat.reduceEqDiff])⟩ (by omega)
 rw [if_pos ⟨h1,h2⟩] at hstep
 obtain ⟨G2,e2,k2,m2⟩:=store_mut (lim:=lim) (p:=some ⟨Ra,0,none⟩) (i:=posN P l.dst) encI_len rfl hA hlim (by omega) (a+l.mins)
 simp only [encI] at e2
 have hC2:Chg [Ra] G0 G2:=hC.mut m2 (.inl (by simp))
 by_cases h3:w<0
 ·simp only [n66,r66,g3,g5,g11,g14,g15,b5X,netV_len,netV_0,netV_1,encL_len,encL_0,encL_1,encL_2,encL_3,encL_4,encL_5,encL_6,encL_7,take_all,hlt,hlG,hp1,hp2,lL,xL,lB,xB,lA,xA,w1,setAll_full,eq_false hv,hnx,eq_true h1,eq_true h3,e2,SB,Nat.reduceLT,callee,aOp,ne_eq,Nat.reduceEqDiff,aBin,aUn,if_true,if_false,reduceCtorEq,frame0,place,notTuple,Nat.reduceAdd,Nat.reduceLeDiff,resVal,dite_true,dite_false,Int.reduceEq,Int.reduceLT,Int.reduceLE]
  exact hN (i+1) _ _ ⟨by omega,hC2.app,by rw [hnxt,hstep];exact (Ext.refl.app).cells k2,hfr' _ fun j hj=>by
   simp only [upd]
   repeat rw [if_neg (by omega)],(by simp only [FB,Nat.reduceEqDiff])⟩ (by omega)
 ·simp only [n66,r66,g3,g5,g11,g14,g15,b5X,netV_len,netV_0,netV_1,encL_len,encL_0,encL_1,encL_2,encL_3,encL_4,encL_5,encL_6,encL_7,take_all,hlt,hlG,hp1,hp2,lL,xL,lB,xB,lA,xA,w1,setAll_full,eq_false hv,hnx,eq_true h1,eq_false h3,eq_true (show a+l.mins<w by omega),e2,SB,Nat.reduceLT,callee,aOp,ne_eq,Nat.reduceEqDiff,aBin,aUn,if_true,if_false,reduceCtorEq,frame0,place,notTuple,Nat.reduceAdd,Nat.reduceLeDiff,resVal,dite_true,dite_false,Int.reduceEq,Int.reduceLT,Int.reduceLE]
  exact hN (i+1) _ _ ⟨by omega,hC2.app,by rw [hnxt,hstep];exact (Ext.refl.app).cells k2,hfr' _ fun j hj=>by
   simp only [upd]
   repeat rw [if_neg (by omega)],(by simp only [FB,Nat.reduceEqDiff])⟩ (by omega)
theorem fill_loop [OB] {lim A5 cp cl:Nat} {pp pl:Option Addr} {P:List Int} {L:List Leg} {H G:Heap} {fr:Nat→Value} {K:List AItem} {Z:Value→Heap→Prop} (h50:P.length≤50) (hlim:lim≤H.length) (hC:Chg [] H G) (hb5:hget G A5=.cells false (netV pp P.length cp pl L.length cl)) (h5:H.length≤A5)
  (f5:fr 5=.pointer (some ⟨A5,0,none⟩)) (f11:fr 11=.slice none 0 0) (f12:fr 12=.int .i64 0)
  (hR:∀fr' G' q cq,Chg [] G G'→Own G.length G' encI 1 q cq (List.replicate P.length (-1))→fr' 11=.slice q P.length cq→(∀j,j≤10→fr' j=fr j)→Ret E a66 lim K fr' G' Z) :
  Ret E a66 lim (.code (.loop l66_3)::.inBlock 0::K) fr G Z:=by
 refine Ret_rounds (fun s:Nat×Option Addr×Nat=>P.length-s.1) (fun s fr' G'=>s.1≤P.length∧Chg [] G G'∧Own G.length G' encI 1 s.2.1 s.2.2 (List.replicate s.1 (-1))∧fr' 11=.slice s.2.1 s.1 s.2.2∧fr' 12=.int .i64 (s.1:Int)∧(∀j,j≤10→fr' j=fr j)) (0,none,0)
  ⟨Nat.zero_le _,Chg.refl,.nil,by rw [f11],by rw [f12];rfl,fun _ _=>rfl⟩ ?_
 rintro ⟨i,pw,cw⟩ fr' G' ⟨hi,hC',hO,g11,g12,hfr⟩ hN
 simp only at hi hO g11 g12
 rw [Ret_code l66_3.eq_1]
 have g5:=(hfr 5 (by decide)).trans f5
 have b5X:=fun X=>(Ext.refl.app (X:=X)).cells (hC'.cells hb5 (by simp))
 refine Ret_pad ?_
 by_cases hlt:i<P.length
 case neg=>
  obtain rfl:i=P.length:=by omega
  simp only [n66,r66,g5,g11,g12,b5X,netV_len,netV_0,netV_1,hlt,SB,Nat.reduceLT,callee,aOp,ne_eq,Nat.reduceEqDiff,aBin,aUn,if_true,if_false,reduceCtorEq,frame0,place,notTuple,Nat.reduceAdd,Nat.reduceLeDiff,resVal,dite_true,dite_false,Int.reduceEq,Int.reduceLT,Int.reduceLE]
  exact hR _ _ pw cw hC'.app (hO.app _) (by simp only [g11,FB,Nat.reduceEqDiff]) fun j hj=>by
   rw [←hfr j hj]
   simp only [upd]
   repeat rw [if_neg (by omega)]
 have wi:IntKind.i64.wrap ((i:Int)+1)=((i+1:Nat):Int):=wrap_nat (by omega)
 have hfr':∀(f:Nat→Value),(∀j,j≤10→f j=fr' j)→∀j,j≤10→f j=fr j:=fun f h j hj=>(h j hj).trans (hfr j hj)
 have hlG:=hC'.len
 have hlH:=hC.len
 obtain ⟨G4,e4,O4,C4,hl4⟩:=Own.moreF hO (lim':=lim) (bytes:=8) (by omega) encI_len (by decide) [(-1:Int)] (by simp) (by simp;unfold maxBytes;omega) (by simp;omega) [.cells false [.int .i64 (-1)]] (x:=.slice (some ⟨G'.length,0,none⟩) 1 1) (str:=false)
  (first_slice (m:=[(-1:Int)]) (Sl.row (ro:=false) encI_len (by rw [hget_new0];rfl))) rfl
 have hpw:∀j,j∈opB pw→G.length≤j:=fun j hj=>by
  cases hpe:pw with
  | none=>rw [hpe] at hj;cases hj
  | some a=>rw [hpe] at hj;have:=hO.block hpe;simp [opB] at hj;omega
 generalize hp':(G'++[Blk.cells false [.int .i64 (-1)]]).length=r at e4 O4 hl4
 have hr':G'.length≤r:=by rw [←hp'];simp
 generalize loose 1=c' at e4 O4
 simp only [List.length_cons,List.length_nil,Nat.zero_add,List.length_replicate] at e4
 have eb:List.replicate (i+1) (-1:Int)=List.replicate i (-1)++[-1]:=List.replicate_succ'
 simp only [n66,r66,g5,g11,g12,b5X,netV_len,netV_0,netV_1,hlt,wi,e4,SB,Nat.reduceLT,callee,aOp,ne_eq,Nat.reduceEqDiff,aBin,aUn,if_true,if_false,reduceCtorEq,frame0,place,notTuple,Nat.reduceAdd,Nat.reduceLeDiff,resVal,dite_true,dite_false,Int.reduceEq,Int.reduceLT,Int.reduceLE]
 exact hN (i+1,some ⟨r,0,none⟩,c') _ _ ⟨by show i+1≤P.length;omega,(hC'.trans' C4 fun j hj hjl=>by have:=hpw j hj;omega).app,by simp only [eb];exact (O4.le (by omega)).app _,by rfl,(by simp only [FB,Nat.reduceEqDiff]),hfr' _ fun j hj=>by
  simp only [upd]
  repeat rw [if_neg (by omega)]⟩ (by show P.length-(i+1)<P.length-i;omega)
theorem arr_withinN {N:Nat} {P:List Int} {L:List Leg} {p ready lim:Int} (hn:NetOk N P L (posN P)) (hr:0≤ready) (hl:ready≤lim):∀k,Within ready lim (arrK N (posN P) lim L p ready k)
 | 0=>by
   intro t ht
   rw [arrK,oneT] at ht
   rcases List.mem_or_eq_of_mem_set ht with h | rfl
   ·exact .inl (List.eq_of_mem_replicate h)
   ·exact .inr ⟨Int.le_refl _,hl⟩
 | k+1=>(stepA_mu (arr_withinN hn hr hl k) hr fun l hll=>⟨hn.fine l hll,by rw [arrK_len];exact hn.lt _ (hn.dst l hll)⟩).1
theorem rounds_loop [OB] {lim A5 cp cl k R0:Nat} {pp pl:Option Addr} {P:List Int} {L:List Leg} {p r ul:Int} {H G0:Heap} {fr:Nat→Value} {K:List AItem} {Z:Value→Heap→Prop} (hn:NetIn H pp pl P L) (hno:NetOk 50 P L (posN P)) (h50:P.length≤50) (hLl:L.length<2 ^ 60) (hp:p∈P) (hr:0≤r) (hru:r≤ul) (hul:ul<2 ^ 40) (hk:k<2 ^ 60)
  (hlim:lim≤H.length) (hC0:Chg [] H G0) (hb5:hget G0 A5=.cells false (netV pp P.length cp pl L.length cl)) (h5:H.length≤A5) (hR0:hget G0 R0=.cells false ((oneT P.length (posN P p) r).flatMap encI)) (hlR:H.length≤R0)
  (f3:fr 3=.int .i64 ul) (f4:fr 4=.int .i64 (k:Int)) (f5:fr 5=.pointer (some ⟨A5,0,none⟩)) (f11:fr 11=.slice (some ⟨R0,0,none⟩) P.length (loose 1)) (f13:fr 13=.int .i64 0)
  (hR:∀fr' G R,Chg [] H G→hget G R=.cells false ((arrK P.length (posN P) ul L p r k).flatMap encI)→H.length≤R→fr' 11=.slice (some ⟨R,0,none⟩) P.length (loose 1)→Ret E a66 lim K fr' G Z) :
  Ret E a66 lim (.code (.loop l66_2)::.inBlock 2::K) fr G0 Z:=by
 refine Ret_rounds (fun s:Nat×Nat=>k-s.1) (fun s fr' G=>s.1≤k∧Chg [] H G∧hget G A5=.cells false (netV pp P.length cp pl L.length cl)∧hget G s.2=.cells false ((arrK P.length (posN P) ul L p r s.1).flatMap encI)∧H.length≤s.2∧fr' 11=.slice (some ⟨s.2,0,none⟩) P.length (loose 1)∧fr' 13=.int .i64 (s.1:Int)∧(∀j,j≤10→fr' j=fr j)) (0,R0)
  ⟨Nat.zero_le _,hC0,hb5,hR0,hlR,f11,by rw [f13];rfl,fun _ _=>rfl⟩ ?_
 rintro ⟨i,R⟩ fr' G ⟨hi,hC,b5,hA,hlA,g11,g13,hfr⟩ hN
 simp only at hi hA hlA g11 g13
 rw [Ret_code l66_2.eq_1]
 have g3:=(hfr 3 (by decide)).trans f3
 have g4:=(hfr 4 (by decide)).trans f4
 have g5:=(hfr 5 (by decide)).trans f5
 have b5X:=fun X=>(Ext.refl.app (X:=X)).cells b5
 refine Ret_pad ?_
 by_cases hlt:i<k
 case neg=>
  obtain rfl:i=k:=by omega
  simp only [n66,r66,g3,g4,g5,g11,g13,hlt,SB,Nat.reduceLT,callee,aOp,ne_eq,Nat.reduceEqDiff,aBin,aUn,if_true,if_false,reduceCtorEq,frame0,place,notTuple,Nat.reduceAdd,Nat.reduceLeDiff,resVal,dite_true,dite_false,Int.reduceEq,Int.reduceLT,Int.reduceLE]
  exact hR _ _ R hC.app ((Ext.refl.app).cells hA) hlA (by simp only [g11,FB,Nat.reduceEqDiff])
 have hno':NetOk P.length P L (posN P):=⟨hno.fine,hno.frm,hno.dst,hno.inj,fun a ha=>List.idxOf_lt_length_of_mem ha⟩
 have w1:IntKind.i64.wrap ((i:Int)+1)=((i+1:Nat):Int):=wrap_nat (by omega)
 have hlG:=hC.len
 have hbl:(arrK P.length (posN P) ul L p r i).length=P.length:=arrK_len
 have hstep:arrK P.length (posN P) ul L p r (i+1)=stepA (posN P) ul L (arrK P.length (posN P) ul L p r i):=rfl
 have hbr:∀x∈arrK P.length (posN P) ul L p r i,x<2 ^ 40:=fun x hx=>by
  rcases arr_withinN hno' hr hru i x hx with h | h<;>omega
 generalize arrK P.length (posN P) ul L p r i=bef at hA hbl hstep hbr
 have sB:Sl G encI 1 (some ⟨R,0,none⟩) bef:=Sl.row encI_len hA
 have hpl:=List.length_pos_of_mem hp
 have e3:aAppend lim none 1 8 false (.slice (some ⟨G.length,0,none⟩) 0 0) (.slice (some ⟨R,0,none⟩) bef.length (loose 1)) (G++[.cells false []])=some (.slice (some ⟨G.length+1,0,none⟩) bef.length (loose 1),G++[.cells false [],.cells false (bef.flatMap encI)]):=by
  have:=append_newN (lim:=lim) (b:=G.length) (e:=1) (bytes:=8) (c:=loose 1) (enc:=encI) (H:=G++[.cells false []]) (by rw [hget_new0];rfl) (sB.app _) (by decide) (by unfold maxBytes;omega) (by omega) (by intro h;rw [h] at hbl;simp at hbl;omega)
  simpa using this
 rw [hbl] at e3
 simp only [n66,r66,g3,g4,g5,g11,g13,hlt,e3,SB,Nat.reduceLT,callee,aOp,ne_eq,Nat.reduceEqDiff,aBin,aUn,if_true,if_false,reduceCtorEq,frame0,place,notTuple,Nat.reduceAdd,Nat.reduceLeDiff,resVal,dite_true,dite_false,Int.reduceEq,Int.reduceLT,Int.reduceLE]
 have k1:hget (G++[Blk.cells false [],Blk.cells false (bef.flatMap encI)]) (G.length+1)=.cells false (bef.flatMap encI):=by rw [hget_new];rfl
 refine legs_loop (lim:=lim) (A5:=A5) (Rb:=R) (Ra:=G.length+1) (cb:=loose 1) (ca:=loose 1) (cp:=cp) (cl:=cl) (bef:=bef) (ul:=ul) hno h50 hLl
  (fun G' hG'=>hn.sim fun b ro c hb=>(hC.app.trans' hG' fun j hj hjl=>by simp at hj;omega).cells hb (by simp)) (by omega) (by simp;omega) ((Ext.refl.app).cells b5) (by have:=hget_alive b5;omega) ((Ext.refl.app).cells hA) (by have:=hget_alive hA;omega) hbl hbr k1 (by simp only [g3,FB,Nat.reduceEqDiff]) (by simp only [g5,FB,Nat.reduceEqDiff]) (by simp only [g11,FB,Nat.reduceEqDiff]) (by simp only [FB,Nat.reduceEqDiff]) (by rfl) fun fr1 G1 hC1 k2 hfr1=>?_
 have f4':∀j,j≤10→fr1 j=fr' j:=fun j hj=>by
  rw [hfr1 j (by omega)]
  simp only [upd]
  repeat rw [if_neg (by omega)]
 have f13':fr1 13=.int .i64 (i:Int):=(hfr1 13 (by omega)).trans (by simp only [g13,FB,Nat.reduceEqDiff])
 have f14':fr1 14=.slice (some ⟨G.length+1,0,none⟩) P.length (loose 1):=(hfr1 14 (by omega)).trans (by simp only [FB,Nat.reduceEqDiff])
 rw [←hstep] at k2
 refine Ret_pad ?_
 simp only [n66,r66,f13',f14',w1,SB,Nat.reduceLT,callee,aOp,ne_eq,Nat.reduceEqDiff,aBin,aUn,if_true,if_false,reduceCtorEq,frame0,place,notTuple,Nat.reduceAdd,Nat.reduceLeDiff,resVal,dite_true,dite_false,Int.reduceEq,Int.reduceLT,Int.reduceLE]
 exact hN (i+1,G.length+1) _ _ ⟨by show i+1≤k;omega,(hC.app.trans' hC1 fun j hj hjl=>by simp at hj;omega).app,(Ext.refl.app).cells (hC1.cells ((Ext.refl.app).cells b5) (by have:=hget_alive b5;simp;omega)),(Ext.refl.app).cells k2,by show H.length≤G.length+1;omega,(by simp only [f14',FB,Nat.reduceEqDiff]),(by simp only [FB,Nat.reduceEqDiff]),fun j hj=>by
  rw [←hfr j hj,←f4' j hj]
  simp only [upd]
  repeat rw [if_neg (by omega)]⟩ (by show k-(i+1)<k-i;omega)
theorem early_ok [OB] {lim cp cl k:Nat} {pp pl:Option Addr} {P:List Int} {L:List Leg} {p r ul:Int} {H:Heap} {Q:Value→Heap→Prop} (hn:NetIn H pp pl P L) (hv:validN P L=0) (hp:p∈P) (hr:0≤r) (hru:r≤ul) (hul:ul<2 ^ 40) (hk:k<2 ^ 60) (hlim:lim≤H.length)
  (hQ:∀G q,Chg [] H G→Own H.length G encI 1 q (loose 1) (arrK P.length (posN P) ul L p r k)→Q (.slice q P.length (loose 1)) G) :
  CallR E false lim 66 [.agg (netV pp P.length cp pl L.length cl).toArray,.int .i64 p,.int .i64 r,.int .i64 ul,.int .i64 (k:Int)] H Q:=by
 refine runs' (by decide) e66 rfl ?_
 rw [b66,c66]
 obtain ⟨h50,h200,_⟩:=validN_0 hv
 have hno:=valid_net hv
 simp only [n66,r66,SB,Nat.reduceLT,callee,aOp,ne_eq,Nat.reduceEqDiff,aBin,aUn,if_true,if_false,reduceCtorEq,frame0,place,notTuple,Nat.reduceAdd,Nat.reduceLeDiff,resVal,dite_true,dite_false,Int.reduceEq,Int.reduceLT,Int.reduceLE]
 refine fill_loop (A5:=H.length) (cp:=cp) (cl:=cl) (P:=P) (L:=L) (pp:=pp) (pl:=pl) h50 hlim Chg.refl.app hget_new0 (Nat.le_refl _) (by simp only [FB,Nat.reduceEqDiff]) (by simp only [FB,Nat.reduceEqDiff]) (by rfl) fun fr1 G1 q cq hC1 hO1 f11 hfr1=>?_
 have hC1':Chg [] H G1:=hC1.pre
 have hpl:=List.length_pos_of_mem hp
 have hpp:posN P p<P.length:=List.idxOf_lt_length_of_mem hp
 rcases hO1 with ⟨h,_⟩ | ⟨R,rfl,rfl,hR1,hlR⟩
 ·have:=congrArg List.length h;rw [List.length_replicate,List.length_nil] at this;omega
 have hlR':H.length+1≤R:=by simpa using hlR
 have b5:hget G1 H.length=.cells false (netV pp P.length cp pl L.length cl):=hC1.cells hget_new0 (by simp)
 have b5X:=fun X=>(Ext.refl.app (X:=X)).cells b5
 have hn1:=hn.ext hC1'.ext
 have hp1:∀(X:Heap) (mp:Bool) (lim:Nat) (Q:Value→Heap→Prop),CallR E mp lim 83 [.agg (netV pp P.length cp pl L.length cl).toArray,.int .i64 p] (G1++X) Q=Q (.int .i64 (posN P p:Int)) (G1++X):=fun X mp lim Q=>by
  have:=rplace_ok (mp:=mp) (lim:=lim) (cp:=cp) (cl:=cl) (p:=p) (Q:=Q) (hn1.app X)
  rw [placeN,if_pos hp] at this
  exact this
 have sN:Sl G1 encI 1 (some ⟨R,0,none⟩) (List.replicate P.length (-1)):=Sl.row encI_len hR1
 have xN:=ix_ints (i:=posN P p) sN hpp (by simp)
 obtain ⟨G2,e2,k2,m2⟩:=store_mut (lim:=lim) (p:=some ⟨R,0,none⟩) (i:=posN P p) encI_len rfl hR1 (by omega) (by simpa using hpp) r
 simp only [encI] at e2
 have hC2:Chg [] H G2:=hC1'.mut m2 (.inr (by omega))
 have f1:=(hfr1 1 (by decide)).trans (by rfl:_=Value.int .i64 p)
 have f2:=(hfr1 2 (by decide)).trans (by rfl:_=Value.int .i64 r)
 have f3:=(hfr1 3 (by decide)).trans (by rfl:_=Value.int .i64 ul)
 have f4:=(hfr1 4 (by decide)).trans (by rfl:_=Value.int .i64 (k:Int))
 have f5:fr1 5=.pointer (some ⟨H.length,0,none⟩):=(hfr1 5 (by decide)).trans (by simp only [FB,Nat.reduceEqDiff])
 refine Ret_pad ?_
 simp only [n66,r66,f1,f2,f5,f11,b5X,netV_len,netV_0,netV_1,take_all,hp1,xN,e2,SB,Nat.reduceLT,callee,aOp,ne_eq,Nat.reduceEqDiff,aBin,aUn,if_true,if_false,reduceCtorEq,frame0,place,notTuple,Nat.reduceAdd,Nat.reduceLeDiff,resVal,dite_true,dite_false,Int.reduceEq,Int.reduceLT,Int.reduceLE]
 refine rounds_loop (A5:=H.length) (cp:=cp) (cl:=cl) (k:=k) (R0:=R) (p:=p) (r:=r) (ul:=ul) hn hno h50 (by omega) hp hr hru hul hk hlim hC2.app ((Ext.refl.app).cells (m2.cells b5 (by omega))) (Nat.le_refl _) ((Ext.refl.app).cells k2) (by omega) (by simp only [f3,FB,Nat.reduceEqDiff]) (by simp only [f4,FB,Nat.reduceEqDiff]) (by simp only [f5,FB,Nat.reduceEqDiff]) (by simp only [f11,FB,Nat.reduceEqDiff]) (by rfl) fun fr2 G3 R2 hC3 h3 hlR3 g11=>?_
 refine Ret_pad ?_
 simp only [n66,r66,g11,SB,Nat.reduceLT,callee,aOp,ne_eq,Nat.reduceEqDiff,aBin,aUn,if_true,if_false,reduceCtorEq,frame0,place,notTuple,Nat.reduceAdd,Nat.reduceLeDiff,resVal,dite_true,dite_false,Int.reduceEq,Int.reduceLT,Int.reduceLE]
 exact hQ _ _ hC3.app (.inr ⟨R2,rfl,rfl,(Ext.refl.app).cells h3,hlR3⟩)
theorem rplant_ok [OB] {mp:Bool} {lim:Nat} {pp pl:Option Addr} {P:List Int} {L:List Leg} {cp cl:Nat} {p:Int} {H:Heap} {Q:Value→Heap→Prop} (hn:NetIn H pp pl P L) :
  CallR E mp lim 42 [.agg (netV pp P.length cp pl L.length cl).toArray,.int .i64 p] H Q=Q (.int .i64 (placeN P p)) H:=by
 refine pc (by decide) e42 rfl rfl ?_
 rw [b42,c42]
 simp only [n42,r42,netV_len,netV_0,netV_1,SB,Nat.reduceLT,callee,aOp,ne_eq,Nat.reduceEqDiff,aBin,aUn,if_true,if_false,reduceCtorEq,frame0,place,notTuple,Nat.reduceAdd,Nat.reduceLeDiff,resVal,dite_true,dite_false,Int.reduceEq,Int.reduceLT,Int.reduceLE]
 refine Ret_rounds (fun i=>P.length-i) (fun i fr G=>i≤P.length∧fr 1=.int .i64 p∧fr 2=.pointer (some ⟨H.length,0,none⟩)∧fr 5=.int .i64 (i:Int)∧Ext H G∧hget G H.length=.cells false (netV pp P.length cp pl L.length cl)∧∀j,j<i→gt P j≠p) 0
  ⟨Nat.zero_le _,(by simp only [FB,Nat.reduceEqDiff]),(by simp only [FB,Nat.reduceEqDiff]),by rfl,Ext.refl.app,hget_new0,fun j hj=>by omega⟩ ?_
 intro i fr G ⟨hi,h1,h2,h5,hE,hb,hall⟩ hN
 rw [Ret_code l42_1.eq_1]
 refine Ret_pad ?_
 have hbX:=fun X=>(Ext.refl.app (X:=X)).cells hb
 by_cases hlt:i<P.length
 ·have hld:=fun X=>((hE.sl hn.sp).app X).loadCell0 encI_len hlt (by decide)
  simp only [encI,List.getElem?_cons_zero] at hld
  have hidx:=fun c (k:IntKind) (H1:Heap)=>(hE.sl hn.sp).idx (c:=c) (k:=k) (H1:=H1) hlt
  have hw1:IntKind.i64.wrap ((i:Int)+1)=((i+1:Nat):Int):=wrap_nat (by have:=hn.np;omega)
  by_cases he:gt P i=p
  ·simp only [n42,r42,h1,h2,h5,hbX,netV_len,netV_0,netV_1,hlt,hidx,hld,hw1,eq_true he,SB,Nat.reduceLT,callee,aOp,ne_eq,Nat.reduceEqDiff,aBin,aUn,if_true,if_false,reduceCtorEq,frame0,place,notTuple,Nat.reduceAdd,Nat.reduceLeDiff,resVal,dite_true,dite_false,Int.reduceEq,Int.reduceLT,Int.reduceLE]
   congr 1
   have hm:p∈P:=he▸gt_mem hlt
   rw [placeN,if_pos hm]
   have h1:posN P p≤i:=by
    unfold posN
    apply Decidable.byContradiction;intro hc
    have:=List.not_of_lt_findIdx (xs:=P) (p:=(· == p)) (i:=i) (by unfold List.idxOf at hc;omega)
    rw [gt_lt hlt] at he
    simp [he] at this
   rcases Nat.lt_or_ge (posN P p) i with h3 | h3
   ·exfalso
    have hl:posN P p<P.length:=List.idxOf_lt_length_of_mem hm
    have:=List.getElem_idxOf hl
    refine hall _ h3 ?_
    rw [gt_lt hl];exact this
   ·omega
  ·simp only [n42,r42,h1,h2,h5,hbX,netV_len,netV_0,netV_1,hlt,hidx,hld,hw1,eq_false he,SB,Nat.reduceLT,callee,aOp,ne_eq,Nat.reduceEqDiff,aBin,aUn,if_true,if_false,reduceCtorEq,frame0,place,notTuple,Nat.reduceAdd,Nat.reduceLeDiff,resVal,dite_true,dite_false,Int.reduceEq,Int.reduceLT,Int.reduceLE]
   exact hN (i+1) _ _ ⟨by omega,(by simp only [h1,FB,Nat.reduceEqDiff]),(by simp only [h2,FB,Nat.reduceEqDiff]),(by simp only [FB,Nat.reduceEqDiff]),hE.app,(Ext.refl.app).cells hb,fun j hj=>by
    rcases Nat.lt_or_ge j i with h | h
    ·exact hall j h
    ·obtain rfl:j=i:=by omega
     exact he⟩ (by omega)
 ·obtain rfl:i=P.length:=by omega
  simp only [n42,r42,h1,h2,h5,hbX,netV_len,netV_0,netV_1,hlt,SB,Nat.reduceLT,callee,aOp,ne_eq,Nat.reduceEqDiff,aBin,aUn,if_true,if_false,reduceCtorEq,frame0,place,notTuple,Nat.reduceAdd,Nat.reduceLeDiff,resVal,dite_true,dite_false,Int.reduceEq,Int.reduceLT,Int.reduceLE]
  rw [placeN,if_neg fun hm=>?_]
  obtain ⟨j,hj,he⟩:=List.mem_iff_getElem.1 hm
  exact hall j hj (by rw [gt_lt hj];exact he)
theorem RArrive_ok [OB] {lim cp cl:Nat} {pp pl:Option Addr} {P:List Int} {L:List Leg} {p t:Int} {H:Heap} {Q:Value→Heap→Prop} (hn:NetIn H pp pl P L) (hlim:lim≤H.length)
  (hbad:∀G,errA P L p p t≠0→Chg [] H G→Q (.tuple #[.slice none 0 0,.int .i64 (errA P L p p t)]) G)
  (hok:∀G q,errA P L p p t=0→Chg [] H G→Own H.length G encI 1 q (loose 1) (arrK P.length (posN P) (t+86400) L p t P.length)→Q (.tuple #[.slice q P.length (loose 1),.int .i64 0]) G) :
  CallR E false lim 43 [.agg (netV pp P.length cp pl L.length cl).toArray,.int .i64 p,.int .i64 t] H Q:=by
 refine runs' (by decide) e43 rfl ?_
 rw [b43,c43]
 have hck:=fun X (mp:Bool) (lim:Nat) (Q:Value→Heap→Prop)=>rcheck_ok (mp:=mp) (lim:=lim) (cp:=cp) (cl:=cl) (a:=p) (b:=p) (t:=t) (Q:=Q) (hn.app X)
 by_cases he:errA P L p p t=0
 case neg=>
  simp only [n43,r43,netV_len,netV_0,netV_1,take_all,hck,eq_false he,SB,Nat.reduceLT,callee,aOp,ne_eq,Nat.reduceEqDiff,aBin,aUn,if_true,if_false,reduceCtorEq,frame0,place,notTuple,Nat.reduceAdd,Nat.reduceLeDiff,resVal,dite_true,dite_false,Int.reduceEq,Int.reduceLT,Int.reduceLE]
  exact hbad _ he Chg.refl.app
 obtain ⟨hv,hp,_,ht0,ht1⟩:=errA_0 he
 have mt:maxTime=1051898399:=rfl
 have w1:IntKind.i64.wrap (t+86400)=t+86400:=wrap_id (by omega) (by omega)
 rw [he] at hck
 simp only [n43,r43,netV_len,netV_0,netV_1,take_all,hck,w1,SB,Nat.reduceLT,callee,aOp,ne_eq,Nat.reduceEqDiff,aBin,aUn,if_true,if_false,reduceCtorEq,frame0,place,notTuple,Nat.reduceAdd,Nat.reduceLeDiff,resVal,dite_true,dite_false,Int.reduceEq,Int.reduceLT,Int.reduceLE]
 refine early_ok (hn.app _) hv hp ht0 (by omega) (by omega) (by have:=(validN_0 hv).1;omega) (by simp;omega) fun G q hC hO=>?_
 refine Ret_pad ?_
 simp only [n43,r43,SB,Nat.reduceLT,callee,aOp,ne_eq,Nat.reduceEqDiff,aBin,aUn,if_true,if_false,reduceCtorEq,frame0,place,notTuple,Nat.reduceAdd,Nat.reduceLeDiff,resVal,dite_true,dite_false,Int.reduceEq,Int.reduceLT,Int.reduceLE]
 exact hok _ _ he hC.pre.app ((hO.le (by simp)).app _)
theorem rprice_ok [OB] {mp:Bool} {lim cp cl:Nat} {pp pl:Option Addr} {P:List Int} {L:List Leg} {a b:Ev} {H:Heap} {Q:Value→Heap→Prop} (hn:NetIn H pp pl P L) (hv:validN P L=0) (ha:0≤a.time∧a.time≤maxTime) (hb:0≤b.time∧b.time≤maxTime) :
  CallR E mp lim 15 [.agg (netV pp P.length cp pl L.length cl).toArray,.agg (encE a).toArray,.agg (encE b).toArray] H Q=Q (.int .i64 (priceN P L a b)) H:=by
 refine pc (by decide) e15 rfl rfl ?_
 rw [b15,c15]
 have hpl:=fun (p:Int) X (mp:Bool) (lim:Nat) (Q:Value→Heap→Prop)=>rplant_ok (mp:=mp) (lim:=lim) (cp:=cp) (cl:=cl) (p:=p) (Q:=Q) (hn.app X)
 by_cases h1:a.kind=4
 ·simp only [n15,r15,encE_len,encE_0,encE_1,encE_2,encE_3,encE_4,encE_5,encE_6,netV_len,netV_0,netV_1,take_all,eq_true h1,SB,Nat.reduceLT,callee,aOp,ne_eq,Nat.reduceEqDiff,aBin,aUn,if_true,if_false,reduceCtorEq,frame0,place,notTuple,Nat.reduceAdd,Nat.reduceLeDiff,resVal,dite_true,dite_false,Int.reduceEq,Int.reduceLT,Int.reduceLE]
  unfold priceN;rw [if_pos h1]
 by_cases h2:a.place=b.place
 ·simp only [n15,r15,encE_len,encE_0,encE_1,encE_2,encE_3,encE_4,encE_5,encE_6,netV_len,netV_0,netV_1,take_all,eq_false h1,eq_true h2,SB,Nat.reduceLT,callee,aOp,ne_eq,Nat.reduceEqDiff,aBin,aUn,if_true,if_false,reduceCtorEq,frame0,place,notTuple,Nat.reduceAdd,Nat.reduceLeDiff,resVal,dite_true,dite_false,Int.reduceEq,Int.reduceLT,Int.reduceLE]
  unfold priceN;rw [if_neg h1,if_pos h2]
 by_cases h3:a.place∈P
 case neg=>
  have e:placeN P a.place=-1:=if_neg h3
  have hp1:=hpl a.place
  rw [e] at hp1
  simp only [n15,r15,encE_len,encE_0,encE_1,encE_2,encE_3,encE_4,encE_5,encE_6,netV_len,netV_0,netV_1,take_all,eq_false h1,eq_false h2,hp1,SB,Nat.reduceLT,callee,aOp,ne_eq,Nat.reduceEqDiff,aBin,aUn,if_true,if_false,reduceCtorEq,frame0,place,notTuple,Nat.reduceAdd,Nat.reduceLeDiff,resVal,dite_true,dite_false,Int.reduceEq,Int.reduceLT,Int.reduceLE]
  unfold priceN
  rw [if_neg h1,if_neg h2]
  by_cases h4:b.place∈P
  ·rw [if_neg (by simpa using h4),if_pos fun he=>h3 (errA_0 he).2.1]
  ·rw [if_pos h4]
 have hp1:=hpl a.place
 rw [show placeN P a.place=(posN P a.place:Int) from if_pos h3] at hp1
 have n1:=eq_false (show ¬(posN P a.place:Int)<0 by omega)
 by_cases h4:b.place∈P
 case neg=>
  have hp2:=hpl b.place
  rw [show placeN P b.place=-1 from if_neg h4] at hp2
  simp only [n15,r15,encE_len,encE_0,encE_1,encE_2,encE_3,encE_4,encE_5,encE_6,netV_len,netV_0,netV_1,take_all,eq_false h1,eq_false h2,hp1,hp2,n1,SB,Nat.reduceLT,callee,aOp,ne_eq,Nat.reduceEqDiff,aBin,aUn,if_true,if_false,reduceCtorEq,frame0,place,notTuple,Nat.reduceAdd,Nat.reduceLeDiff,resVal,dite_true,dite_false,Int.reduceEq,Int.reduceLT,Int.reduceLE]
  unfold priceN
  rw [if_neg h1,if_neg h2,if_pos h4]
 have hp2:=hpl b.place
 rw [show placeN P b.place=(posN P b.place:Int) from if_pos h4] at hp2
 have n2:=eq_false (show ¬(posN P b.place:Int)<0 by omega)
 have he:errA P L a.place a.place a.time=0:=by unfold errA;rw [if_neg (by rw [hv];simp),if_pos ⟨h3,h3,ha.1,ha.2⟩]
 simp only [n15,r15,encE_len,encE_0,encE_1,encE_2,encE_3,encE_4,encE_5,encE_6,netV_len,netV_0,netV_1,take_all,eq_false h1,eq_false h2,hp1,hp2,n1,n2,SB,Nat.reduceLT,callee,aOp,ne_eq,Nat.reduceEqDiff,aBin,aUn,if_true,if_false,reduceCtorEq,frame0,place,notTuple,Nat.reduceAdd,Nat.reduceLeDiff,resVal,dite_true,dite_false,Int.reduceEq,Int.reduceLT,Int.reduceLE]
 refine RArrive_ok (hn.app _) (by simp) (fun _ h=>absurd he h) fun G q _ hC hO=>?_
 have k3X:=fun X=>(Ext.refl.app (X:=X)).cells (hC.cells (j:=H.length) (ro:=false) (c:=netV pp P.length cp pl L.length cl) (by rw [hget_new0];rfl) (by simp))
 have k5X:=fun X=>(Ext.refl.app (X:=X)).cells (hC.cells (j:=H.length+2) (ro:=false) (c:=encE b) (by rw [hget_new];rfl) (by simp))
 have hnG:=hn.ext hC.pre.ext
 have hpG:=fun X (mp:Bool) (lim:Nat) (Q:Value→Heap→Prop)=>rplant_ok (mp:=mp) (lim:=lim) (cp:=cp) (cl:=cl) (p:=b.place) (Q:=Q) (hnG.app X)
 rw [show placeN P b.place=(posN P b.place:Int) from if_pos h4] at hpG
 have hpb:posN P b.place<P.length:=List.idxOf_lt_length_of_mem h4
 have sT:=hO.sl encI_len
 have hTl:(arrK P.length (posN P) (a.time+86400) L a.place a.time P.length).length=P.length:=arrK_len
 have lT:=ld_ints (i:=posN P b.place) sT (by omega)
 have xT:=ix_ints (i:=posN P b.place) sT hpb hTl
 have hTq:=(early_arr (valid_net hv) h3 ha.1).2 _ h4
 have hA:=arrV_is (valid_net hv) h3 h4 ha.1
 have ev:=hTq.uniq hA
 rw [gt_getD (by omega),ev] at lT
 have hle:=arr_le hA ha.2 ha.1
 have hge:-1≤arrV P L a.place a.time b.place:=by
  rcases hA with ⟨e,_⟩ | ⟨⟨⟨j,hw⟩,_⟩,_⟩
  ·omega
  ·have:=hw.later (valid_net hv).fine;omega
 have hpr:priceN P L a b=if arrV P L a.place a.time b.place<0 then 80 else min (max (arrV P L a.place a.time b.place-b.time) 0) 60:=by
  unfold priceN
  rw [if_neg h1,if_neg h2,if_neg (by simpa using h4),if_neg (by simpa using he)]
 rw [hpr]
 generalize arrV P L a.place a.time b.place=x at *
 have mt:maxTime=1051898399:=rfl
 have wx:IntKind.i64.wrap (x-b.time)=x-b.time:=wrap_id (by omega) (by omega)
 refine Ret_pad ?_
 by_cases g1:x<0
 ·simp only [n15,r15,encE_len,encE_0,encE_1,encE_2,encE_3,encE_4,encE_5,encE_6,netV_len,netV_0,netV_1,take_all,k3X,k5X,hpG,lT,xT,wx,eq_true g1,SB,Nat.reduceLT,callee,aOp,ne_eq,Nat.reduceEqDiff,aBin,aUn,if_true,if_false,reduceCtorEq,frame0,place,notTuple,Nat.reduceAdd,Nat.reduceLeDiff,resVal,dite_true,dite_false,Int.reduceEq,Int.reduceLT,Int.reduceLE]
 ·by_cases g2:x≤b.time
  ·simp only [n15,r15,encE_len,encE_0,encE_1,encE_2,encE_3,encE_4,encE_5,encE_6,netV_len,netV_0,netV_1,take_all,k3X,k5X,hpG,lT,xT,wx,eq_false g1,eq_true g2,SB,Nat.reduceLT,callee,aOp,ne_eq,Nat.reduceEqDiff,aBin,aUn,if_true,if_false,reduceCtorEq,frame0,place,notTuple,Nat.reduceAdd,Nat.reduceLeDiff,resVal,dite_true,dite_false,Int.reduceEq,Int.reduceLT,Int.reduceLE]
   congr 1;omega
  ·by_cases g3:60<x-b.time
   ·simp only [n15,r15,encE_len,encE_0,encE_1,encE_2,encE_3,encE_4,encE_5,encE_6,netV_len,netV_0,netV_1,take_all,k3X,k5X,hpG,lT,xT,wx,eq_false g1,eq_false g2,eq_true g3,SB,Nat.reduceLT,callee,aOp,ne_eq,Nat.reduceEqDiff,aBin,aUn,if_true,if_false,reduceCtorEq,frame0,place,notTuple,Nat.reduceAdd,Nat.reduceLeDiff,resVal,dite_true,dite_false,Int.reduceEq,Int.reduceLT,Int.reduceLE]
    congr 1;omega
   ·simp only [n15,r15,encE_len,encE_0,encE_1,encE_2,encE_3,encE_4,encE_5,encE_6,netV_len,netV_0,netV_1,take_all,k3X,k5X,hpG,lT,xT,wx,eq_false g1,eq_false g2,eq_false g3,SB,Nat.reduceLT,callee,aOp,ne_eq,Nat.reduceEqDiff,aBin,aUn,if_true,if_false,reduceCtorEq,frame0,place,notTuple,Nat.reduceAdd,Nat.reduceLeDiff,resVal,dite_true,dite_false,Int.reduceEq,Int.reduceLT,Int.reduceLE]
    congr 1;omega
theorem encN_0 {e:Ev}:(encN e)[0]? = some (.int .i64 e.item):=id rfl
theorem encN_1 {e:Ev}:(encN e)[1]? = some (.int .i64 e.place):=id rfl
theorem encN_2 {e:Ev}:(encN e)[2]? = some (.int .i64 e.scanner):=id rfl
theorem encN_3 {e:Ev}:(encN e)[3]? = some (.int .u8 e.kind):=id rfl
theorem encN_4 {e:Ev}:(encN e)[4]? = some (.int .i64 e.at'):=id rfl
theorem encN_5 {e:Ev}:(encN e)[5]? = some (.int .i64 e.seen):=id rfl
theorem rone_ok [OB] {mp:Bool} {lim:Nat} {e:Ev} {H:Heap} {Q:Value→Heap→Prop}:CallR E mp lim 40 [.agg (encN e).toArray] H Q=Q (.bool (decide (FineE e))) H:=by
 refine pc (by decide) e40 rfl rfl ?_
 rw [b40,c40]
 have no:¬FineE e→decide (FineE e)=false:=fun h=>decide_eq_false h
 by_cases h1:1≤e.item
 case neg=>simp only [n40,r40,encN_len,encN_0,encN_1,encN_2,encN_3,encN_4,encN_5,take_all,ge_iff_le,eq_false h1,no (fun h=>h1 h.1.1),SB,Nat.reduceLT,callee,aOp,ne_eq,Nat.reduceEqDiff,aBin,aUn,if_true,if_false,reduceCtorEq,frame0,place,notTuple,Nat.reduceAdd,Nat.reduceLeDiff,resVal,dite_true,dite_false,Int.reduceEq,Int.reduceLT,Int.reduceLE]
 by_cases h2:e.item≤999999
 case neg=>simp only [n40,r40,encN_len,encN_0,encN_1,encN_2,encN_3,encN_4,encN_5,take_all,ge_iff_le,eq_true h1,eq_false h2,no (fun h=>h2 h.1.2),SB,Nat.reduceLT,callee,aOp,ne_eq,Nat.reduceEqDiff,aBin,aUn,if_true,if_false,reduceCtorEq,frame0,place,notTuple,Nat.reduceAdd,Nat.reduceLeDiff,resVal,dite_true,dite_false,Int.reduceEq,Int.reduceLT,Int.reduceLE]
 by_cases h3:1≤e.place
 case neg=>simp only [n40,r40,encN_len,encN_0,encN_1,encN_2,encN_3,encN_4,encN_5,take_all,ge_iff_le,eq_true h1,eq_true h2,eq_false h3,no (fun h=>h3 h.2.1.1),SB,Nat.reduceLT,callee,aOp,ne_eq,Nat.reduceEqDiff,aBin,aUn,if_true,if_false,reduceCtorEq,frame0,place,notTuple,Nat.reduceAdd,Nat.reduceLeDiff,resVal,dite_true,dite_false,Int.reduceEq,Int.reduceLT,Int.reduceLE]
 by_cases h4:e.place≤999999
 case neg=>simp only [n40,r40,encN_len,encN_0,encN_1,encN_2,encN_3,encN_4,encN_5,take_all,ge_iff_le,eq_true h1,eq_true h2,eq_true h3,eq_false h4,no (fun h=>h4 h.2.1.2),SB,Nat.reduceLT,callee,aOp,ne_eq,Nat.reduceEqDiff,aBin,aUn,if_true,if_false,reduceCtorEq,frame0,place,notTuple,Nat.reduceAdd,Nat.reduceLeDiff,resVal,dite_true,dite_false,Int.reduceEq,Int.reduceLT,Int.reduceLE]
 by_cases h5:1≤e.scanner
 case neg=>simp only [n40,r40,encN_len,encN_0,encN_1,encN_2,encN_3,encN_4,encN_5,take_all,ge_iff_le,eq_true h1,eq_true h2,eq_true h3,eq_true h4,eq_false h5,no (fun h=>h5 h.2.2.1.1),SB,Nat.reduceLT,callee,aOp,ne_eq,Nat.reduceEqDiff,aBin,aUn,if_true,if_false,reduceCtorEq,frame0,place,notTuple,Nat.reduceAdd,Nat.reduceLeDiff,resVal,dite_true,dite_false,Int.reduceEq,Int.reduceLT,Int.reduceLE]
 by_cases h6:e.scanner≤999999
 case neg=>simp only [n40,r40,encN_len,encN_0,encN_1,encN_2,encN_3,encN_4,encN_5,take_all,ge_iff_le,eq_true h1,eq_true h2,eq_true h3,eq_true h4,eq_true h5,eq_false h6,no (fun h=>h6 h.2.2.1.2),SB,Nat.reduceLT,callee,aOp,ne_eq,Nat.reduceEqDiff,aBin,aUn,if_true,if_false,reduceCtorEq,frame0,place,notTuple,Nat.reduceAdd,Nat.reduceLeDiff,resVal,dite_true,dite_false,Int.reduceEq,Int.reduceLT,Int.reduceLE]
 by_cases h7:1≤e.kind
 case neg=>simp only [n40,r40,encN_len,encN_0,encN_1,encN_2,encN_3,encN_4,encN_5,take_all,ge_iff_le,eq_true h1,eq_true h2,eq_true h3,eq_true h4,eq_true h5,eq_true h6,eq_false h7,no (fun h=>h7 h.2.2.2.1.1),SB,Nat.reduceLT,callee,aOp,ne_eq,Nat.reduceEqDiff,aBin,aUn,if_true,if_false,reduceCtorEq,frame0,place,notTuple,Nat.reduceAdd,Nat.reduceLeDiff,resVal,dite_true,dite_false,Int.reduceEq,Int.reduceLT,Int.reduceLE]
 by_cases h8:e.kind≤4
 case neg=>simp only [n40,r40,encN_len,encN_0,encN_1,encN_2,encN_3,encN_4,encN_5,take_all,ge_iff_le,eq_true h1,eq_true h2,eq_true h3,eq_true h4,eq_true h5,eq_true h6,eq_true h7,eq_false h8,no (fun h=>h8 h.2.2.2.1.2),SB,Nat.reduceLT,callee,aOp,ne_eq,Nat.reduceEqDiff,aBin,aUn,if_true,if_false,reduceCtorEq,frame0,place,notTuple,Nat.reduceAdd,Nat.reduceLeDiff,resVal,dite_true,dite_false,Int.reduceEq,Int.reduceLT,Int.reduceLE]
 by_cases h9:0≤e.at'
 case neg=>simp only [n40,r40,encN_len,encN_0,encN_1,encN_2,encN_3,encN_4,encN_5,take_all,ge_iff_le,eq_true h1,eq_true h2,eq_true h3,eq_true h4,eq_true h5,eq_true h6,eq_true h7,eq_true h8,eq_false h9,no (fun h=>h9 h.2.2.2.2.1.1),SB,Nat.reduceLT,callee,aOp,ne_eq,Nat.reduceEqDiff,aBin,aUn,if_true,if_false,reduceCtorEq,frame0,place,notTuple,Nat.reduceAdd,Nat.reduceLeDiff,resVal,dite_true,dite_false,Int.reduceEq,Int.reduceLT,Int.reduceLE]
 by_cases g1:e.at'≤1051898399
 case neg=>simp only [n40,r40,encN_len,encN_0,encN_1,encN_2,encN_3,encN_4,encN_5,take_all,ge_iff_le,eq_true h1,eq_true h2,eq_true h3,eq_true h4,eq_true h5,eq_true h6,eq_true h7,eq_true h8,eq_true h9,eq_false g1,no (fun h=>g1 h.2.2.2.2.1.2),SB,Nat.reduceLT,callee,aOp,ne_eq,Nat.reduceEqDiff,aBin,aUn,if_true,if_false,reduceCtorEq,frame0,place,notTuple,Nat.reduceAdd,Nat.reduceLeDiff,resVal,dite_true,dite_false,Int.reduceEq,Int.reduceLT,Int.reduceLE]
 by_cases g2:0≤e.seen
 case neg=>simp only [n40,r40,encN_len,encN_0,encN_1,encN_2,encN_3,encN_4,encN_5,take_all,ge_iff_le,eq_true h1,eq_true h2,eq_true h3,eq_true h4,eq_true h5,eq_true h6,eq_true h7,eq_true h8,eq_true h9,eq_true g1,eq_false g2,no (fun h=>g2 h.2.2.2.2.2.1),SB,Nat.reduceLT,callee,aOp,ne_eq,Nat.reduceEqDiff,aBin,aUn,if_true,if_false,reduceCtorEq,frame0,place,notTuple,Nat.reduceAdd,Nat.reduceLeDiff,resVal,dite_true,dite_false,Int.reduceEq,Int.reduceLT,Int.reduceLE]
 have hh:decide (FineE e)=decide (e.seen≤1051898399):=by
  rw [decide_eq_decide]
  exact ⟨fun h=>h.2.2.2.2.2.2,fun h=>⟨⟨h1,h2⟩,⟨h3,h4⟩,⟨h5,h6⟩,⟨h7,h8⟩,⟨h9,g1⟩,⟨g2,h⟩⟩⟩
 simp only [n40,r40,encN_len,encN_0,encN_1,encN_2,encN_3,encN_4,encN_5,take_all,ge_iff_le,eq_true h1,eq_true h2,eq_true h3,eq_true h4,eq_true h5,eq_true h6,eq_true h7,eq_true h8,eq_true h9,eq_true g1,eq_true g2,hh,SB,Nat.reduceLT,callee,aOp,ne_eq,Nat.reduceEqDiff,aBin,aUn,if_true,if_false,reduceCtorEq,frame0,place,notTuple,Nat.reduceAdd,Nat.reduceLeDiff,resVal,dite_true,dite_false,Int.reduceEq,Int.reduceLT,Int.reduceLE]
theorem rerr_ok [OB] {mp:Bool} {lim ce:Nat} {pp pl pe:Option Addr} {P:List Int} {L:List Leg} {cp cl:Nat} {es:List Ev} {H:Heap} {Q:Value→Heap→Prop} (hn:NetIn H pp pl P L) (hs:Sl H encE 7 pe es) (hsl:es.length<2 ^ 63) :
  CallR E mp lim 12 [.agg (netV pp P.length cp pl L.length cl).toArray,.slice pe es.length ce] H Q=Q (.int .i64 (errI P L es)) H:=by
 refine pc (by decide) e12 rfl rfl ?_
 rw [b12,c12]
 have hv:=fun X (mp:Bool) (lim:Nat) (Q:Value→Heap→Prop)=>rvalid_ok (mp:=mp) (lim:=lim) (cp:=cp) (cl:=cl) (Q:=Q) (hn.app X)
 by_cases h0:validN P L=0
 case neg=>
  have e:errI P L es=validN P L:=by unfold errI;rw [if_pos h0]
  simp only [n12,r12,netV_len,netV_0,netV_1,take_all,hv,eq_false h0,e,SB,Nat.reduceLT,callee,aOp,ne_eq,Nat.reduceEqDiff,aBin,aUn,if_true,if_false,reduceCtorEq,frame0,place,notTuple,Nat.reduceAdd,Nat.reduceLeDiff,resVal,dite_true,dite_false,Int.reduceEq,Int.reduceLT,Int.reduceLE]
 by_cases h40:(40:Int)<(es.length:Int)
 ·have e:errI P L es=5:=by unfold errI;rw [if_neg (by simpa using h0),if_pos (by omega)]
  simp only [n12,r12,netV_len,netV_0,netV_1,take_all,hv,eq_true h0,eq_true h40,e,SB,Nat.reduceLT,callee,aOp,ne_eq,Nat.reduceEqDiff,aBin,aUn,if_true,if_false,reduceCtorEq,frame0,place,notTuple,Nat.reduceAdd,Nat.reduceLeDiff,resVal,dite_true,dite_false,Int.reduceEq,Int.reduceLT,Int.reduceLE]
 have e2:errI P L es=if EvsOk es then 0 else 2:=by unfold errI;rw [if_neg (by simpa using h0),if_neg (by omega)]
 simp only [n12,r12,netV_len,netV_0,netV_1,take_all,hv,eq_true h0,eq_false h40,SB,Nat.reduceLT,callee,aOp,ne_eq,Nat.reduceEqDiff,aBin,aUn,if_true,if_false,reduceCtorEq,frame0,place,notTuple,Nat.reduceAdd,Nat.reduceLeDiff,resVal,dite_true,dite_false,Int.reduceEq,Int.reduceLT,Int.reduceLE]
 refine Ret_rounds (fun i=>es.length-i) (fun i fr G=>i≤es.length∧fr 1=.slice pe es.length ce∧fr 6=.int .i64 (i:Int)∧Ext H G∧∀j,j<i→evOk es j) 0
  ⟨Nat.zero_le _,(by simp only [FB,Nat.reduceEqDiff]),by rfl,Ext.refl.app,fun j hj=>by omega⟩ ?_
 intro i fr G ⟨hi,f1,f6,hE,hall⟩ hN
 rw [Ret_code l12_1.eq_1]
 refine Ret_pad ?_
 have hl:=hE.len
 by_cases hlt:i<es.length
 case neg=>
  obtain rfl:i=es.length:=by omega
  rw [if_pos (show EvsOk es from hall)] at e2
  simp only [n12,r12,f1,f6,hlt,e2,SB,Nat.reduceLT,callee,aOp,ne_eq,Nat.reduceEqDiff,aBin,aUn,if_true,if_false,reduceCtorEq,frame0,place,notTuple,Nat.reduceAdd,Nat.reduceLeDiff,resVal,dite_true,dite_false,Int.reduceEq,Int.reduceLT,Int.reduceLE]
 have hsG:=hE.sl hs
 have ld:=fun X=>(hsG.app X).loadCells encE_len hlt
 have ix:=fun c (kk:IntKind) (H1:Heap)=>hsG.idx (c:=c) (k:=kk) (H1:=H1) hlt
 have l0:=fun X=>(hsG.app X).loadCell encE_len (i:=0) (j:=0) (by omega) (by decide)
 rw [encE_0] at l0
 replace l0:∀X,AM.loadCell (G++X) (((elt pe 7 0).add 0).add 0)=some (.int .i64 (gt es 0).item):=l0
 have i0:=fun c (kk:IntKind) (H1:Heap)=>hsG.idx (c:=c) (k:=kk) (H1:=H1) (i:=0) (by omega)
 simp only [Int.cast_ofNat_Int] at i0
 have hw1:IntKind.i64.wrap ((i:Int)+1)=((i+1:Nat):Int):=wrap_nat (by omega)
 have bad:¬evOk es i→errI P L es=2:=fun h=>by rw [e2,if_neg fun hh=>h (hh i hlt)]
 have lN:∀X,AM.loadCells (G++X) ((elt pe 7 i).add 0) 6=some (encN (gt es i)):=fun X=>by
  rw [(hsG.app X).loadSub encE_len hlt (by decide)];rfl
 have lI:∀X,AM.loadCell (G++X) (((elt pe 7 i).add 0).add 0)=some (.int .i64 (gt es i).item):=fun X=>by
  have:=(hsG.app X).loadCell encE_len (i:=i) (j:=0) hlt (by decide)
  rw [encE_0] at this;exact this
 have lT:∀X,AM.loadCell (G++X) ((elt pe 7 i).add 6)=some (.int .i64 (gt es i).time):=fun X=>by
  have:=(hsG.app X).loadCell encE_len (i:=i) (j:=6) hlt (by decide)
  rw [encE_6] at this;exact this
 by_cases h1:FineE (gt es i)
 case neg=>
  simp only [n12,r12,f1,f6,hlt,ix,lN,lI,lT,rone_ok,l0,i0,take_all,decide_eq_false h1,SB,Nat.reduceLT,callee,aOp,ne_eq,Nat.reduceEqDiff,aBin,aUn,if_true,if_false,reduceCtorEq,frame0,place,notTuple,Nat.reduceAdd,Nat.reduceLeDiff,resVal,dite_true,dite_false,Int.reduceEq,Int.reduceLT,Int.reduceLE]
  rw [bad fun h=>h1 h.1]
 by_cases h5:(gt es i).item=(gt es 0).item
 case neg=>
  simp only [n12,r12,f1,f6,hlt,ix,lN,lI,lT,rone_ok,l0,i0,take_all,decide_eq_true h1,eq_false h5,SB,Nat.reduceLT,callee,aOp,ne_eq,Nat.reduceEqDiff,aBin,aUn,if_true,if_false,reduceCtorEq,frame0,place,notTuple,Nat.reduceAdd,Nat.reduceLeDiff,resVal,dite_true,dite_false,Int.reduceEq,Int.reduceLT,Int.reduceLE]
  rw [bad fun h=>by
   rcases Nat.eq_zero_or_pos i with rfl | h6
   ·exact h5 rfl
   ·exact h5 (h.2.2.2 h6).1]
 by_cases h2:(gt es i).time<0
 ·simp only [n12,r12,f1,f6,hlt,ix,lN,lI,lT,rone_ok,l0,i0,take_all,decide_eq_true h1,eq_true h5,eq_true h2,SB,Nat.reduceLT,callee,aOp,ne_eq,Nat.reduceEqDiff,aBin,aUn,if_true,if_false,reduceCtorEq,frame0,place,notTuple,Nat.reduceAdd,Nat.reduceLeDiff,resVal,dite_true,dite_false,Int.reduceEq,Int.reduceLT,Int.reduceLE]
  rw [bad fun h=>by have:=h.2.1;omega]
 by_cases h3:1051898399<(gt es i).time
 ·simp only [n12,r12,f1,f6,hlt,ix,lN,lI,lT,rone_ok,l0,i0,take_all,decide_eq_true h1,eq_true h5,eq_false h2,eq_true h3,SB,Nat.reduceLT,callee,aOp,ne_eq,Nat.reduceEqDiff,aBin,aUn,if_true,if_false,reduceCtorEq,frame0,place,notTuple,Nat.reduceAdd,Nat.reduceLeDiff,resVal,dite_true,dite_false,Int.reduceEq,Int.reduceLT,Int.reduceLE]
  rw [bad fun h=>by have:=h.2.2.1;unfold maxTime at this;omega]
 by_cases h4:0<i
 case neg=>
  obtain rfl:i=0:=by omega
  have w0:IntKind.i64.wrap (0+1)=1:=by decide
  simp only [n12,r12,f1,f6,hlt,ix,lN,lI,lT,rone_ok,l0,i0,take_all,decide_eq_true h1,eq_true h5,eq_false h2,eq_false h3,w0,SB,Nat.reduceLT,callee,aOp,ne_eq,Nat.reduceEqDiff,aBin,aUn,if_true,if_false,reduceCtorEq,frame0,place,notTuple,Nat.reduceAdd,Nat.reduceLeDiff,resVal,dite_true,dite_false,Int.reduceEq,Int.reduceLT,Int.reduceLE]
  exact hN 1 _ _ ⟨by omega,(by simp only [f1,FB,Nat.reduceEqDiff]),by rfl,hE.app,fun j hj=>by
   obtain rfl:j=0:=by omega
   exact ⟨h1,by omega,by unfold maxTime;omega,fun h=>by omega⟩⟩ (by omega)
 obtain ⟨k,rfl⟩:∃k,i=k+1:=⟨i-1,by omega⟩
 have lk:=fun X=>(hsG.app X).loadCell encE_len (i:=k) (j:=6) (by omega) (by decide)
 rw [encE_6] at lk
 have ik:=fun c (kk:IntKind) (H1:Heap)=>hsG.idx (c:=c) (k:=kk) (H1:=H1) (i:=k) (by omega)
 have wk:IntKind.i64.wrap (((k+1:Nat):Int)-1)=(k:Int):=by rw [wrap_id (by omega) (by omega)];omega
 have kp:=eq_true (show (0:Int)<((k+1:Nat):Int) by omega)
 by_cases h6:(gt es (k+1)).time<(gt es k).time
 ·simp only [n12,r12,f1,f6,hlt,ix,lN,lI,lT,rone_ok,l0,i0,take_all,decide_eq_true h1,eq_true h5,eq_false h2,eq_false h3,kp,lk,ik,wk,eq_true h6,SB,Nat.reduceLT,callee,aOp,ne_eq,Nat.reduceEqDiff,aBin,aUn,if_true,if_false,reduceCtorEq,frame0,place,notTuple,Nat.reduceAdd,Nat.reduceLeDiff,resVal,dite_true,dite_false,Int.reduceEq,Int.reduceLT,Int.reduceLE]
  rw [bad fun h=>by have h7:=(h.2.2.2 (by omega)).2;rw [Nat.add_sub_cancel] at h7;omega]
 simp only [n12,r12,f1,f6,hlt,ix,lN,lI,lT,rone_ok,l0,i0,take_all,decide_eq_true h1,eq_true h5,eq_false h2,eq_false h3,kp,lk,ik,wk,eq_false h6,hw1,SB,Nat.reduceLT,callee,aOp,ne_eq,Nat.reduceEqDiff,aBin,aUn,if_true,if_false,reduceCtorEq,frame0,place,notTuple,Nat.reduceAdd,Nat.reduceLeDiff,resVal,dite_true,dite_false,Int.reduceEq,Int.reduceLT,Int.reduceLE]
 exact hN (k+2) _ _ ⟨by omega,(by simp only [f1,FB,Nat.reduceEqDiff]),(by simp only [FB,Nat.reduceEqDiff]),hE.app,fun j hj=>by
  rcases Nat.lt_or_ge j (k+1) with h | h
  ·exact hall j h
  ·obtain rfl:j=k+1:=by omega
   exact ⟨h1,by omega,by unfold maxTime;omega,fun _=>⟨h5,by rw [Nat.add_sub_cancel];omega⟩⟩⟩ (by omega)
theorem given_ok [OB] {lim c:Nat} {p:Option Addr} {es:List Ev} {H:Heap} {Q:Value→Heap→Prop} (hs:Sl H encE 7 p es) (hsl:es.length<2 ^ 32) (hlim:lim≤H.length)
  (hQ:∀G q cq,Chg [] H G→Own H.length G encE 7 q cq es→Q (.slice q es.length cq) G) :
  CallR E false lim 13 [.slice p es.length c] H Q:=by
 refine runs' (by decide) e13 rfl ?_
 rw [b13,c13]
 simp only [n13,r13,SB,Nat.reduceLT,callee,aOp,ne_eq,Nat.reduceEqDiff,aBin,aUn,if_true,if_false,reduceCtorEq,frame0,place,notTuple,Nat.reduceAdd,Nat.reduceLeDiff,resVal,dite_true,dite_false,Int.reduceEq,Int.reduceLT,Int.reduceLE]
 refine Ret_rounds (fun s:Nat×Option Addr×Nat=>es.length-s.1) (fun s fr G=>s.1≤es.length∧Chg [] H G∧Own H.length G encE 7 s.2.1 s.2.2 (es.take s.1)∧fr 3=.slice s.2.1 s.1 s.2.2∧fr 6=.slice p es.length c∧fr 7=.int .i64 (es.length:Int)∧fr 8=.int .i64 (s.1:Int)) (0,none,0)
  ⟨Nat.zero_le _,Chg.refl.app,.nil,(by simp only [FB,Nat.reduceEqDiff]),(by simp only [FB,Nat.reduceEqDiff]),(by simp only [FB,Nat.reduceEqDiff]),by rfl⟩ ?_
 rintro ⟨i,pw,cw⟩ fr G ⟨hi,hC,hO,g3,g6,g7,g8⟩ hN
 simp only at hi hO g3 g8
 rw [Ret_code l13_1.eq_1]
 refine Ret_pad ?_
 by_cases hlt:i<es.length
 case neg=>
  obtain rfl:i=es.length:=by omega
  simp only [n13,r13,g3,g6,g7,g8,hlt,SB,Nat.reduceLT,callee,aOp,ne_eq,Nat.reduceEqDiff,aBin,aUn,if_true,if_false,reduceCtorEq,frame0,place,notTuple,Nat.reduceAdd,Nat.reduceLeDiff,resVal,dite_true,dite_false,Int.reduceEq,Int.reduceLT,Int.reduceLE]
  rw [List.take_length] at hO
  have:=hQ G pw cw hC hO
  simpa using this
 have wi:IntKind.i64.wrap ((i:Int)+1)=((i+1:Nat):Int):=wrap_nat (by omega)
 have hsG:=hC.sl hs (by simp)
 have lE:=fun X=>(hsG.app X).loadCells encE_len hlt
 have xE:=fun c (kk:IntKind) (H1:Heap)=>hsG.idx (c:=c) (k:=kk) (H1:=H1) hlt
 have hlG:=hC.len
 have hlimG:lim≤G.length:=by omega
 have htl:(es.take i).length=i:=by simp;omega
 obtain ⟨G4,e4,O4,C4,hl4⟩:=Own.moreF hO (lim':=lim) (bytes:=56) (by omega) encE_len (by decide) [gt es i] (by simp) (by rw [htl];unfold maxBytes;simp;omega) (by rw [htl];simp;omega) [.cells false (encE (gt es i)),.cells false (encE (gt es i))] (x:=.slice (some ⟨G.length+1,0,none⟩) 1 1) (str:=false)
  (first_slice (m:=[gt es i]) (Sl.row (ro:=false) encE_len (by rw [hget_new];simp))) rfl
 rw [htl] at e4
 have hpw:∀j,j∈opB pw→H.length≤j:=fun j hj=>by
  cases hpe:pw with
  | none=>rw [hpe] at hj;cases hj
  | some a=>rw [hpe] at hj;have:=hO.block hpe;simp [opB] at hj;omega
 generalize hp':(G++[Blk.cells false (encE (gt es i)),Blk.cells false (encE (gt es i))]).length=r at e4 O4 hl4
 have hr':G.length≤r:=by rw [←hp'];simp
 generalize loose 7=c' at e4 O4
 simp only [List.length_cons,List.length_nil,Nat.zero_add] at e4
 simp only [n13,r13,g3,g6,g7,g8,hlt,wi,lE,xE,hlimG,setAll_full,encE_len,take_all,e4,SB,Nat.reduceLT,callee,aOp,ne_eq,Nat.reduceEqDiff,aBin,aUn,if_true,if_false,reduceCtorEq,frame0,place,notTuple,Nat.reduceAdd,Nat.reduceLeDiff,resVal,dite_true,dite_false,Int.reduceEq,Int.reduceLT,Int.reduceLE]
 exact hN (i+1,some ⟨r,0,none⟩,c') _ _ ⟨by show i+1≤es.length;omega,(hC.trans' C4 fun j hj hjl=>by have:=hpw j hj;omega).app,by simp only [take_snoc hlt];exact (O4.le (by omega)).app _,by rfl,(by simp only [g6,FB,Nat.reduceEqDiff]),(by simp only [g7,FB,Nat.reduceEqDiff]),by rfl⟩ (by show es.length-(i+1)<es.length-i;omega)
theorem samelegs_eqv {a b:Leg}:aEq (.agg [.int .i64,.int .i64,.int .i64,.int .i64,.int .i64,.int .i64,.int .i64,.int .u8]) (.agg (encL a).toArray) (.agg (encL b).toArray)=some (decide (a=b)):=by
 simp only [aEq,encL,cellsEq,cellEq,and_self,if_true]
 congr 1
 rw [Bool.eq_iff_iff]
 cases a;cases b
 simp [and_assoc]
theorem stop_eqv {a b:Int×Int×Int}:aEq (.agg [.int .i64,.int .i64,.int .i64]) (.agg (enc3 a).toArray) (.agg (enc3 b).toArray)=some (decide (a=b)):=by
 simp only [aEq,enc3,cellsEq,cellEq,and_self,if_true]
 congr 1
 rw [Bool.eq_iff_iff]
 obtain ⟨a1,a2,a3⟩:=a
 obtain ⟨b1,b2,b3⟩:=b
 simp [and_assoc]
theorem same_ok [OB] {mp:Bool} {lim c1 c2 d1 d2:Nat} {p1 p2 r1 r2:Option Addr} {k1 k2:List Int} {s1 s2:List (Int×Int×Int)} {x1 x2:Int} {H:Heap} {Q:Value→Heap→Prop} (hk1:Sl H encI 1 p1 k1) (hk2:Sl H encI 1 p2 k2) (hs1:Sl H enc3 3 r1 s1) (hs2:Sl H enc3 3 r2 s2) (h1:k1.length<2 ^ 62) (h2:s1.length<2 ^ 62) (h3:s2.length<2 ^ 62) :
  CallR E mp lim 19 [.agg #[.slice p1 k1.length c1,.slice r1 s1.length d1,.int .i64 x1],.agg #[.slice p2 k2.length c2,.slice r2 s2.length d2,.int .i64 x2]] H Q=Q (.bool (decide (x1=x2∧k1=k2∧s1=s2))) H:=by
 refine pc (by decide) e19 rfl rfl ?_
 rw [b19,c19]
 have hsm:=fun X (mp:Bool) (lim:Nat) (Q:Value→Heap→Prop)=>sameints_ok (mp:=mp) (lim:=lim) (ca:=c1) (cb:=c2) (Q:=Q) (hk1.app X) (hk2.app X) h1
 obtain ⟨y,hy⟩:∃y:Bool,decide (x1=x2∧k1=k2∧s1=s2)=y:=⟨_,rfl⟩
 rw [hy]
 by_cases hx:x1=x2
 case neg=>
  obtain rfl:y=false:=by rw [←hy];exact decide_eq_false fun h=>hx h.1
  simp only [n19,r19,eq_false hx,SB,Nat.reduceLT,callee,aOp,ne_eq,Nat.reduceEqDiff,aBin,aUn,if_true,if_false,reduceCtorEq,frame0,place,notTuple,Nat.reduceAdd,Nat.reduceLeDiff,resVal,dite_true,dite_false,Int.reduceEq,Int.reduceLT,Int.reduceLE]
 by_cases hk:k1=k2
 case neg=>
  obtain rfl:y=false:=by rw [←hy];exact decide_eq_false fun h=>hk h.2.1
  simp only [n19,r19,eq_true hx,hsm,decide_eq_false hk,SB,Nat.reduceLT,callee,aOp,ne_eq,Nat.reduceEqDiff,aBin,aUn,if_true,if_false,reduceCtorEq,frame0,place,notTuple,Nat.reduceAdd,Nat.reduceLeDiff,resVal,dite_true,dite_false,Int.reduceEq,Int.reduceLT,Int.reduceLE]
 by_cases hl:(s1.length:Int)=(s2.length:Int)
 case neg=>
  obtain rfl:y=false:=by rw [←hy];exact decide_eq_false fun h=>hl (by rw [h.2.2])
  simp only [n19,r19,eq_true hx,hsm,decide_eq_true hk,eq_false hl,SB,Nat.reduceLT,callee,aOp,ne_eq,Nat.reduceEqDiff,aBin,aUn,if_true,if_false,reduceCtorEq,frame0,place,notTuple,Nat.reduceAdd,Nat.reduceLeDiff,resVal,dite_true,dite_false,Int.reduceEq,Int.reduceLT,Int.reduceLE]
 have hl':s1.length=s2.length:=by omega
 have hsn:(s1=s2)↔y=true:=by rw [←hy,decide_eq_true_eq];exact ⟨fun h=>⟨hx,hk,h⟩,fun h=>h.2.2⟩
 simp only [n19,r19,eq_true hx,hsm,decide_eq_true hk,eq_true hl,SB,Nat.reduceLT,callee,aOp,ne_eq,Nat.reduceEqDiff,aBin,aUn,if_true,if_false,reduceCtorEq,frame0,place,notTuple,Nat.reduceAdd,Nat.reduceLeDiff,resVal,dite_true,dite_false,Int.reduceEq,Int.reduceLT,Int.reduceLE]
 refine Ret_rounds (fun j=>s1.length-j) (fun j fr G=>j≤s1.length∧fr 2=.pointer (some ⟨H.length,0,none⟩)∧fr 3=.pointer (some ⟨H.length+1,0,none⟩)∧fr 30=.int .i64 (s1.length:Int)∧fr 31=.int .i64 (j:Int)∧Ext H G∧hget G H.length=.cells false [.slice p1 k1.length c1,.slice r1 s1.length d1,.int .i64 x1]∧hget G (H.length+1)=.cells false [.slice p2 k2.length c2,.slice r2 s2.length d2,.int .i64 x2]∧∀i,i<j→gt s1 i=gt s2 i) 0 ⟨Nat.zero_le _,(by simp only [FB,Nat.reduceEqDiff]),(by simp only [FB,Nat.reduceEqDiff]),(by simp only [FB,Nat.reduceEqDiff]),by rfl,Ext.refl.app,by rw [hget_new0];rfl,by rw [hget_new];rfl,fun i hi=>by omega⟩ ?_
 intro j fr G ⟨hj,f2,f3,f30,f31,hE,b2,b3,hall⟩ hN
 rw [Ret_code l19_1.eq_1]
 refine Ret_pad ?_
 by_cases hlt:j<s1.length
 case neg=>
  obtain rfl:j=s1.length:=by omega
  have:=hsn.1 (same_all hl' hall)
  simp only [n19,r19,f2,f3,f30,f31,hlt,this,SB,Nat.reduceLT,callee,aOp,ne_eq,Nat.reduceEqDiff,aBin,aUn,if_true,if_false,reduceCtorEq,frame0,place,notTuple,Nat.reduceAdd,Nat.reduceLeDiff,resVal,dite_true,dite_false,Int.reduceEq,Int.reduceLT,Int.reduceLE]
 have l1:=fun X=>((hE.sl hs1).app X).loadCells enc3_len hlt
 have l2:=fun X=>((hE.sl hs2).app X).loadCells enc3_len (by omega:j<s2.length)
 have i1:=fun c (kk:IntKind) (H1:Heap)=>(hE.sl hs1).idx (c:=c) (k:=kk) (H1:=H1) hlt
 have i2:=fun c (kk:IntKind) (H1:Heap)=>(hE.sl hs2).idx (c:=c) (k:=kk) (H1:=H1) (by omega:j<s2.length)
 have hw1:IntKind.i64.wrap ((j:Int)+1)=((j+1:Nat):Int):=wrap_nat (by omega)
 have b2X:=fun X=>(Ext.refl.app (X:=X)).cells b2
 have b3X:=fun X=>(Ext.refl.app (X:=X)).cells b3
 by_cases he:gt s1 j=gt s2 j
 ·simp only [n19,r19,f2,f3,f30,f31,hlt,l1,l2,i1,i2,hw1,b2X,b3X,stop_eqv,decide_eq_true he,Bool.not_true,SB,Nat.reduceLT,callee,aOp,ne_eq,Nat.reduceEqDiff,aBin,aUn,if_true,if_false,reduceCtorEq,frame0,place,notTuple,Nat.reduceAdd,Nat.reduceLeDiff,resVal,dite_true,dite_false,Int.reduceEq,Int.reduceLT,Int.reduceLE]
  exact hN (j+1) _ _ ⟨by omega,(by simp only [f2,FB,Nat.reduceEqDiff]),(by simp only [f3,FB,Nat.reduceEqDiff]),(by simp only [f30,FB,Nat.reduceEqDiff]),(by simp only [FB,Nat.reduceEqDiff]),hE.app,(Ext.refl.app).cells b2,(Ext.refl.app).cells b3,same_step hl' hlt hall he⟩ (by omega)
 ·obtain rfl:y=false:=by
   cases y with
   | false=>rfl
   | true=>exact absurd (by rw [hsn.2 rfl]) he
  simp only [n19,r19,f2,f3,f30,f31,hlt,l1,l2,i1,i2,hw1,b2X,b3X,stop_eqv,decide_eq_false he,Bool.not_false,SB,Nat.reduceLT,callee,aOp,ne_eq,Nat.reduceEqDiff,aBin,aUn,if_true,if_false,reduceCtorEq,frame0,place,notTuple,Nat.reduceAdd,Nat.reduceLeDiff,resVal,dite_true,dite_false,Int.reduceEq,Int.reduceLT,Int.reduceLE]
theorem rcost_ok [OB] {lim cp cl ce ck:Nat} {pp pl pe pk:Option Addr} {P:List Int} {L:List Leg} {es:List Ev} {ks:List Int} {H:Heap} {Q:Value→Heap→Prop} (hn:NetIn H pp pl P L) (hv:validN P L=0) (hs:Sl H encE 7 pe es) (hsl:es.length≤40) (ht:∀i,i<es.length→0≤(gt es i).time∧(gt es i).time≤maxTime) (hk:Sl H encI 1 pk ks) (hkl:ks.length≤60) (hks:∀k∈ks,0≤k∧k<es.length) (hlim:lim≤H.length)
  (hQ:∀G r cr,Chg [] H G→Mine H.length G enc3 3 r (stepsN P L es ks)→Q (.agg #[.slice pk ks.length ck,.slice r (stepsN P L es ks).length cr,.int .i64 (costN P L es ks)]) G) :
  CallR E false lim 21 [.agg (netV pp P.length cp pl L.length cl).toArray,.slice pe es.length ce,.slice pk ks.length ck] H Q:=by
 refine runs' (by decide) e21 rfl ?_
 rw [b21,c21]
 obtain ⟨base,hbase⟩:∃base,base=30*((es.length:Int)-ks.length):=⟨_,rfl⟩
 have w1:IntKind.i64.wrap ((es.length:Int)-ks.length)=(es.length:Int)-ks.length:=wrap_id (by omega) (by omega)
 have w2:IntKind.i64.wrap (30*((es.length:Int)-ks.length))=base:=by rw [hbase];exact wrap_id (by omega) (by omega)
 simp only [n21,r21,hlim,w1,w2,SB,Nat.reduceLT,callee,aOp,ne_eq,Nat.reduceEqDiff,aBin,aUn,if_true,if_false,reduceCtorEq,frame0,place,notTuple,Nat.reduceAdd,Nat.reduceLeDiff,resVal,dite_true,dite_false,Int.reduceEq,Int.reduceLT,Int.reduceLE]
 refine Ret_rounds (fun s:Nat×Option Addr×Nat=>ks.length-s.1) (fun s fr G=>(s.1=0∨s.1<ks.length)∧fr 1=.slice pe es.length ce∧fr 2=.slice pk ks.length ck∧fr 3=.pointer (some ⟨H.length,0,none⟩)∧fr 6=.pointer (some ⟨H.length+1,0,none⟩)∧fr 7=.pointer (some ⟨H.length+2,0,none⟩)∧fr 8=.int .i64 ((s.1+1:Nat):Int)∧Chg [] H G∧hget G H.length=.cells false (netV pp P.length cp pl L.length cl)∧hget G (H.length+1)=.cells false [.slice none 0 0,.slice none 0 0,.int .i64 0]∧hget G (H.length+2)=.cells false [.slice pk ks.length ck,.slice s.2.1 s.1 s.2.2,.int .i64 (base+sumN ((List.range s.1).map (stepN P L es ks)))]∧Own (H.length+3) G enc3 3 s.2.1 s.2.2 ((List.range s.1).map (stepN P L es ks))) (0,none,0)
  ⟨.inl rfl,(by simp only [FB,Nat.reduceEqDiff]),(by simp only [FB,Nat.reduceEqDiff]),(by simp only [FB,Nat.reduceEqDiff]),(by simp only [FB,Nat.reduceEqDiff]),(by simp only [FB,Nat.reduceEqDiff]),by rfl,Chg.refl.app,by rw [hget_new0];rfl,by rw [hget_new];rfl,by rw [hget_new];simp [sumN],.nil⟩ ?_
 rintro ⟨i,pw,cw⟩ fr G ⟨hi,g1,g2,g3,g6,g7,g8,hC,b3,b6,b7,hO⟩ hN
 simp only at hi g8 b7 hO
 rw [Ret_code l21_1.eq_1]
 have hl:=hC.len
 have hrl:((List.range i).map (stepN P L es ks)).length=i:=by simp
 have hsum:=sumN_range (P:=P) (L:=L) (es:=es) (ks:=ks) i
 have b3X:=fun X=>(Ext.refl.app (X:=X)).cells b3
 have b6X:=fun X=>(Ext.refl.app (X:=X)).cells b6
 have b7X:=fun X=>(Ext.refl.app (X:=X)).cells b7
 have h7l:=hget_alive b7
 refine Ret_pad ?_
 by_cases hlt:i+1<ks.length
 case neg=>
  have ei:ks.length-1=i:=by omega
  have est:stepsN P L es ks=(List.range i).map (stepN P L es ks):=by unfold stepsN;rw [ei]
  have hlt':=eq_false (show ¬((i+1:Nat):Int)<(ks.length:Int) by omega)
  obtain ⟨G2,e2,h2,m2⟩:=mut_set (hget_alive b6) (.cells false [.slice pk ks.length ck,.slice pw i cw,.int .i64 (base+sumN ((List.range i).map (stepN P L es ks)))])
  have h2X:=fun X=>(Ext.refl.app (X:=X)).cells h2
  simp only [n21,r21,g1,g2,g3,g6,g7,g8,hlt',b6X,b7X,hlim,e2,h2X,SB,Nat.reduceLT,callee,aOp,ne_eq,Nat.reduceEqDiff,aBin,aUn,if_true,if_false,reduceCtorEq,frame0,place,notTuple,Nat.reduceAdd,Nat.reduceLeDiff,resVal,dite_true,dite_false,Int.reduceEq,Int.reduceLT,Int.reduceLE]
  have hC2:Chg [] H G2:=hC.mut m2 (.inr (by omega))
  have hO2:=hO.mut m2 fun a ha e=>by have:=(hO.block ha).1;omega
  have:=hQ G2 pw cw hC2 (by rw [est];exact ⟨hO2.sl enc3_len,fun a ha=>by have:=(hO2.block ha).1;omega⟩)
  rw [est,hrl] at this
  unfold costN at this
  rw [est,←hbase] at this
  rw [List.append_nil]
  exact this
 have hlt':=eq_true (show ((i+1:Nat):Int)<(ks.length:Int) by omega)
 have hsG:=hC.sl hs (by simp)
 have hkG:=hC.sl hk (by simp)
 have hnG:=hn.ext hC.ext
 have l0:=ld_ints (i:=i) hkG (by omega)
 have l1:=ld_ints (i:=i+1) hkG hlt
 have x0:=ix_ints (i:=i) hkG (show i<ks.length by omega) rfl
 have x1:=ix_ints (i:=i+1) hkG hlt rfl
 obtain ⟨a,ea⟩:=Int.eq_ofNat_of_zero_le (hks _ (gt_mem (i:=i) (by omega))).1
 obtain ⟨b,eb⟩:=Int.eq_ofNat_of_zero_le (hks _ (gt_mem hlt)).1
 have ha:a<es.length:=by have:=(hks _ (gt_mem (l:=ks) (i:=i) (by omega))).2;omega
 have hb:b<es.length:=by have:=(hks _ (gt_mem hlt)).2;omega
 have es1:stepN P L es ks i=((a:Int),(b:Int),priceN P L (gt es a) (gt es b)):=by unfold stepN;rw [ea,eb];rfl
 rw [ea] at l0
 rw [eb] at l1
 have la:=fun X=>(hsG.app X).loadCells encE_len ha
 have lb:=fun X=>(hsG.app X).loadCells encE_len hb
 have xa:=fun c (k:IntKind) (H1:Heap)=>hsG.idx (c:=c) (k:=k) (H1:=H1) ha
 have xb:=fun c (k:IntKind) (H1:Heap)=>hsG.idx (c:=c) (k:=k) (H1:=H1) hb
 have w9:IntKind.i64.wrap (((i+1:Nat):Int)-1)=(i:Int):=by rw [wrap_id (by omega) (by omega)];omega
 have w10:IntKind.i64.wrap (((i+1:Nat):Int)+1)=((i+2:Nat):Int):=wrap_nat (by omega)
 have hpc:=fun X (mp:Bool) (lim:Nat) (Q:Value→Heap→Prop)=>rprice_ok (mp:=mp) (lim:=lim) (cp:=cp) (cl:=cl) (a:=gt es a) (b:=gt es b) (Q:=Q) (hnG.app X) hv (ht a ha) (ht b hb)
 generalize hp:priceN P L (gt es a) (gt es b)=p at es1 hpc
 have hpr:=priceN_range (P:=P) (L:=L) (a:=gt es a) (b:=gt es b)
 rw [hp] at hpr
 have eN:(List.range i).map (stepN P L es ks)++[((a:Int),(b:Int),p)]=(List.range (i+1)).map (stepN P L es ks):=by rw [List.range_succ,List.map_append,List.map_singleton,es1]
 have wp:IntKind.i64.wrap (base+sumN ((List.range i).map (stepN P L es ks))+p)=base+sumN ((List.range (i+1)).map (stepN P L es ks)):=by
  rw [←eN,sumN_snoc,←Int.add_assoc]
  exact wrap_id (by omega) (by omega)
 have hne:∀j,j<H.length+3→∀a,pw=some a→j≠a.block:=fun j hj a ha e=>by have:=(hO.block ha).1;omega
 obtain ⟨G4,p',c',e4,O4,C4,K4,hl4,_,_⟩:=Own.moreD hO (lim':=lim) (d:=G.length+1) (bytes:=24) (by omega) enc3_len (by decide) [((a:Int),(b:Int),p)] (by rw [hrl];unfold maxBytes;simp;omega) (by rw [hrl];simp;omega) (by omega) [.cells false [.int .i64 (a:Int),.int .i64 (b:Int),.int .i64 p],.dead] (by omega) (by simp) (x:=.slice (some ⟨G.length,0,none⟩) 1 1) (str:=false)
  (first_slice (m:=[((a:Int),(b:Int),p)]) (Sl.row (ro:=false) enc3_len (by rw [hget_new0];rfl))) rfl
 rw [hrl] at e4
 simp only [List.length_cons,List.length_nil,Nat.zero_add] at e4
 rw [eN] at O4
 simp only [List.append_nil] at e4 O4 C4 K4
 have hC4:=C4 [] H (by omega) hC
 have k3:=(K4 H.length (by omega) (hne _ (by omega))).trans b3
 have k6:=(K4 (H.length+1) (by omega) (hne _ (by omega))).trans b6
 have k7:=(K4 (H.length+2) (by omega) (hne _ (by omega))).trans b7
 obtain ⟨G5,e5,h5,m5⟩:=mut_set (hget_alive k7) (.cells false [.slice pk ks.length ck,.slice p' (i+1) c',.int .i64 (base+sumN ((List.range i).map (stepN P L es ks)))])
 obtain ⟨G6,e6,h6,m6⟩:=mut_set (hget_alive h5) (.cells false [.slice pk ks.length ck,.slice p' (i+1) c',.int .i64 (base+sumN ((List.range (i+1)).map (stepN P L es ks)))])
 have k7X:=fun X=>(Ext.refl.app (X:=X)).cells k7
 have h5X:=fun X=>(Ext.refl.app (X:=X)).cells h5
 have e4':aAppend lim (some (G.length+1)) 3 24 false (.slice pw i cw) (.slice (some ⟨G.length,0,none⟩) 1 1) (G++[.cells false [.int .i64 (a:Int),.int .i64 (b:Int),.int .i64 p],.dead])=some (.slice p' (i+1) c',G4++[]):=by rw [List.append_nil];exact e4
 simp only [n21,r21,g1,g2,g3,g6,g7,g8,hlt',b3X,netV_len,netV_0,netV_1,take_all,b7X,w9,l0,l1,x0,x1,la,lb,xa,xb,hpc,hlim,e4',k7X,e5,h5X,e6,wp,w10,SB,Nat.reduceLT,callee,aOp,ne_eq,Nat.reduceEqDiff,aBin,aUn,if_true,if_false,reduceCtorEq,frame0,place,notTuple,Nat.reduceAdd,Nat.reduceLeDiff,resVal,dite_true,dite_false,Int.reduceEq,Int.reduceLT,Int.reduceLE]
 have hC6:Chg [] H G6:=(hC4.mut m5 (.inr (by omega))).mut m6 (.inr (by omega))
 have O6:=(O4.mut m5 fun a ha e=>by have:=(O4.block ha).1;omega).mut m6 fun a ha e=>by have:=(O4.block ha).1;omega
 exact hN (i+1,p',c') _ _ ⟨.inr hlt,(by simp only [g1,FB,Nat.reduceEqDiff]),(by simp only [g2,FB,Nat.reduceEqDiff]),(by simp only [g3,FB,Nat.reduceEqDiff]),(by simp only [g6,FB,Nat.reduceEqDiff]),(by simp only [g7,FB,Nat.reduceEqDiff]),by rfl,hC6.app,(Ext.refl.app).cells (m6.cells (m5.cells k3 (by omega)) (by omega)),(Ext.refl.app).cells (m6.cells (m5.cells k6 (by omega)) (by omega)),(Ext.refl.app).cells h6,O6.app _⟩ (by show ks.length-(i+1)<ks.length-i;omega)
def f1 (x:Tri):Int:=x.1
def f2 (x:Tri):Int:=x.2.1
def f3 (x:Tri):Int:=x.2.2
structure Tab (G:Heap) (a b c:Nat) (T:List Tri):Prop where
 a:hget G a=.cells false ((T.map f1).flatMap encI)
 b:hget G b=.cells false ((T.map f2).flatMap encI)
 c:hget G c=.cells false ((T.map f3).flatMap encI)
theorem gt_map {f:Tri→Int} {T:List Tri} {i:Nat} (h:i<T.length):gt (T.map f) i=f (gt T i):=by
 rw [gt_lt (by simpa using h),gt_lt h];simp
section
variable {G:Heap} {a b c i:Nat} {T:List Tri}
theorem Tab.app (h:Tab G a b c T) (X:Heap):Tab (G++X) a b c T:=⟨(Ext.refl.app).cells h.a,(Ext.refl.app).cells h.b,(Ext.refl.app).cells h.c⟩
theorem Tab.get {f:Tri→Int} {r:Nat} (h:hget G r=.cells false ((T.map f).flatMap encI)) (hi:i<T.length):(∀X,AM.loadCell (G++X) (elt (some ⟨r,0,none⟩) 1 i)=some (.int .i64 (f (gt T i))))∧∀(n cc:Nat) (k:IntKind) (H1:Heap),n=T.length→idxK 1 (.slice (some ⟨r,0,none⟩) n cc) (.int k (i:Int)) H1=some (.pointer (some (elt (some ⟨r,0,none⟩) 1 i)),H1):=by
 have s:Sl G encI 1 (some ⟨r,0,none⟩) (T.map f):=Sl.row encI_len h
 have l:=ld_ints (i:=i) s (by simpa using hi)
 rw [gt_map hi] at l
 exact ⟨l,fun n cc k H1 hn=>ix_ints s (by omega) (by simp [hn]) cc k H1⟩
theorem tab_set {lim:Nat} (h:Tab G a b c T) (hab:a≠b) (hbc:b≠c) (hac:a≠c) (ha:lim≤a) (hb:lim≤b) (hc:lim≤c) (hi:i<T.length) (x:Tri) :
  ∃G1 G2 G3,(∀X,AM.storeAt lim (G++X) (elt (some ⟨a,0,none⟩) 1 i) [.int .i64 x.1]=some (G1++X))∧(∀X,AM.storeAt lim (G1++X) (elt (some ⟨b,0,none⟩) 1 i) [.int .i64 x.2.1]=some (G2++X))∧(∀X,AM.storeAt lim (G2++X) (elt (some ⟨c,0,none⟩) 1 i) [.int .i64 x.2.2]=some (G3++X))∧Tab G3 a b c (T.set i x)∧Chg [a,b,c] G G3:=by
 obtain ⟨G1,e1,k1,m1⟩:=store_mut (lim:=lim) (p:=some ⟨a,0,none⟩) (i:=i) encI_len rfl h.a ha (by simpa using hi) x.1
 obtain ⟨G2,e2,k2,m2⟩:=store_mut (lim:=lim) (p:=some ⟨b,0,none⟩) (i:=i) encI_len rfl (m1.cells h.b (Ne.symm hab)) hb (by simpa using hi) x.2.1
 obtain ⟨G3,e3,k3,m3⟩:=store_mut (lim:=lim) (p:=some ⟨c,0,none⟩) (i:=i) encI_len rfl (m2.cells (m1.cells h.c (Ne.symm hac)) (Ne.symm hbc)) hc (by simpa using hi) x.2.2
 refine ⟨G1,G2,G3,e1,e2,e3,⟨?_, ?_, ?_⟩,((Chg.refl.mut m1 (.inl (by simp))).mut m2 (.inl (by simp))).mut m3 (.inl (by simp))⟩
 ·rw [List.map_set];exact m3.cells (m2.cells k1 hab) hac
 ·rw [List.map_set];exact m3.cells k2 hbc
 ·rw [List.map_set];exact k3
end
theorem pick_ref {x r:Tri}:pickR x r=if r.1<x.1∨(r.1=x.1∧x.2.1≤r.2.1) then r else x:=by
 unfold pickR lessR
 by_cases h:r.1<x.1∨(r.1=x.1∧x.2.1≤r.2.1)
 ·rw [if_pos h,if_neg (by simp only [decide_eq_true_eq];omega)]
 ·rw [if_neg h,if_pos (by simp only [decide_eq_true_eq];omega)]
theorem row_loop [OB] {lim A2 a b c cp cl ce ca cb cc i k n:Nat} {pp pl pe:Option Addr} {P:List Int} {L:List Leg} {es:List Ev} {T:List Tri} {G0:Heap} {fr:Nat→Value} {K:List AItem} {Z:Value→Heap→Prop} (hv:validN P L=0) (hen:es.length=n) (h40:n≤40) (ht:∀i,i<es.length→0≤(gt es i).time∧(gt es i).time≤maxTime)
  (hik:i+1+k=n) (hT:T.length=n) (hTb:∀j,j<n→Bnd n j (gt T j)) (hnet:∀G,Chg [a,b,c] G0 G→NetIn G pp pl P L∧Sl G encE 7 pe es) (hlG0:lim≤G0.length) (h2:hget G0 A2=.cells false (netV pp P.length cp pl L.length cl)) (h2n:A2≠a∧A2≠b∧A2≠c)
  (hab:a≠b) (hbc:b≠c) (hac:a≠c) (ha:lim≤a) (hb:lim≤b) (hc:lim≤c) (hTab:Tab G0 a b c (T.set i (rowUp P L es T i 0)))
  (g1:fr 1=.slice pe n ce) (g2:fr 2=.pointer (some ⟨A2,0,none⟩)) (g6:fr 6=.slice (some ⟨a,0,none⟩) n ca) (g7:fr 7=.slice (some ⟨b,0,none⟩) n cb) (g8:fr 8=.slice (some ⟨c,0,none⟩) n cc) (g10:fr 10=.int .i64 (i:Int)) (g11:fr 11=.int .i64 ((n:Int)-1))
  (hR:∀fr' G,Chg [a,b,c] G0 G→Tab G a b c (T.set i (rowUp P L es T i k))→(∀j,j≤10→fr' j=fr j)→Ret E a20 lim K fr' G Z) :
  Ret E a20 lim (.code (.loop l20_3)::.inBlock 2::K) fr G0 Z:=by
 refine Ret_rounds (fun m=>k-m) (fun m fr' G=>m≤k∧Chg [a,b,c] G0 G∧Tab G a b c (T.set i (rowUp P L es T i m))∧(∀j,j≤10→fr' j=fr j)∧fr' 11=.int .i64 ((n:Int)-1-m)) 0
  ⟨Nat.zero_le _,Chg.refl,hTab,fun _ _=>rfl,by rw [g11];simp⟩ ?_
 intro m fr' G ⟨hm,hC,hTab',hfr,h11⟩ hN
 rw [Ret_code l20_3.eq_1]
 have q1:=(hfr 1 (by decide)).trans g1
 have q2:=(hfr 2 (by decide)).trans g2
 have q6:=(hfr 6 (by decide)).trans g6
 have q7:=(hfr 7 (by decide)).trans g7
 have q8:=(hfr 8 (by decide)).trans g8
 have q10:=(hfr 10 (by decide)).trans g10
 have hlG:lim≤G.length:=Nat.le_trans hlG0 hC.len
 have hfr':∀(f:Nat→Value),(∀j,j≤10→f j=fr' j)→∀j,j≤10→f j=fr j:=fun f h j hj=>(h j hj).trans (hfr j hj)
 refine Ret_pad ?_
 by_cases hlt:m<k
 case neg=>
  obtain rfl:m=k:=by omega
  have h1:=eq_false (show ¬(i:Int)<(n:Int)-1-m by omega)
  simp only [n20,r20,q10,h11,h1,SB,Nat.reduceLT,callee,aOp,ne_eq,Nat.reduceEqDiff,aBin,aUn,if_true,if_false,reduceCtorEq,frame0,place,notTuple,Nat.reduceAdd,Nat.reduceLeDiff,resVal,dite_true,dite_false,Int.reduceEq,Int.reduceLT,Int.reduceLE]
  exact hR _ _ hC.app (hTab'.app _) fun j hj=>by
   rw [←hfr j hj]
   simp only [upd]
   repeat rw [if_neg (by omega)]
 have h1:=eq_true (show (i:Int)<(n:Int)-1-m by omega)
 obtain ⟨j,hj⟩:∃j,j=n-1-m:=⟨_,rfl⟩
 have ejj:(n:Int)-1-m=(j:Int):=by omega
 rw [ejj] at h11 h1
 have hij:i<j:=by omega
 have hjn:j<n:=by omega
 obtain ⟨hn,hs⟩:=hnet G hC
 have b2X:=fun X=>(Ext.refl.app (X:=X)).cells (hC.cells h2 (by simp [h2n]))
 have la:=fun X=>(hs.app X).loadCells encE_len (show i<es.length by omega)
 have lb:=fun X=>(hs.app X).loadCells encE_len (show j<es.length by omega)
 have xa:=fun c (k:IntKind) (H1:Heap)=>hs.idx (c:=c) (k:=k) (H1:=H1) (show i<es.length by omega)
 have xb:=fun c (k:IntKind) (H1:Heap)=>hs.idx (c:=c) (k:=k) (H1:=H1) (show j<es.length by omega)
 rw [hen] at xa xb
 have hpc:=fun X (mp:Bool) (lim:Nat) (Q:Value→Heap→Prop)=>rprice_ok (mp:=mp) (lim:=lim) (cp:=cp) (cl:=cl) (a:=gt es i) (b:=gt es j) (Q:=Q) (hn.app X) hv (ht i (by omega)) (ht j (by omega))
 have hcand:candN P L es T i (es.length-1-m)=(priceN P L (gt es i) (gt es j)+30*((j:Int)-i-1)+(gt T j).1,(gt T j).2.1+1,(j:Int)):=by rw [hen,←hj];rfl
 have hup:rowUp P L es T i (m+1)=pickR (rowUp P L es T i m) (candN P L es T i (es.length-1-m)):=rfl
 rw [hcand,pick_ref] at hup
 have hrb:=rowUp_bnd (P:=P) (L:=L) (es:=es) (T:=T) (i:=i) (by rw [hen];exact hTb) (by omega) m (by omega)
 have hjb:=hTb j hjn
 have hpr:=priceN_range (P:=P) (L:=L) (a:=gt es i) (b:=gt es j)
 rw [hen] at hrb
 have hset:∀x,(T.set i (rowUp P L es T i m)).set i x=T.set i x:=fun x=>List.set_set ..
 have hTl:(T.set i (rowUp P L es T i m)).length=n:=by simp [hT]
 have ei:gt (T.set i (rowUp P L es T i m)) i=rowUp P L es T i m:=by rw [gt_set (by omega),if_pos rfl]
 have ej:gt (T.set i (rowUp P L es T i m)) j=gt T j:=by rw [gt_set (by omega),if_neg (by omega)]
 have A_i:=Tab.get (i:=i) hTab'.a (by omega)
 have B_i:=Tab.get (i:=i) hTab'.b (by omega)
 have C_i:=Tab.get (i:=i) hTab'.c (by omega)
 have A_j:=Tab.get (i:=j) hTab'.a (by omega)
 have B_j:=Tab.get (i:=j) hTab'.b (by omega)
 rw [ei] at A_i B_i C_i
 rw [ej] at A_j B_j
 generalize hnx:rowUp P L es T i (m+1)=nx at hup
 generalize rowUp P L es T i m=old at *
 generalize priceN P L (gt es i) (gt es j)=p at *
 generalize hgj:gt T j=tj at *
 unfold Bnd at hrb hjb
 have lAi:=A_i.1
 have lBi:=B_i.1
 have lAj:=A_j.1
 have lBj:=B_j.1
 have xAi:=fun cc (k:IntKind) (H1:Heap)=>A_i.2 n cc k H1 hTl.symm
 have xBi:=fun cc (k:IntKind) (H1:Heap)=>B_i.2 n cc k H1 hTl.symm
 have xCi:=fun cc (k:IntKind) (H1:Heap)=>C_i.2 n cc k H1 hTl.symm
 have xAj:=fun cc (k:IntKind) (H1:Heap)=>A_j.2 n cc k H1 hTl.symm
 have xBj:=fun cc (k:IntKind) (H1:Heap)=>B_j.2 n cc k H1 hTl.symm
 simp only [f1,f2] at lAi lBi lAj lBj
 have w1:IntKind.i64.wrap ((j:Int)-i)=(j:Int)-i:=wrap_id (by omega) (by omega)
 have w2:IntKind.i64.wrap ((j:Int)-i-1)=(j:Int)-i-1:=wrap_id (by omega) (by omega)
 have w3:IntKind.i64.wrap (30*((j:Int)-i-1))=30*((j:Int)-i-1):=wrap_id (by omega) (by omega)
 have w4:IntKind.i64.wrap (p+30*((j:Int)-i-1))=p+30*((j:Int)-i-1):=wrap_id (by omega) (by omega)
 have w5:IntKind.i64.wrap (p+30*((j:Int)-i-1)+tj.1)=p+30*((j:Int)-i-1)+tj.1:=wrap_id (by omega) (by omega)
 have w6:IntKind.i64.wrap (tj.2.1+1)=tj.2.1+1:=wrap_id (by omega) (by omega)
 have w7:IntKind.i64.wrap ((j:Int)-1)=(n:Int)-1-((m+1:Nat):Int):=by rw [wrap_id (by omega) (by omega)];omega
 by_cases hb1:p+30*((j:Int)-i-1)+tj.1<old.1∨(p+30*((j:Int)-i-1)+tj.1=old.1∧old.2.1≤tj.2.1+1)
 case neg=>
  rw [if_neg hb1] at hup
  have n1:=eq_false (show ¬p+30*((j:Int)-i-1)+tj.1<old.1 by omega)
  by_cases e1:p+30*((j:Int)-i-1)+tj.1=old.1
  ·have n2:=eq_false (show ¬old.2.1≤tj.2.1+1 by omega)
   simp only [n20,r20,q1,q2,q6,q7,q8,q10,h11,h1,b2X,netV_len,netV_0,netV_1,take_all,la,lb,xa,xb,hpc,lAi,lBi,lAj,lBj,xAi,xBi,xCi,xAj,xBj,w1,w2,w3,w4,w5,w6,w7,n1,eq_true e1,n2,SB,Nat.reduceLT,callee,aOp,ne_eq,Nat.reduceEqDiff,aBin,aUn,if_true,if_false,reduceCtorEq,frame0,place,notTuple,Nat.reduceAdd,Nat.reduceLeDiff,resVal,dite_true,dite_false,Int.reduceEq,Int.reduceLT,Int.reduceLE]
   exact hN (m+1) _ _ ⟨by omega,hC.app,by rw [hnx,hup];exact hTab'.app _,hfr' _ fun j hj=>by
    simp only [upd]
    repeat rw [if_neg (by omega)],by rfl⟩ (by omega)
  ·simp only [n20,r20,q1,q2,q6,q7,q8,q10,h11,h1,b2X,netV_len,netV_0,netV_1,take_all,la,lb,xa,xb,hpc,lAi,lBi,lAj,lBj,xAi,xBi,xCi,xAj,xBj,w1,w2,w3,w4,w5,w6,w7,n1,eq_false e1,SB,Nat.reduceLT,callee,aOp,ne_eq,Nat.reduceEqDiff,aBin,aUn,if_true,if_false,reduceCtorEq,frame0,place,notTuple,Nat.reduceAdd,Nat.reduceLeDiff,resVal,dite_true,dite_false,Int.reduceEq,Int.reduceLT,Int.reduceLE]
   exact hN (m+1) _ _ ⟨by omega,hC.app,by rw [hnx,hup];exact hTab'.app _,hfr' _ fun j hj=>by
    simp only [upd]
    repeat rw [if_neg (by omega)],by rfl⟩ (by omega)
 rw [if_pos hb1] at hup
 obtain ⟨G1,G2,G3,s1,s2,s3,hT3,hC3⟩:=tab_set hTab' hab hbc hac ha hb hc (i:=i) (by omega) (p+30*((j:Int)-i-1)+tj.1,tj.2.1+1,(j:Int))
 rw [List.set_set,←hup,←hnx] at hT3
 by_cases e0:p+30*((j:Int)-i-1)+tj.1<old.1
 ·simp only [n20,r20,q1,q2,q6,q7,q8,q10,h11,h1,b2X,netV_len,netV_0,netV_1,take_all,la,lb,xa,xb,hpc,lAi,lBi,lAj,lBj,xAi,xBi,xCi,xAj,xBj,w1,w2,w3,w4,w5,w6,w7,eq_true e0,s1,s2,s3,SB,Nat.reduceLT,callee,aOp,ne_eq,Nat.reduceEqDiff,aBin,aUn,if_true,if_false,reduceCtorEq,frame0,place,notTuple,Nat.reduceAdd,Nat.reduceLeDiff,resVal,dite_true,dite_false,Int.reduceEq,Int.reduceLT,Int.reduceLE]
  exact hN (m+1) _ _ ⟨by omega,(hC.trans hC3).app,hT3.app _,hfr' _ fun j hj=>by
   simp only [upd]
   repeat rw [if_neg (by omega)],by rfl⟩ (by omega)
 ·have n2:=eq_true (show old.2.1≤tj.2.1+1 by omega)
  simp only [n20,r20,q1,q2,q6,q7,q8,q10,h11,h1,b2X,netV_len,netV_0,netV_1,take_all,la,lb,xa,xb,hpc,lAi,lBi,lAj,lBj,xAi,xBi,xCi,xAj,xBj,w1,w2,w3,w4,w5,w6,w7,eq_false e0,eq_true (show p+30*((j:Int)-i-1)+tj.1=old.1 by omega),n2,s1,s2,s3,SB,Nat.reduceLT,callee,aOp,ne_eq,Nat.reduceEqDiff,aBin,aUn,if_true,if_false,reduceCtorEq,frame0,place,notTuple,Nat.reduceAdd,Nat.reduceLeDiff,resVal,dite_true,dite_false,Int.reduceEq,Int.reduceLT,Int.reduceLE]
  exact hN (m+1) _ _ ⟨by omega,(hC.trans hC3).app,hT3.app _,hfr' _ fun j hj=>by
   simp only [upd]
   repeat rw [if_neg (by omega)],by rfl⟩ (by omega)
theorem table_loop [OB] {lim A2 a b c cp cl ce ca cb cc n:Nat} {pp pl pe:Option Addr} {P:List Int} {L:List Leg} {es:List Ev} {G0:Heap} {fr:Nat→Value} {K:List AItem} {Z:Value→Heap→Prop} (hv:validN P L=0) (hen:es.length=n) (h40:n≤40) (ht:∀i,i<es.length→0≤(gt es i).time∧(gt es i).time≤maxTime)
  (hnet:∀G,Chg [a,b,c] G0 G→NetIn G pp pl P L∧Sl G encE 7 pe es) (hlG0:lim≤G0.length) (h2:hget G0 A2=.cells false (netV pp P.length cp pl L.length cl)) (h2n:A2≠a∧A2≠b∧A2≠c)
  (hab:a≠b) (hbc:b≠c) (hac:a≠c) (ha:lim≤a) (hb:lim≤b) (hc:lim≤c) (hTab:Tab G0 a b c (tableN P L es 0))
  (g1:fr 1=.slice pe n ce) (g2:fr 2=.pointer (some ⟨A2,0,none⟩)) (g5:fr 5=.int .i64 (n:Int)) (g6:fr 6=.slice (some ⟨a,0,none⟩) n ca) (g7:fr 7=.slice (some ⟨b,0,none⟩) n cb) (g8:fr 8=.slice (some ⟨c,0,none⟩) n cc) (g10:fr 10=.int .i64 ((n:Int)-1))
  (hR:∀fr' G,Chg [a,b,c] G0 G→Tab G a b c (tableN P L es n)→(∀j,j≤9→fr' j=fr j)→Ret E a20 lim K fr' G Z) :
  Ret E a20 lim (.code (.loop l20_4)::.inBlock 0::K) fr G0 Z:=by
 refine Ret_rounds (fun k=>n-k) (fun k fr' G=>k≤n∧Chg [a,b,c] G0 G∧Tab G a b c (tableN P L es k)∧(∀j,j≤9→fr' j=fr j)∧fr' 10=.int .i64 ((n:Int)-1-k)) 0
  ⟨Nat.zero_le _,Chg.refl,hTab,fun _ _=>rfl,by rw [g10];simp⟩ ?_
 intro k fr' G ⟨hk,hC,hTab',hfr,h10⟩ hN
 rw [Ret_code l20_4.eq_1]
 have q1:=(hfr 1 (by decide)).trans g1
 have q2:=(hfr 2 (by decide)).trans g2
 have q5:=(hfr 5 (by decide)).trans g5
 have q6:=(hfr 6 (by decide)).trans g6
 have q7:=(hfr 7 (by decide)).trans g7
 have q8:=(hfr 8 (by decide)).trans g8
 have hlG:lim≤G.length:=Nat.le_trans hlG0 hC.len
 have hfr':∀(f:Nat→Value),(∀j,j≤9→f j=fr' j)→∀j,j≤9→f j=fr j:=fun f h j hj=>(h j hj).trans (hfr j hj)
 refine Ret_pad ?_
 by_cases hlt:k<n
 case neg=>
  obtain rfl:k=n:=by omega
  have h1:=eq_false (show ¬(0:Int)≤(k:Int)-1-k by omega)
  simp only [n20,r20,h10,h1,SB,Nat.reduceLT,callee,aOp,ne_eq,Nat.reduceEqDiff,aBin,aUn,if_true,if_false,reduceCtorEq,frame0,place,notTuple,Nat.reduceAdd,Nat.reduceLeDiff,resVal,dite_true,dite_false,Int.reduceEq,Int.reduceLT,Int.reduceLE]
  exact hR _ _ hC.app (hTab'.app _) fun j hj=>by
   rw [←hfr j hj]
   simp only [upd]
   repeat rw [if_neg (by omega)]
 obtain ⟨i,hi⟩:∃i,i=n-1-k:=⟨_,rfl⟩
 have eii:(n:Int)-1-k=(i:Int):=by omega
 rw [eii] at h10
 have hi0:=eq_true (show (0:Int)≤(i:Int) by omega)
 have hTl:(tableN P L es k).length=n:=by rw [tableN_len,hen]
 have hnext:tableN P L es (k+1)=(tableN P L es k).set i (rowUp P L es (tableN P L es k) i k):=by rw [tableN,hen,←hi]
 have hTb:=tableN_bnd (P:=P) (L:=L) (es:=es) k (by omega)
 rw [hen] at hTb
 obtain ⟨G1,G2,G3,s1,s2,s3,hT3,hC3⟩:=tab_set hTab' hab hbc hac ha hb hc (i:=i) (by omega) (30*((n:Int)-1-i),1,-1)
 have hr0:rowUp P L es (tableN P L es k) i 0=(30*((n:Int)-1-i),1,-1):=by rw [rowUp,hen]
 rw [←hr0] at hT3
 have xA:=fun cc (k:IntKind) (H1:Heap)=>(Tab.get (i:=i) hTab'.a (by omega)).2 n cc k H1 hTl.symm
 have xB:=fun cc (k:IntKind) (H1:Heap)=>(Tab.get (i:=i) hTab'.b (by omega)).2 n cc k H1 hTl.symm
 have xC:=fun cc (k:IntKind) (H1:Heap)=>(Tab.get (i:=i) hTab'.c (by omega)).2 n cc k H1 hTl.symm
 have w1:IntKind.i64.wrap ((n:Int)-1)=(n:Int)-1:=wrap_id (by omega) (by omega)
 have w2:IntKind.i64.wrap ((n:Int)-1-i)=(n:Int)-1-i:=wrap_id (by omega) (by omega)
 have w3:IntKind.i64.wrap (30*((n:Int)-1-i))=30*((n:Int)-1-i):=wrap_id (by omega) (by omega)
 have w4:IntKind.i64.wrap ((i:Int)-1)=(n:Int)-1-((k+1:Nat):Int):=by rw [wrap_id (by omega) (by omega)];omega
 have hC3':=hC.trans hC3
 simp only [n20,r20,hi0,q1,q2,q5,q6,q7,q8,h10,xA,xB,xC,w1,w2,w3,s1,s2,s3,SB,Nat.reduceLT,callee,aOp,ne_eq,Nat.reduceEqDiff,aBin,aUn,if_true,if_false,reduceCtorEq,frame0,place,notTuple,Nat.reduceAdd,Nat.reduceLeDiff,resVal,dite_true,dite_false,Int.reduceEq,Int.reduceLT,Int.reduceLE]
 refine row_loop (A2:=A2) (a:=a) (b:=b) (c:=c) (ca:=ca) (cb:=cb) (cc:=cc) (cp:=cp) (cl:=cl) (ce:=ce) (i:=i) (k:=k) (T:=tableN P L es k) hv hen h40 ht (by omega) hTl hTb (fun G' hG'=>hnet G' (hC3'.app.trans hG')) (by simp;have:=hC3'.len;omega) ((Ext.refl.app).cells (hC3'.cells h2 (by simp [h2n]))) h2n hab hbc hac ha hb hc (hT3.app _) (by simp only [q1,FB,Nat.reduceEqDiff]) (by simp only [q2,FB,Nat.reduceEqDiff]) (by simp only [q6,FB,Nat.reduceEqDiff]) (by simp only [q7,FB,Nat.reduceEqDiff]) (by simp only [q8,FB,Nat.reduceEqDiff]) (by simp only [h10,FB,Nat.reduceEqDiff]) (by simp only [FB,Nat.reduceEqDiff]) fun fr1 G4 hC4 hT4 hfr1=>?_
 rw [←hnext] at hT4
 have f00:∀j,j≤9→fr1 j=fr' j:=fun j hj=>by
  rw [hfr1 j (by omega)]
  simp only [upd]
  repeat rw [if_neg (by omega)]
 have f10:fr1 10=.int .i64 (i:Int):=(hfr1 10 (by omega)).trans (by simp only [h10,FB,Nat.reduceEqDiff])
 refine Ret_pad ?_
 simp only [n20,r20,f10,w4,SB,Nat.reduceLT,callee,aOp,ne_eq,Nat.reduceEqDiff,aBin,aUn,if_true,if_false,reduceCtorEq,frame0,place,notTuple,Nat.reduceAdd,Nat.reduceLeDiff,resVal,dite_true,dite_false,Int.reduceEq,Int.reduceLT,Int.reduceLE]
 exact hN (k+1) _ _ ⟨by omega,(hC3'.app.trans hC4).app,hT4.app _,hfr' _ fun j hj=>by
  rw [←f00 j hj]
  simp only [upd]
  repeat rw [if_neg (by omega)],by rfl⟩ (by omega)
theorem topN_is {n:Nat} {T:List Tri}:∀m,0≤(topN n T m).2.2→topN n T m=topC T (topN n T m).2.2.toNat
 | 0,h=>by rw [topN] at h;simp at h
 | m+1,h=>by
   have e:topN n T (m+1)=topC T (n-1-m)∨topN n T (m+1)=topN n T m:=by
    rw [topN]
    split
    ·exact .inl rfl
    ·unfold pickR
     split
     ·exact .inr rfl
     ·exact .inl rfl
   rcases e with e | e
   ·rw [e];rfl
   ·rw [e];exact topN_is m (by rw [e] at h;exact h)
theorem top_loop [OB] {lim a b ca cb n:Nat} {T:List Tri} {G0:Heap} {c:Nat} {fr:Nat→Value} {K:List AItem} {Z:Value→Heap→Prop} (h40:n≤40) (hT:T.length=n) (hTb:∀j,j<n→Bnd n j (gt T j)) (hTab:Tab G0 a b c T)
  (g6:fr 6=.slice (some ⟨a,0,none⟩) n ca) (g7:fr 7=.slice (some ⟨b,0,none⟩) n cb) (g9:fr 9=.int .i64 (-1)) (g13:fr 13=.int .i64 ((n:Int)-1))
  (hR:∀fr' G,Ext G0 G→fr' 9=.int .i64 (topN n T n).2.2→(∀j,j≤8→fr' j=fr j)→Ret E a20 lim K fr' G Z) :
  Ret E a20 lim (.code (.loop l20_2)::.inBlock 4::K) fr G0 Z:=by
 refine Ret_rounds (fun m=>n-m) (fun m fr' G=>m≤n∧Ext G0 G∧fr' 9=.int .i64 (topN n T m).2.2∧(∀j,j≤8→fr' j=fr j)∧fr' 13=.int .i64 ((n:Int)-1-m)) 0
  ⟨Nat.zero_le _,Ext.refl,by rw [g9];rfl,fun _ _=>rfl,by rw [g13];simp⟩ ?_
 intro m fr' G ⟨hm,hE,h9,hfr,h13⟩ hN
 rw [Ret_code l20_2.eq_1]
 have q6:=(hfr 6 (by decide)).trans g6
 have q7:=(hfr 7 (by decide)).trans g7
 have hfr':∀(f:Nat→Value),(∀j,j≤8→f j=fr' j)→∀j,j≤8→f j=fr j:=fun f h j hj=>(h j hj).trans (hfr j hj)
 refine Ret_pad ?_
 by_cases hlt:m<n
 case neg=>
  obtain rfl:m=n:=by omega
  have h1:=eq_false (show ¬(0:Int)≤(m:Int)-1-m by omega)
  simp only [n20,r20,h13,h1,SB,Nat.reduceLT,callee,aOp,ne_eq,Nat.reduceEqDiff,aBin,aUn,if_true,if_false,reduceCtorEq,frame0,place,notTuple,Nat.reduceAdd,Nat.reduceLeDiff,resVal,dite_true,dite_false,Int.reduceEq,Int.reduceLT,Int.reduceLE]
  exact hR _ _ hE.app (by simp only [h9,FB,Nat.reduceEqDiff]) fun j hj=>by
   rw [←hfr j hj]
   simp only [upd]
   repeat rw [if_neg (by omega)]
 obtain ⟨i,hi⟩:∃i,i=n-1-m:=⟨_,rfl⟩
 have eii:(n:Int)-1-m=(i:Int):=by omega
 rw [eii] at h13
 have hi0:=eq_true (show (0:Int)≤(i:Int) by omega)
 have hnx:topN n T (m+1)=if (topN n T m).2.2<0 then topC T i else pickR (topN n T m) (topC T i):=by rw [topN,←hi]
 have hlt2:=(topN_next (n:=n) (T:=T) m (by omega))
 have his:=topN_is (n:=n) (T:=T) m
 have hTab':Tab G a b c T:=⟨hE.cells hTab.a,hE.cells hTab.b,hE.cells hTab.c⟩
 have w7:IntKind.i64.wrap ((i:Int)-1)=(n:Int)-1-((m+1:Nat):Int):=by rw [wrap_id (by omega) (by omega)];omega
 generalize hnn:topN n T (m+1)=nx at hnx
 generalize topN n T m=old at *
 by_cases h0:old.2.2<0
 ·rw [if_pos h0] at hnx
  simp only [n20,r20,hi0,h9,h13,w7,eq_true h0,SB,Nat.reduceLT,callee,aOp,ne_eq,Nat.reduceEqDiff,aBin,aUn,if_true,if_false,reduceCtorEq,frame0,place,notTuple,Nat.reduceAdd,Nat.reduceLeDiff,resVal,dite_true,dite_false,Int.reduceEq,Int.reduceLT,Int.reduceLE]
  exact hN (m+1) _ _ ⟨by omega,hE.app,by rw [hnn,hnx,show (topC T i).2.2=(i:Int) from rfl];exact (by simp only [FB,Nat.reduceEqDiff]),hfr' _ fun j hj=>by
   simp only [upd]
   repeat rw [if_neg (by omega)],by rfl⟩ (by omega)
 rw [if_neg h0,pick_ref] at hnx
 have hold:=his (by omega)
 obtain ⟨f,hf⟩:=Int.eq_ofNat_of_zero_le (show 0≤old.2.2 by omega)
 rw [hf,Int.toNat_natCast] at hold
 have hfn:f<n:=by omega
 have A_i:=Tab.get (i:=i) hTab'.a (by omega)
 have B_i:=Tab.get (i:=i) hTab'.b (by omega)
 have A_f:=Tab.get (i:=f) hTab'.a (by omega)
 have B_f:=Tab.get (i:=f) hTab'.b (by omega)
 have lAi:=A_i.1
 have lBi:=B_i.1
 have lAf:=A_f.1
 have lBf:=B_f.1
 have xAi:=fun cc (k:IntKind) (H1:Heap)=>A_i.2 n cc k H1 hT.symm
 have xBi:=fun cc (k:IntKind) (H1:Heap)=>B_i.2 n cc k H1 hT.symm
 have xAf:=fun cc (k:IntKind) (H1:Heap)=>A_f.2 n cc k H1 hT.symm
 have xBf:=fun cc (k:IntKind) (H1:Heap)=>B_f.2 n cc k H1 hT.symm
 simp only [f1,f2] at lAi lBi lAf lBf
 have bi:=hTb i (by omega)
 have bf:=hTb f hfn
 unfold Bnd at bi bf
 rw [hold] at hnx
 unfold topC at hnx
 simp only at hnx
 rw [hf] at h9
 have nf:=eq_false (show ¬(f:Int)<0 by omega)
 generalize gt T i=ti at *
 generalize gt T f=tf at *
 have w1:IntKind.i64.wrap (30*(i:Int))=30*(i:Int):=wrap_id (by omega) (by omega)
 have w2:IntKind.i64.wrap (30*(f:Int))=30*(f:Int):=wrap_id (by omega) (by omega)
 have w3:IntKind.i64.wrap (30*(i:Int)+ti.1)=30*(i:Int)+ti.1:=wrap_id (by omega) (by omega)
 have w4:IntKind.i64.wrap (30*(f:Int)+tf.1)=30*(f:Int)+tf.1:=wrap_id (by omega) (by omega)
 by_cases hb1:30*(i:Int)+ti.1<30*(f:Int)+tf.1∨(30*(i:Int)+ti.1=30*(f:Int)+tf.1∧tf.2.1≤ti.2.1)
 case neg=>
  rw [if_neg hb1] at hnx
  have n1:=eq_false (show ¬30*(i:Int)+ti.1<30*(f:Int)+tf.1 by omega)
  by_cases e1:30*(i:Int)+ti.1=30*(f:Int)+tf.1
  ·have n2:=eq_false (show ¬tf.2.1≤ti.2.1 by omega)
   simp only [n20,r20,hi0,q6,q7,h9,h13,nf,lAi,lBi,lAf,lBf,xAi,xBi,xAf,xBf,w1,w2,w3,w4,w7,n1,eq_true e1,n2,SB,Nat.reduceLT,callee,aOp,ne_eq,Nat.reduceEqDiff,aBin,aUn,if_true,if_false,reduceCtorEq,frame0,place,notTuple,Nat.reduceAdd,Nat.reduceLeDiff,resVal,dite_true,dite_false,Int.reduceEq,Int.reduceLT,Int.reduceLE]
   exact hN (m+1) _ _ ⟨by omega,hE.app,by rw [hnn,hnx];exact (by simp only [h9,FB,Nat.reduceEqDiff]),hfr' _ fun j hj=>by
    simp only [upd]
    repeat rw [if_neg (by omega)],by rfl⟩ (by omega)
  ·simp only [n20,r20,hi0,q6,q7,h9,h13,nf,lAi,lBi,lAf,lBf,xAi,xBi,xAf,xBf,w1,w2,w3,w4,w7,n1,eq_false e1,SB,Nat.reduceLT,callee,aOp,ne_eq,Nat.reduceEqDiff,aBin,aUn,if_true,if_false,reduceCtorEq,frame0,place,notTuple,Nat.reduceAdd,Nat.reduceLeDiff,resVal,dite_true,dite_false,Int.reduceEq,Int.reduceLT,Int.reduceLE]
   exact hN (m+1) _ _ ⟨by omega,hE.app,by rw [hnn,hnx];exact (by simp only [h9,FB,Nat.reduceEqDiff]),hfr' _ fun j hj=>by
    simp only [upd]
    repeat rw [if_neg (by omega)],by rfl⟩ (by omega)
 rw [if_pos hb1] at hnx
 by_cases e0:30*(i:Int)+ti.1<30*(f:Int)+tf.1
 ·simp only [n20,r20,hi0,q6,q7,h9,h13,nf,lAi,lBi,lAf,lBf,xAi,xBi,xAf,xBf,w1,w2,w3,w4,w7,eq_true e0,SB,Nat.reduceLT,callee,aOp,ne_eq,Nat.reduceEqDiff,aBin,aUn,if_true,if_false,reduceCtorEq,frame0,place,notTuple,Nat.reduceAdd,Nat.reduceLeDiff,resVal,dite_true,dite_false,Int.reduceEq,Int.reduceLT,Int.reduceLE]
  exact hN (m+1) _ _ ⟨by omega,hE.app,by rw [hnn,hnx];exact (by simp only [FB,Nat.reduceEqDiff]),hfr' _ fun j hj=>by
   simp only [upd]
   repeat rw [if_neg (by omega)],by rfl⟩ (by omega)
 ·have n2:=eq_true (show tf.2.1≤ti.2.1 by omega)
  simp only [n20,r20,hi0,q6,q7,h9,h13,nf,lAi,lBi,lAf,lBf,xAi,xBi,xAf,xBf,w1,w2,w3,w4,w7,eq_false e0,eq_true (show 30*(i:Int)+ti.1=30*(f:Int)+tf.1 by omega),n2,SB,Nat.reduceLT,callee,aOp,ne_eq,Nat.reduceEqDiff,aBin,aUn,if_true,if_false,reduceCtorEq,frame0,place,notTuple,Nat.reduceAdd,Nat.reduceLeDiff,resVal,dite_true,dite_false,Int.reduceEq,Int.reduceLT,Int.reduceLE]
  exact hN (m+1) _ _ ⟨by omega,hE.app,by rw [hnn,hnx];exact (by simp only [FB,Nat.reduceEqDiff]),hfr' _ fun j hj=>by
   simp only [upd]
   repeat rw [if_neg (by omega)],by rfl⟩ (by omega)
end Go.Proofs.Ytjmmhkodgileiab.Fn

