/-
  Joined texts, 9 of 10. A part of the claim that the last text states.
-/
import Derived.Test.YtkppjkkkdpcgiaaGreatPB8
set_option linter.unusedVariables false
set_option linter.unusedSimpArgs false
set_option linter.defProp false
set_option linter.unusedSectionVars false
set_option maxRecDepth 100000
set_option maxHeartbeats 4000000
namespace Go.Proofs.YtkppjkkkdpcgiaaGreat.Fn
open Go.AM Go.AM.Sym Go.Net Go.Scan
def T5a:ACode:=RP (RP (RP (RP (RP (RP c5)))))
def T5b:ACode:=RP T5a
theorem N5x:T5a=.seq (TH T5a) T5b:=rfl
def T5c:ACode:=RP T5b
theorem N5w:T5b=.seq (TH T5b) T5c:=rfl
theorem N82:c5=.seq (TH c5) (.seq (TH (RP c5)) (.seq (TH (RP (RP c5))) (.seq (TH (RP (RP (RP c5)))) (.seq (TH (RP (RP (RP (RP c5))))) (.seq (TH (RP (RP (RP (RP (RP c5)))))) T5a))))):=rfl
section
variable {lim B n ce cq cr cl:Nat} {pe q r pl:Option Addr} {ks:List Int} {ss:List Stp} {es:List Ev} {c:Int} {A:List An} {P:List Int} {L:List Leg} {now:Int} {H0:NE} {Q:Value->NE->Prop}
structure R5 (B ce cq cr cl:Nat) (pe q r pl:Option Addr) (P:List Int) (L:List Leg) (es:List Ev) (ks:List Int) (ss:List Stp) (now:Int) (A:List An) (H0:NE):Prop where
 k:NH H0 B=Vc (TG pe es.length ce q ks.length cq r ss.length cr (Sy P L es ks) pl A.length cl)
 sE:Sl H0 encE 7 pe es
 sK:Sl H0 encI 1 q ks
 sS:Sl H0 enc3 3 r ss
 sA:Sl H0 Ti 5 pl A
 hK:Yu es.length ks
 hS:ss=QL P L es ks
 hA:ListOk P L es ks ss now A
 h0:es≠[]
 hn:es.length<=40
 hl:A.length<=4000
theorem Nnt (b:Bool):aEq .bool (.bool b) (.bool b)=some true:=by cases b<;>rfl
def Zi:ACode:=ZC (TH (RP (RP YK)))
def N26:ACode:=RP (RP (RP YK))
def R5a:ACode:=RP (RP Zi)
theorem N8c:YK=.seq (TH YK) (.seq (TH (RP YK)) (.seq (.block 1 (.seq (TH Zi) (.seq (TH (RP Zi)) R5a))) N26)):=rfl
theorem R5.body [OB] (R:R5 B ce cq cr cl pe q r pl P L es ks ss now A H0) {j X:Nat} (e:j<A.length) {fr:Nat->Value} {G:NE} {K:List AItem} (Z:Chg [] H0 G) (u:fr 11=Vp B) (f:fr 15=Vi (Uf (A.take j))) (v:fr 16=.slice (Sa H0.length) es.length es.length) (w:fr 17=.slice (Sa (H0.length+1)) es.length es.length)
  (y:fr 19=Vp X) (kX:NH G X=Vc (Ti (gt A j))) (hX:H0.length+2<=X)
  (T:NH G H0.length=Vc ((Tp es.length A j).flatMap Ul)) (J:NH G (H0.length+1)=Vc ((Tk es.length A j).flatMap encI)) (hl:lim<=H0.length)
  (hR:∀fr' G',Chg [] H0 G'->(∀t,(t<15\/15<t/\t<92)->fr' t=fr t)->fr' 15=Vi (Uf (A.take (j+1)))->NH G' H0.length=Vc ((Tp es.length A (j+1)).flatMap Ul)->NH G' (H0.length+1)=Vc ((Tk es.length A (j+1)).flatMap encI)->PU E a5 lim K fr' G' Q):PU E a5 lim (.code R5a::K) fr G Q:=by
 refine NL ?_
 have aq:=Z.len
 have al:=R.hK
 have au:=R.hl
 have ak:=Njl R.hA al.mem R.h0 _ (PZ e)
 have D:=R.hA.all _ (PZ e)
 obtain ⟨m,hm⟩:∃m:Nat,(gt A j).ev=m:=⟨(gt A j).ev.toNat,by omega⟩
 obtain ⟨o,ho⟩:∃o:Nat,(gt A j).other=o:=⟨(gt A j).other.toNat,by omega⟩
 have b:m<es.length:=by omega
 have ab:o<es.length:=by omega
 have sE:=Z.sl R.sE (fun a _ _ h=>(by cases h))
 have H:=fun X=>(OH.refl.app (X:=X)).cells (Z.cells R.k (by simp))
 have yX:=fun X=>(OH.refl.app (X:=X)).cells kX
 have ar:=Nry (l:=A.take j) fun a ha=>R.hA.cA a (Qn ha)
 have av:(A.take j).length=j:=by rw [Ol];omega
 have g:=R.hA.cA _ (PZ e)
 have d:=Ntf e
 have ad:=Nko (n:=es.length) e
 have I:=Nof (n:=es.length) e
 have ac:=Nn9 (n:=es.length) (m:=m) e
 have O:=Ntj (n:=es.length) (m:=m) e
 have C:=fun h=>No8 e R.hA.ord h hm
 generalize hx:gt A j=x at *
 obtain ⟨s,xe,xo,xp,N⟩:=x
 simp only at hm ho ak D
 subst hm ho
 have ag:Sl G Ul 1 (Sa H0.length) (Tp es.length A j):=Sl.row TV T
 have ah:Sl G encI 1 (Sa (H0.length+1)) (Tk es.length A j):=Sl.row RI J
 have eX:Ti ⟨s,m,o,xp,N⟩=[.int .u8 s,Vi m,Vi o,Vi xp,Vi N]:=rfl
 rw [eX] at yX
 unfold Fn.cA at g d
 unfold VW at I O
 simp only at g d ad I ac O C
 have ai:=fun c (kk:IntKind) (H1:NE)=>ag.idx (c:=c) (k:=kk) (H1:=H1) (i:=m) (by rw [Sq];exact b)
 have M:=fun c (kk:IntKind) (H1:NE)=>ah.idx (c:=c) (k:=kk) (H1:=H1) (i:=m) (by rw [SX];exact b)
 rw [Sq] at ai
 rw [SX] at M
 have ap:=fun c (kk:IntKind) (H1:NE)=>sE.idx (c:=c) (k:=kk) (H1:=H1) (i:=m) b
 have aj:=fun c (kk:IntKind) (H1:NE)=>sE.idx (c:=c) (k:=kk) (H1:=H1) (i:=o) ab
 by_cases c1:s=1
 ·subst c1
  have an:∀X,AM.loadCell (G++X) (Xy (Sa H0.length) 1 m)=some (.bool false):=fun X=>by
   have:=(ag.app X).loadCell0 (i:=m) TV (by rw [Sq];exact b) (by omega)
   rw [Zk b,C rfl] at this
   exact this
  have am:xp=(gt es m).place:=by
   rcases D with ⟨i,hi,h1⟩ | ⟨h1,_⟩
   ·have h2:=h1.ev
    have h3:=h1.place rfl
    simp only at h2 h3
    rw [h3];congr 2;omega
   ·exact absurd h1 (show ¬(1:Int)=7 by decide)
  have lE:∀X,AM.loadCell (G++X) (((Xy pe 7 m).add 0).add 1)=some (Vi xp):=fun X=>by
   rw [am]
   exact (sE.app X).loadCell (i:=m) (j:=1) NZ b (by decide)
  obtain ⟨G2,e2,h2,m2⟩:=Xj (lim:=lim) (p:=Sa H0.length) TV rfl T hl (i:=m) (by rw [Sq];exact b) true
  simp only [Ul] at e2
  rw [<-ac rfl trivial b] at h2
  rw [Ni rfl] at d g
  have hw:IntKind.i64.wrap (Uf (A.take j)+30)=Uf (A.take (j+1)):=by rw [d,NU (by omega) (by omega)]
  simp only [R5a,Zi,ZC,TH,RP,YK,n5,r5,u,f,v,w,y,H,yX,OP,R6,RD,RB,RA,QT,NI,ai,an,ap,lE,e2,hw,SB,seval,NC,NJ,NG,NQ,reduceCtorEq,NB,place,NA,ND]
  exact hR _ _ (Z.mut m2 (.inr (Nd _))).app (fun t ht=>by simp only [upd];repeat rw [Ng (by omega)]) rfl (OH.refl.app.cells h2) (OH.refl.app.cells (by rw [I (by omega)];exact m2.cells J (by omega)))
 have c16:NH G H0.length=Vc ((Tp es.length A (j+1)).flatMap Ul):=by rw [ad c1];exact T
 rw [Ng c1] at d g
 by_cases c7:s≠2/\s≠3/\s≠4
 ·have c17:NH G (H0.length+1)=Vc ((Tk es.length A (j+1)).flatMap encI):=by rw [I (by omega)];exact J
  rw [Ng (by omega),Ng (by omega),Ra] at d
  simp only [R5a,Zi,ZC,TH,RP,YK,n5,r5,u,f,v,w,y,H,yX,OP,R6,RD,RB,RA,QT,NI,Nm c1,Nm c7.1,Nm c7.2.1,Nm c7.2.2,SB,seval,NC,NJ,NG,NQ,reduceCtorEq,NB,place,NA,ND]
  exact hR _ _ Z.app (fun t ht=>by simp only [upd];repeat rw [Ng (by omega)]) (by rw [d];exact f) (OH.refl.app.cells c16) (OH.refl.app.cells c17)
 have F:AtOk es m ⟨s,m,o,xp,N⟩:=by
  rcases D with ⟨i,hi,h1⟩ | ⟨h1,_⟩
  ·have h2:(m:Int)=i:=h1.ev
   obtain rfl:m=i:=by omega
   exact h1
  ·omega
 have U:∀X,AM.loadCell (G++X) (Xy (Sa (H0.length+1)) 1 m)=some (Vi (gt (Tk es.length A j) m)):=fun X=>(ah.app X).loadCell0 (i:=m) RI (by rw [SX];exact b) (by omega)
 have ax:0<=gt (Tk es.length A j) m/\gt (Tk es.length A j) m<=4000:=by
  rw [Y3 b]
  have:nS (A.take j) m<=(A.take j).length:=List.countP_le_length
  omega
 have S:IntKind.i64.wrap (gt (Tk es.length A j) m+1)=gt (Tk es.length A j) m+1:=NU (by omega) (by omega)
 obtain ⟨G2,e2,h2,m2⟩:=Xj (lim:=lim) (p:=Sa (H0.length+1)) RI rfl J (by omega) (i:=m) (by rw [SX];exact b) (gt (Tk es.length A j) m+1)
 rw [<-O (by omega) trivial b] at h2
 simp only [encI] at e2
 have z:Chg [] H0 G2:=Z.mut m2 (.inr (by omega))
 have V:=fun Y=>(OH.refl.app (X:=Y)).cells (z.cells R.k (by simp))
 have zX:=fun Y=>(OH.refl.app (X:=Y)).cells (m2.cells kX (by omega))
 rw [eX] at zX
 have W:=m2.cells c16 (by omega)
 have ao:=z.sl R.sE (fun a _ _ h=>(by cases h))
 have ae:∀X,AM.loadCell (G2++X) (((Xy pe 7 o).add 0).add 3)=some (.int .u8 (gt es o).kind):=fun X=>(ao.app X).loadCell (i:=o) (j:=3) NZ ab (by decide)
 by_cases c4:s=4
 ·subst c4
  have aw:1<=N/\N<=60:=F.mins rfl
  rw [Ng (by omega),Ni rfl] at d g
  have hw:IntKind.i64.wrap (Uf (A.take j)+N)=Uf (A.take (j+1)):=by rw [d,NU (by omega) (by omega)]
  simp only [R5a,Zi,ZC,TH,RP,YK,n5,r5,u,f,v,w,y,H,yX,V,zX,OP,R6,RD,RB,RA,QT,NI,M,U,S,e2,Nnt,hw,gt_iff_lt,Nm (show ¬N<1 by omega),Nm (show ¬60<N by omega),SB,seval,NC,NJ,NG,NQ,reduceCtorEq,NB,place,NA,ND]
  exact hR _ _ z.app (fun t ht=>by simp only [upd];repeat rw [Ng (by omega)]) rfl (OH.refl.app.cells W) (OH.refl.app.cells h2)
 rw [Ni (by omega)] at d g
 have hw:IntKind.i64.wrap (Uf (A.take j)+80)=Uf (A.take (j+1)):=by rw [d,NU (by omega) (by omega)]
 have aa:(gt es o).kind=4↔s=2:=F.del (show s=2\/s=3 by omega)
 by_cases c2:s=2
 ·subst c2
  simp only [R5a,Zi,ZC,TH,RP,YK,n5,r5,u,f,v,w,y,H,yX,V,zX,OP,R6,RD,RB,RA,QT,NI,M,U,S,e2,Nnt,hw,aj,ae,N6 (aa.2 rfl),SB,seval,NC,NJ,NG,NQ,reduceCtorEq,NB,place,NA,ND]
  exact hR _ _ z.app (fun t ht=>by simp only [upd];repeat rw [Ng (by omega)]) rfl (OH.refl.app.cells W) (OH.refl.app.cells h2)
 ·obtain rfl:s=3:=by omega
  simp only [R5a,Zi,ZC,TH,RP,YK,n5,r5,u,f,v,w,y,H,yX,V,zX,OP,R6,RD,RB,RA,QT,NI,M,U,S,e2,Nnt,hw,aj,ae,Nm (fun h=>c2 (aa.1 h)),SB,seval,NC,NJ,NG,NQ,reduceCtorEq,NB,place,NA,ND]
  exact hR _ _ z.app (fun t ht=>by simp only [upd];repeat rw [Ng (by omega)]) rfl (OH.refl.app.cells W) (OH.refl.app.cells h2)
theorem Noy [OB] (R:R5 B ce cq cr cl pe q r pl P L es ks ss now A H0) {fr:Nat->Value} {G:NE} (x:Chg [] H0 G) (f11:fr 11=Vp B) (K:fr 15=Vi 0) (u:fr 16=.slice (Sa H0.length) es.length es.length) (v:fr 17=.slice (Sa (H0.length+1)) es.length es.length)
  (n:NH G H0.length=Vc ((Tp es.length A 0).flatMap Ul)) (e:NH G (H0.length+1)=Vc ((Tk es.length A 0).flatMap encI)) (hl:lim<=H0.length)
  (hR:∀fr' G',Chg [] H0 G'->fr' 11=fr 11->fr' 15=Vi (Sy P L es ks)->fr' 16=fr 16->fr' 17=fr 17->NH G' H0.length=Vc ((Tp es.length A A.length).flatMap Ul)->NH G' (H0.length+1)=Vc ((Tk es.length A A.length).flatMap encI)->PU E a5 lim [.code T5b] fr' G' Q):PU E a5 lim [.code T5a] fr G Q:=by
 rw [N5x]
 refine NL ?_
 have f:=fun X=>(OH.refl.app (X:=X)).cells (x.cells R.k (by simp))
 simp only [TH,RP,T5a,c5,n5,r5,f11,f,OP,R6,RD,RB,RA,QT,NI,SB,seval,NC,NJ,NG,NQ,reduceCtorEq,NB,place,NA,ND]
 refine NP (fun j:Nat=>A.length-j) (fun j fr' G=>j<=A.length/\fr' 11=fr 11/\fr' 15=Vi (Uf (A.take j))/\fr' 16=fr 16/\fr' 17=fr 17/\fr' 54=.slice pl A.length cl/\fr' 55=Vi A.length/\fr' 56=Vi j/\Chg [] H0 G/\NH G H0.length=Vc ((Tp es.length A j).flatMap Ul)/\NH G (H0.length+1)=Vc ((Tk es.length A j).flatMap encI)) 0
  ⟨Nv _,rfl,K,rfl,rfl,rfl,rfl,by rfl,x.app,OH.refl.app.cells n,OH.refl.app.cells e⟩ ?_
 clear f x n e
 clear G
 intro j fr' G ⟨hj,d,w,p,s,g,l,m,F,n,e⟩ hN
 rw [f11] at d
 rw [u] at p
 rw [v] at s
 rw [NT N8c]
 refine NL ?_
 have Z:=F.len
 by_cases b:j<A.length
 case neg=>
  obtain rfl:j=A.length:=by omega
  rw [Og,R.hA.sum] at w
  simp only [TH,RP,YK,n5,r5,g,l,m,NN,b,SB,seval,NC,NJ,NG,NQ,reduceCtorEq,NB,place,NA,ND]
  exact hR _ _ F.app (d.trans f11.symm) w (p.trans u.symm) (s.trans v.symm) (OH.refl.app.cells n) (OH.refl.app.cells e)
 have T:=R.hK
 have aa:=R.hl
 have ac:=Njl R.hA T.mem R.h0 _ (PZ b)
 have sA:=F.sl R.sA (fun a _ _ h=>(by cases h))
 have W:=fun X=>(sA.app X).loadCells QV b
 have Y:=fun c (kk:IntKind) (H1:NE)=>sA.idx (c:=c) (k:=kk) (H1:=H1) b
 have f:=fun X=>(OH.refl.app (X:=X)).cells (F.cells R.k (by simp))
 have U:IntKind.i64.wrap ((j:Int)+1)=((j+1:Nat):Int):=OA (by omega)
 have z:=N3z b R.hA.ord
 have ab:=NM e
 have y:lim<=G.length:=by omega
 have rest:∀o:Nat->Value,(∀t,t<57->t≠18->t≠19->o t=fr' t)->o 19=Vp G.length->PU E a5 lim [.code R5a,.inBlock 1,.code N26,.inLoop YK,.inBlock 0,.code T5b] o (G++[Vc (Ti (gt A j))]) Q:=by
  intro o keep N
  refine R.body b F.app ((keep 11 (by decide) (by decide) (by decide)).trans d) ((keep 15 (by decide) (by decide) (by decide)).trans w) ((keep 16 (by decide) (by decide) (by decide)).trans p) ((keep 17 (by decide) (by decide) (by decide)).trans s) N (by rw [NV];rfl) (by omega) (OH.refl.app.cells n) (OH.refl.app.cells e) hl fun M G3 S C D H I=>?_
  have kk:∀t,t<57->t≠18->t≠19->t≠15->M t=fr' t:=fun t h1 h2 J h4=>(C t (by omega)).trans (keep t h1 h2 J)
  have e56:=(kk 56 (by decide) (by decide) (by decide) (by decide)).trans m
  refine NL ?_
  simp only [N26,RP,YK,n5,r5,e56,U,SB,seval,NC,NJ,NG,NQ,reduceCtorEq,NB,place,NA,ND]
  exact hN (j+1) _ _ ⟨by omega,(by simp only [(kk 11 (by decide) (by decide) (by decide) (by decide)).trans (d.trans f11.symm),FB,Nat.reduceEqDiff]),D,(by simp only [(kk 16 (by decide) (by decide) (by decide) (by decide)).trans (p.trans u.symm),FB,Nat.reduceEqDiff]),(by simp only [(kk 17 (by decide) (by decide) (by decide) (by decide)).trans (s.trans v.symm),FB,Nat.reduceEqDiff]),(by simp only [(kk 54 (by decide) (by decide) (by decide) (by decide)).trans g,FB,Nat.reduceEqDiff]),(by simp only [(kk 55 (by decide) (by decide) (by decide) (by decide)).trans l,FB,Nat.reduceEqDiff]),rfl,S.app,OH.refl.app.cells H,OH.refl.app.cells I⟩ (by omega)
 have e1:(Ti (gt A j))[1]? = some (Vi (gt A j).ev):=rfl
 by_cases ad:j=0
 ·have h0:¬(0:Int)<(j:Int):=by omega
  simp only [TH,RP,ZC,Zi,YK,n5,r5,d,g,l,m,NN,b,W,Y,f,y,QV,Nqs,Njw,OP,R6,RD,RB,RA,QT,NI,NF,Nm (show ¬(gt A j).ev<0 by omega),ge_iff_le,Nm (show ¬(es.length:Int)<=(gt A j).ev by omega),gt_iff_lt,Nm h0,SB,seval,NC,NJ,NG,NQ,reduceCtorEq,NB,place,NA,ND]
  exact rest _ (fun t h1 h2 J=>by simp only [upd];repeat rw [Ng (by omega)]) rfl
 have h0:(0:Int)<(j:Int):=by omega
 by_cases O:(gt A j).kind=7
 ·simp only [TH,RP,ZC,Zi,YK,n5,r5,d,g,l,m,NN,b,W,Y,f,y,QV,Nqs,Njw,OP,R6,RD,RB,RA,QT,NI,NF,Nm (show ¬(gt A j).ev<0 by omega),ge_iff_le,Nm (show ¬(es.length:Int)<=(gt A j).ev by omega),gt_iff_lt,N6 h0,N6 O,SB,seval,NC,NJ,NG,NQ,reduceCtorEq,NB,place,NA,ND]
  exact rest _ (fun t h1 h2 J=>by simp only [upd];repeat rw [Ng (by omega)]) rfl
 have V:IntKind.i64.wrap ((j:Int)-1)=((j-1:Nat):Int):=by rw [NU (by omega) (by omega)];omega
 have x2:=fun c (kk:IntKind) (H1:NE)=>sA.idx (c:=c) (k:=kk) (H1:=H1) (i:=j-1) (by omega)
 have l2:∀X,AM.loadCell (G++X) ((Xy pl 5 (j-1)).add 1)=some (Vi (gt A (j-1)).ev):=fun X=>(sA.app X).loadCell (i:=j-1) (j:=1) QV (by omega) (by decide)
 have ae:=z (by omega) O
 simp only [TH,RP,ZC,Zi,YK,n5,r5,d,g,l,m,NN,b,W,Y,f,y,QV,Nqs,Njw,OP,R6,RD,RB,RA,QT,NI,NF,Nm (show ¬(gt A j).ev<0 by omega),ge_iff_le,Nm (show ¬(es.length:Int)<=(gt A j).ev by omega),gt_iff_lt,N6 h0,Nm O,V,x2,l2,Nm (show ¬(gt A j).ev<(gt A (j-1)).ev by omega),SB,seval,NC,NJ,NG,NQ,reduceCtorEq,NB,place,NA,ND]
 exact rest _ (fun t h1 h2 J=>by simp only [upd];repeat rw [Ng (by omega)]) rfl
theorem Nkq [OB] (R:R5 B ce cq cr cl pe q r pl P L es ks ss now A H0) {fr:Nat->Value} {G:NE} (o:Chg [] H0 G) (f11:fr 11=Vp B) (K:fr 17=.slice (Sa (H0.length+1)) es.length es.length)
  (N:NH G (H0.length+1)=Vc ((Tk es.length A A.length).flatMap encI)) (hl:lim<=H0.length)
  (Z:∀fr' G',OH G G'->(∀t,t<20->fr' t=fr t)->PU E a5 lim [.code T5c] fr' G' Q):PU E a5 lim [.code T5b] fr G Q:=by
 rw [N5w]
 refine NL ?_
 have S:=fun X=>(OH.refl.app (X:=X)).cells (o.cells R.k (by simp))
 simp only [TH,RP,T5b,T5a,c5,n5,r5,f11,S,OP,R6,RD,RB,RA,QT,NI,SB,seval,NC,NJ,NG,NQ,reduceCtorEq,NB,place,NA,ND]
 have ab:ss.length<=40:=by
  have h1:=Z5 R.hK.2
  have h2:=R.hn
  rw [R.hS]
  unfold QL
  rw [Ns,O1]
  omega
 have U:=o.len
 refine NP (fun j:Nat=>ss.length-j) (fun j fr' G'=>j<=ss.length/\(∀t,t<20->fr' t=fr t)/\fr' 170=.slice r ss.length cr/\fr' 171=Vi ss.length/\fr' 172=Vi j/\OH G G') 0
  ⟨Nv _,(fun t y=>by simp only [upd];repeat rw [Ng (by omega)]),rfl,rfl,by rfl,OH.refl.app⟩ ?_
 intro j fr' G' ⟨hj,keep,b,d,f,w⟩ T
 rw [NT Oa8.eq_1]
 refine NL ?_
 by_cases e:j<ss.length
 case neg=>
  simp only [n5,r5,b,d,f,NN,e,SB,seval,NC,NJ,NG,NQ,reduceCtorEq,NB,place,NA,ND]
  exact Z _ _ (w.trans OH.refl.app) (fun t y=>by simp only [upd];repeat (first | rw [Ng (by omega)] | exact keep t y))
 have z:=(keep 17 (by decide)).trans K
 have sS:=w.sl (o.sl R.sS (fun a _ _ h=>(by cases h)))
 have O:=fun X=>(sS.app X).loadCells OT e
 have Y:=fun c (kk:IntKind) (H1:NE)=>sS.idx (c:=c) (k:=kk) (H1:=H1) e
 have F:IntKind.i64.wrap ((j:Int)+1)=((j+1:Nat):Int):=OA (by omega)
 have l:=PZ e
 have M:=(Y1 (P:=P) (L:=L) R.hK).1
 have n:∀x,x∈ss->x∈QL P L es ks:=fun x hx=>by rw [<-R.hS];exact hx
 have C:=R.hA
 rw [R.hS] at C
 have u:=Nyk (tw:=es) R.hK C (n _ l)
 have D:=M _ (n _ l)
 unfold SK at D
 generalize gt ss j=s at *
 obtain ⟨V,W,I⟩:=s
 simp only at u D
 obtain ⟨m,rfl⟩:∃m:Nat,W=m:=⟨W.toNat,by omega⟩
 rw [Ob] at u
 have p:m<es.length:=by omega
 have H:Sl G' encI 1 (Sa (H0.length+1)) (Tk es.length A A.length):=w.sl (Sl.row RI N)
 have v:=fun c (kk:IntKind) (H1:NE)=>H.idx (c:=c) (k:=kk) (H1:=H1) (i:=m) (by rw [SX];exact p)
 rw [SX] at v
 have g:∀X,AM.loadCell (G'++X) (Xy (Sa (H0.length+1)) 1 m)=some (Vi (if 0<I then 1 else 0)):=fun X=>by
  have:=(H.app X).loadCell0 (i:=m) RI (by rw [SX];exact p) (by omega)
  rw [Y3 p,Og,u] at this
  rw [this]
  by_cases h:0<I
  ·rw [Ni h,Ni h];rfl
  ·rw [Ng h,Ng h];rfl
 have e3:enc3 (V,(m:Int),I)=[Vi V,Vi m,Vi I]:=rfl
 rw [e3] at O
 have aa:=w.len
 by_cases J:0<I
 ·rw [Ni J] at g
  simp only [n5,r5,z,b,d,f,NN,e,O,Y,v,g,show lim<=G'.length by omega,NF,F,gt_iff_lt,N6 J,Nnt,SB,seval,NC,NJ,NG,NQ,reduceCtorEq,NB,place,NA,ND]
  exact T (j+1) _ _ ⟨by omega,(fun t y=>by simp only [upd];repeat (first | rw [Ng (by omega)] | exact keep t y)),b,d,rfl,w.trans OH.refl.app⟩ (by omega)
 ·rw [Ng J] at g
  simp only [n5,r5,z,b,d,f,NN,e,O,Y,v,g,show lim<=G'.length by omega,NF,F,gt_iff_lt,Nm J,Nnt,SB,seval,NC,NJ,NG,NQ,reduceCtorEq,NB,place,NA,ND]
  exact T (j+1) _ _ ⟨by omega,(fun t y=>by simp only [upd];repeat (first | rw [Ng (by omega)] | exact keep t y)),b,d,rfl,w.trans OH.refl.app⟩ (by omega)
theorem Np8 [OB] (R:R5 B ce cq cr cl pe q r pl P L es ks ss now A H0) (D:OB.on 18=true) {fr:Nat->Value} {G:NE} (t:Chg [] H0 G) (f11:fr 11=Vp B) (z:fr 15=Vi (Sy P L es ks)) (s:fr 16=.slice (Sa H0.length) es.length es.length)
  (H:NH G H0.length=Vc ((Tp es.length A A.length).flatMap Ul)):PU E a5 lim [.code T5c] fr G fun v _=>v=.bool true:=by
 refine NL ?_
 simp only [TH,RP,T5c,T5b,T5a,c5,n5,r5,s,SB,seval,NC,NJ,NG,NQ,reduceCtorEq,NB,place,NA,ND]
 have N:=Z5 R.hK.2
 have M:=R.hn
 refine NP (fun j:Nat×Nat=>es.length-j.1) (fun j fr' G'=>j.1<=es.length/\Cnt ks j.1 j.2/\fr' 11=Vp B/\fr' 15=Vi (Sy P L es ks)/\fr' 16=.slice (Sa H0.length) es.length es.length/\fr' 22=Vi j.2/\fr' 188=Vi es.length/\fr' 189=Vi j.1/\OH G G') (0,0)
  ⟨Nv _,Cnt.zero R.hK,f11,z,s,by rfl,rfl,by rfl,OH.refl.app⟩ ?_
 rintro ⟨j,m⟩ fr' G' ⟨hj,C,e,f,l,n,b,g,u⟩ I
 rw [NT Oa9.eq_1]
 refine NL ?_
 have y:=fun X=>(OH.refl.app (X:=X)).cells (u.cells (t.cells R.k (by simp)))
 by_cases d:j<es.length
 case neg=>
  obtain rfl:j=es.length:=by omega
  obtain rfl:=C.all R.hK
  simp only [n5,r5,e,f,n,b,g,NN,d,y,OP,R6,RD,RB,RA,QT,NI,Nnk D,SB,seval,NC,NJ,NG,NQ,reduceCtorEq,NB,place,NA,ND]
 have x:Sl G' Ul 1 (Sa H0.length) (Tp es.length A A.length):=u.sl (Sl.row TV H)
 have p:=fun c (kk:IntKind) (H1:NE)=>x.idx (c:=c) (k:=kk) (H1:=H1) (i:=j) (by rw [Sq];exact d)
 rw [Sq] at p
 have o:∀X,AM.loadCell (G'++X) (Xy (Sa H0.length) 1 j)=some (.bool (!decide ((j:Int)∈ks))):=fun X=>by
  have:=(x.app X).loadCell0 (i:=j) TV (by rw [Sq];exact d) (by omega)
  rw [Zk d,Og,R.hA.str j d] at this
  exact this
 have w:IntKind.i64.wrap ((j:Int)+1)=((j+1:Nat):Int):=OA (by omega)
 by_cases hk:(j:Int)∈ks
 ·obtain ⟨h1,h2,K⟩:=C.mem R.hK hk
  have sK:=u.sl (t.sl R.sK (fun a _ _ h=>(by cases h)))
  have J:=fun X=>Nad sK h1 X
  have O:=fun c (kk:IntKind) (H1:NE)=>sK.idx (c:=c) (k:=kk) (H1:=H1) h1
  rw [h2] at J
  have F:IntKind.i64.wrap ((m:Int)+1)=((m+1:Nat):Int):=OA (by omega)
  rw [Nq hk] at o
  simp only [n5,r5,e,f,l,n,b,g,NN,d,y,OP,R6,RD,RB,RA,QT,NI,p,o,J,O,w,F,ge_iff_le,Nm (show ¬(ks.length:Int)<=(m:Int) by omega),Q6,SB,seval,NC,NJ,NG,NQ,reduceCtorEq,NB,place,NA,ND]
  exact I (j+1,m+1) _ _ ⟨by omega,K,e,f,l,rfl,b,rfl,u.trans OH.refl.app⟩ (by simp only;omega)
 ·rw [N3 hk] at o
  simp only [n5,r5,e,f,l,n,b,g,NN,d,p,o,w,Bool.not_false,SB,seval,NC,NJ,NG,NQ,reduceCtorEq,NB,place,NA,ND]
  exact I (j+1,m) _ _ ⟨by omega,C.not hk,e,f,l,n,b,rfl,u.trans OH.refl.app⟩ (by simp only;omega)
end
theorem N7d (n:Nat):(List.range (n*1)).map (fun j=>[Value.int .i64 0].getD (j % 1) undef)=(List.replicate n (0:Int)).flatMap encI:=by
 have h1:∀j,[Value.int .i64 0].getD (j % 1) undef=Value.int .i64 0:=fun j=>by rw [Nat.mod_one];rfl
 simp only [h1]
 rw [List.map_const',O1,Pe]
 induction n with
 | zero=>rfl
 | succ n ih=>
   rw [O9,O9,Oq,<-ih]
   rfl
theorem AnomalyPrices_ok [OB] (hE:EffOk) (n:OB.on 18=true) {mp:Bool} {lim ca X cc:Nat} {p q r:Option Addr} {h:List RL} {F:List Fo} {C:List Int} {item now:Int} {H:NE} {Q:Value->NE->Prop} (hs:Sl H encR 6 p h) (hb:∀x∈h,ByR x) (S:h.length<2 ^ 63) (hc:Un 6 ca h.length)
  (hf:Sl H encF 6 q F) (hF:∀f∈F,FoOk f) (z:Un 6 X F.length) (D:F.length<2 ^ 63) (hC:ClOk C) (T:Sl H encB 1 r C) (B:C.length<2 ^ 63) (I:0<=item/\item<=255) (N:0<=now/\now<=65535) :
  NK E mp lim 5 [.slice p h.length ca,.slice q F.length X,.slice r C.length cc,.int .u8 item,.int .u16 now] H Q=Q (.bool true) H:=by
 refine pc (by decide) e5 rfl rfl ?_
 rw [b5,N82]
 simp only [TH,RP,c5,n5,r5,SB,seval,NC,NJ,NG,NQ,reduceCtorEq,NB,place,NA,ND]
 rw [Nb]
 refine Nu2 hE hs hb S hc hf hF z D hC T B I N (Nd _) (fun G sp sc y=>?_) (fun G sp sc pe ce q' cq r' cr pl cl es tw ks ss e1 e2 e3 o O c y hS w hce hK hT hA=>?_)
 ·have g:=y.len
  refine NL ?_
  simp only [TH,RP,c5,n5,r5,Ndb,NI,NF,g,Nnk n,SB,seval,NC,NJ,NG,NQ,reduceCtorEq,NB,place,NA,ND]
 have g:=y.len
 obtain ⟨L,hL⟩:∃L,UD h (min h.length 10)=L:=⟨_,rfl⟩
 rw [hL] at hA e3 o c⊢
 have m:es.length<=40:=(Nqo c).2.1
 have htw:=Nx9 (SQ C F) (1+item % 4)
 have Y:=M5 (C:=C) (F:=F)
 rw [<-e2] at htw
 have j:=Nhp (P:=P5) (L:=L) (es:=es) (tw:=tw) (ks:=ks) (ss:=ss) (now:=now*2) m (by omega)
 have e:=X9 (P:=P5) (L:=L) (es:=es)
 rw [<-e3] at e
 have d:=Nsb (P:=P5) (L:=L) (tw:=tw) (now:=now*2) e
 rw [<-o] at d
 obtain ⟨A,v⟩:∃A,Ua P5 L es tw ks ss (now*2)=A:=⟨_,rfl⟩
 rw [v] at hA j d⊢
 have K:=N6 (show 0<=(es.length:Int)/\(es.length:Int)*1<=35184372088832/\(es.length:Int)<4611686018427387904 by omega)
 have M:=N6 (show 0<=(es.length:Int)/\(es.length:Int)*8<=35184372088832/\(es.length:Int)<4611686018427387904 by omega)
 have z1:=Nxw es.length
 have z8:=N7d es.length
 refine NL ?_
 simp only [TH,RP,c5,n5,r5,OP,R6,RD,RB,RA,QT,NI,NF,g,K,M,z1,z8,SB,seval,NC,NJ,NG,NQ,reduceCtorEq,NB,place,NA,ND]
 obtain ⟨V,Z⟩:∃V,TG pe es.length ce q' ks.length cq r' ss.length cr (Sy P5 L es ks) pl A.length cl=V:=⟨_,rfl⟩
 rw [Z]
 obtain ⟨H0,a⟩:∃H0,G++[Vc V]=H0:=⟨_,rfl⟩
 have J:H0.length=G.length+1:=by rw [<-a];simp
 have b:OH G H0:=by rw [<-a];exact OH.refl.app
 have kB:NH H0 G.length=Vc V:=by rw [<-a,NV];rfl
 rw [show G++[Vc V,Vc ((List.replicate es.length false).flatMap Ul),Vc ((List.replicate es.length (0:Int)).flatMap encI)]=H0++[Vc ((List.replicate es.length false).flatMap Ul),Vc ((List.replicate es.length (0:Int)).flatMap encI)] from by rw [<-a,Np];rfl,
  <-J,show G.length+2=H0.length+1 by omega]
 have R:R5 G.length ce cq cr cl pe q' r' pl P5 L es ks ss (now*2) A H0:=⟨by rw [kB,Z],b.sl w,b.sl hK,b.sl hT,b.sl hA,e,o,d,O,m,j⟩
 refine Noy R Chg.refl.app rfl rfl rfl rfl (by rw [NV,Nyf];rfl) (by rw [OC,N3j];rfl) (by omega) fun aa G2 k i s t u U W=>?_
 refine Nkq R k (i.trans rfl) (u.trans rfl) W (by omega) fun ab G3 l keep=>?_
 exact Np8 R n (k.trans (l.chg (A:=[]))) (((keep 11 (by decide)).trans i).trans rfl) ((keep 15 (by decide)).trans s) (((keep 16 (by decide)).trans t).trans rfl) (l.cells U)
end Go.Proofs.YtkppjkkkdpcgiaaGreat.Fn


