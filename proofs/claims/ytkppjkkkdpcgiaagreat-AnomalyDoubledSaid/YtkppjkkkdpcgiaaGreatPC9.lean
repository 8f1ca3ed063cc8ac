/-
  Joined texts, 9 of 10. A part of the claim that the last text states.
-/
import Derived.Test.YtkppjkkkdpcgiaaGreatPC8
set_option linter.unusedVariables false
set_option linter.unusedSimpArgs false
set_option linter.defProp false
set_option linter.unusedSectionVars false
set_option maxRecDepth 100000
set_option maxHeartbeats 4000000
namespace Go.Proofs.YtkppjkkkdpcgiaaGreat.Fn
open Go.AM Go.AM.Sym Go.Net Go.Scan
def T6a:ACode:=RH (RH (RH (RH (RH (RH (RH c6))))))
theorem N84:c6=.seq (TI c6) (.seq (TI (RH c6)) (.seq (TI (RH (RH c6))) (.seq (TI (RH (RH (RH c6)))) (.seq (TI (RH (RH (RH (RH c6))))) (.seq (TI (RH (RH (RH (RH (RH c6)))))) (.seq (TI (RH (RH (RH (RH (RH (RH c6))))))) T6a)))))):=rfl
def T6b:ACode:=RH T6a
theorem N5u:T6a=.seq (TI T6a) T6b:=rfl
def Ngs:ACode:=Nc8 (TI (RH (RH Nc6)))
def N7c:ACode:=RH (RH (RH Nc6))
def R6a:ACode:=RH (RH Ngs)
theorem N8e:Nc6=.seq (TI Nc6) (.seq (TI (RH Nc6)) (.seq (.block 1 (.seq (TI Ngs) (.seq (TI (RH Ngs)) R6a))) N7c)):=rfl
def isD (x:Ev) (m:Int) (d:Ev):Bool:=decide (d.time=x.time+m/\d.place=x.place/\d.kind=x.kind)
section
variable {lim B ce cq cr cl:Nat} {pe q r pl:Option Addr} {ks:List Int} {ss:List Stp} {es tw:List Ev} {A:List An} {P:List Int} {L:List Leg} {now:Int} {H0:NE} {Q:Value->NE->Prop}
theorem N05 [OB] {X Y ct:Nat} {pt:Option Addr} {K:List AItem} {fr:Nat->Value} {G:NE} {a:An} {x:Ev} (v:IntKind.i64.wrap (x.time+a.mins)=x.time+a.mins) (C:fr 21=Vp X) (D:fr 22=Vp Y) (F:fr 23=.bool false) (I:fr 89=.slice pt tw.length ct) (J:fr 90=Vi tw.length) (L:fr 91=Vi 0)
  (S:NI G X=Vc (Tp a)) (T:NI G Y=Vc (encE x)) (N:Sl G encE 7 pt tw) (htw:tw.length<=40) (hl:lim<=G.length)
  (P:∀fr' G',OH G G'->(∀t,t<66->t≠23->t≠25->fr' t=fr t)->fr' 23=.bool (tw.any (isD x a.mins))->PV E a6 lim K fr' G' Q):PV E a6 lim (.code (.loop N4n)::.inBlock 3::K) fr G Q:=by
 refine NS (fun j:Nat=>tw.length-j) (fun j fr' G'=>j<=tw.length/\(∀t,t<66->t≠23->t≠25->fr' t=fr t)/\fr' 23=.bool ((tw.take j).any (isD x a.mins))/\fr' 89=.slice pt tw.length ct/\fr' 90=Vi tw.length/\fr' 91=Vi j/\OH G G') 0
  ⟨Nw _,fun _ _ _ _=>rfl,by rw [F];rfl,I,J,L,by simpa using (OH.refl (H:=G))⟩ ?_
 intro j fr' G' ⟨hj,keep,d,f,g,i,r⟩ O
 rw [NU N4n.eq_1]
 refine NL ?_
 by_cases b:j<tw.length
 case neg=>
  obtain rfl:j=tw.length:=by omega
  rw [Oh] at d
  simp only [n6,r6,f,g,i,NN,b,SB,seval,NC,NJ,NG,NQ,reduceCtorEq,NB,place,NA,ND]
  exact P _ _ (r.trans OH.refl.app) (fun t ht h1 h2=>by simp only [upd];repeat (first | rw [Ng (by omega)] | exact keep t ht h1 h2)) d
 have m:=(keep 21 (by decide) (by decide) (by decide)).trans C
 have n:=(keep 22 (by decide) (by decide) (by decide)).trans D
 have R:=r.len
 have w:=fun X=>((r.sl N).app X).loadCells NW b
 have y:=fun c (kk:IntKind) (H1:NE)=>(r.sl N).idx (c:=c) (k:=kk) (H1:=H1) b
 have z:=fun X=>(OH.refl.app (X:=X)).cells (r.cells S)
 have A:=fun X=>(OH.refl.app (X:=X)).cells (r.cells T)
 have p:IntKind.i64.wrap ((j:Int)+1)=((j+1:Nat):Int):=OE (by omega)
 have M:(tw.take (j+1)).any (isD x a.mins)=((tw.take j).any (isD x a.mins)||isD x a.mins (gt tw j)):=by
  rw [N4 b,List.any_append,PS b]
  simp
 obtain ⟨o,ho⟩:∃o,(tw.take j).any (isD x a.mins)=o:=⟨_,rfl⟩
 rw [ho] at M d
 have fin:∀l:Nat->Value,∀X,(∀t,t<92->t≠23->t≠25->t≠91->l t=fr' t)->l 23=.bool (o||isD x a.mins (gt tw j))->l 91=Vi ((j+1:Nat):Int)->PV E a6 lim (.inLoop N4n::.inBlock 3::K) l (G'++X) Q:=fun l X k2 s u=>
  O (j+1) _ _ ⟨by omega,(fun t ht h1 h2=>(k2 t (by omega) h1 h2 (by omega)).trans (keep t ht h1 h2)),by rw [M];exact s,(k2 89 (by decide) (by decide) (by decide) (by decide)).trans f,(k2 90 (by decide) (by decide) (by decide) (by decide)).trans g,u,r.trans OH.refl.app⟩ (by omega)
 cases o
 ·by_cases h1:(gt tw j).time=x.time+a.mins
  ·by_cases h2:(gt tw j).place=x.place
   ·by_cases q:(gt tw j).kind=x.kind
    ·have e:isD x a.mins (gt tw j)=true:=Np ⟨h1,h2,q⟩
     rw [e] at fin
     simp only [n6,r6,m,n,d,f,g,i,NN,b,w,y,z,A,v,p,NW,PY,QD,QC,QB,QA,PZ,PW,QI,YO,NH,NF,show lim<=G'.length by omega,N5 h1,N5 h2,N5 q,SB,seval,NC,NJ,NG,NQ,reduceCtorEq,NB,place,NA,ND]
     exact fin _ _ (fun t h1 h2 q B=>by simp only [upd];repeat rw [Ng (by omega)]) rfl rfl
    ·have e:isD x a.mins (gt tw j)=false:=N1 fun h=>q h.2.2
     rw [e] at fin
     simp only [n6,r6,m,n,d,f,g,i,NN,b,w,y,z,A,v,p,NW,PY,QD,QC,QB,QA,PZ,PW,QI,YO,NH,NF,show lim<=G'.length by omega,N5 h1,N5 h2,No q,SB,seval,NC,NJ,NG,NQ,reduceCtorEq,NB,place,NA,ND]
     exact fin _ _ (fun t h1 h2 q B=>by simp only [upd];repeat rw [Ng (by omega)]) rfl rfl
   ·have e:isD x a.mins (gt tw j)=false:=N1 fun h=>h2 h.2.1
    rw [e] at fin
    simp only [n6,r6,m,n,d,f,g,i,NN,b,w,y,z,A,v,p,NW,PY,QD,QC,QB,QA,PZ,PW,QI,YO,NH,NF,show lim<=G'.length by omega,N5 h1,No h2,SB,seval,NC,NJ,NG,NQ,reduceCtorEq,NB,place,NA,ND]
    exact fin _ _ (fun t h1 h2 q B=>by simp only [upd];repeat rw [Ng (by omega)]) rfl rfl
  ·have e:isD x a.mins (gt tw j)=false:=N1 fun h=>h1 h.1
   rw [e] at fin
   simp only [n6,r6,m,n,d,f,g,i,NN,b,w,y,z,A,v,p,NW,PY,QD,QC,QB,QA,PZ,PW,QI,YO,NH,NF,show lim<=G'.length by omega,No h1,SB,seval,NC,NJ,NG,NQ,reduceCtorEq,NB,place,NA,ND]
   exact fin _ _ (fun t h1 h2 q B=>by simp only [upd];repeat rw [Ng (by omega)]) rfl rfl
 ·simp only [n6,r6,m,n,d,f,g,i,NN,b,w,y,z,A,v,p,NW,PY,QD,QC,QB,QA,PZ,PW,QI,YO,NH,NF,show lim<=G'.length by omega,SB,seval,NC,NJ,NG,NQ,reduceCtorEq,NB,place,NA,ND]
  exact fin _ _ (fun t h1 h2 q B=>by simp only [upd];repeat rw [Ng (by omega)]) rfl rfl
structure D6 (P:List Int) (L:List Leg) (es tw:List Ev) (ks:List Int) (ss:List Stp) (now:Int) (A:List An):Prop where
 six:∀a∈A,a.kind=6->(0<=a.mins/\a.mins<=10)/\∃d∈tw,d.time=(gt es a.ev.toNat).time+a.mins/\d.place=(gt es a.ev.toNat).place/\d.kind=(gt es a.ev.toNat).kind
 n6:nK 6 A=tw.length
 n7:nK 7 A=(SS es ks now).length
 hT:UJ es
 ht:tw.length<=40
theorem R5.body6 [OB] (R:R5 B ce cq cr cl pe q r pl P L es ks ss (now*2) A H0) (D:D6 P L es tw ks ss (now*2) A) (ai:0<=now/\now<=65535) {j X Y ct:Nat} {pt:Option Addr} (s:j<A.length) {fr:Nat->Value} {G:NE} {K:List AItem} (N:OH H0 G) (f4:fr 4=.int .u16 now) (f11:fr 11=Vp B) (p:fr 17=.slice pt tw.length ct) (e:fr 18=Vi (nK 6 (A.take j):Int)) (f:fr 19=Vi (nK 7 (A.take j):Int))
  (m:fr 21=Vp X) (n:fr 22=Vp Y) (kX:NI G X=Vc (Tp (gt A j))) (kY:NI G Y=Vc (encE (gt es (gt A j).ev.toNat))) (sT:Sl H0 encE 7 pt tw) (hl:lim<=H0.length)
  (U:∀fr' G',OH G G'->(∀t,t<66->t≠18->t≠19->t≠23->t≠25->fr' t=fr t)->fr' 18=Vi (nK 6 (A.take (j+1)):Int)->fr' 19=Vi (nK 7 (A.take (j+1)):Int)->PV E a6 lim K fr' G' Q):PV E a6 lim (.code R6a::K) fr G Q:=by
 refine NL ?_
 have ah:=N.len
 have aj:=R.hl
 have H:=R.hK
 have g:=QH s
 have Z:=Njr R.hA H.mem R.h0 _ g
 have o:=R.hA.all _ g
 have T:=D.six _ g
 have y:=Nr7 (k:=6) s
 have u:=Nr7 (k:=7) s
 have b6:=N6d (k:=6) (l:=A.take j)
 have b7:=N6d (k:=7) (l:=A.take j)
 have al:(A.take j).length=j:=by rw [Om];omega
 obtain ⟨x,O⟩:∃x,gt es (gt A j).ev.toNat=x:=⟨_,rfl⟩
 have aa:=D.hT x (by rw [<-O];exact QH (by omega))
 unfold NY at aa
 rw [O] at kY T
 obtain ⟨a,ha⟩:∃a,gt A j=a:=⟨_,rfl⟩
 rw [ha] at kX Z o T y u O
 have yX:=fun X=>(OH.refl.app (X:=X)).cells kX
 have yY:=fun X=>(OH.refl.app (X:=X)).cells kY
 have v:=fun X=>(OH.refl.app (X:=X)).cells (N.cells R.k)
 by_cases c6:a.kind=6
 ·rw [Ni c6] at y
  rw [Ng (show ¬a.kind=7 by omega),O9] at u
  obtain ⟨hm,d,hd,V⟩:=T c6
  have ac:IntKind.i64.wrap ((nK 6 (A.take j):Int)+1)=(nK 6 (A.take (j+1)):Int):=by rw [y,NP (by omega) (by omega)];omega
  have ae:IntKind.i64.wrap (x.time+a.mins)=x.time+a.mins:=NP (by omega) (by omega)
  have C:tw.any (isD x a.mins)=true:=List.any_eq_true.2 ⟨d,hd,Np V⟩
  simp only [R6a,Ngs,Nc8,TI,RH,Nc6,n6,r6,f4,f11,p,e,f,m,n,yX,yY,v,PD,RN,RV,RU,RS,RD,NW,PY,QD,QC,QB,QA,PZ,PW,QI,Nqr,Nfq,YO,NH,N5 c6,ac,gt_iff_lt,No (show ¬a.mins<0 by omega),No (show ¬10<a.mins by omega),SB,seval,NC,NJ,NG,NQ,reduceCtorEq,NB,place,NA,ND]
  refine N05 (a:=a) (x:=x) ae m n rfl rfl rfl rfl (OH.refl.app.cells kX) (OH.refl.app.cells kY) ((N.sl sT).app _) D.ht (by simp;omega) fun fr' G' hX keep z=>?_
  rw [C] at z
  refine NL ?_
  simp only [n6,r6,z,SB,seval,NC,NJ,NG,NQ,reduceCtorEq,NB,place,NA,ND]
  exact U _ _ ((OH.refl.app.trans hX).trans OH.refl.app) (fun t h1 h2 h3 w S=>by simp only [upd];(repeat rw [Ng (by omega)]);exact (keep t (by omega) w S).trans (by simp only [upd];repeat rw [Ng (by omega)])) ((keep 18 (by decide) (by decide) (by decide)).trans rfl) ((keep 19 (by decide) (by decide) (by decide)).trans (by rw [u];exact f))
 rw [Ng c6,O9] at y
 by_cases M:a.kind=7
 ·rw [Ni M] at u
  have ad:IntKind.i64.wrap ((nK 7 (A.take j):Int)+1)=(nK 7 (A.take (j+1)):Int):=by rw [u,NP (by omega) (by omega)];omega
  rcases o with ⟨i,_,h1⟩ | ⟨_,_,b,w,J,ag⟩
  ·have:=h1.kind;omega
  rw [O] at w J
  have F:ks≠[]:=fun h=>by rw [h] at b;cases b
  have an:=List.length_pos_iff.2 F
  have am:=Zy H.2
  have ak:=R.hn
  rw [Mq F,Option.some_inj] at b
  have sK:=N.sl R.sK
  have I:=fun X=>Zp sK (i:=ks.length-1) (by omega) X
  rw [b] at I
  have W:=fun c (k:IntKind) (H1:NE)=>sK.idx (c:=c) (k:=k) (H1:=H1) (i:=ks.length-1) (by omega)
  have ab:IntKind.i64.wrap ((ks.length:Int)-1)=((ks.length-1:Nat):Int):=by rw [NP (by omega) (by omega)];omega
  have w4:IntKind.i64.wrap now=now:=NP (by omega) (by omega)
  have w5:IntKind.i64.wrap (2*now)=now*2:=by rw [NP (by omega) (by omega)];omega
  have w6:IntKind.i64.wrap (now*2-x.time)=a.mins:=by rw [J,NP (by omega) (by omega)]
  simp only [R6a,Ngs,Nc8,TI,RH,Nc6,n6,r6,f4,f11,p,e,f,m,n,yX,yY,v,PD,RN,RV,RU,RS,RD,NW,PY,QD,QC,QB,QA,PZ,PW,QI,Nqr,Nfq,YO,NH,No c6,N5 M,ad,ab,I,W,w4,w5,w6,No w,No (show ¬a.mins<=20160 by omega),SB,seval,NC,NJ,NG,NQ,reduceCtorEq,NB,place,NA,ND]
  exact U _ _ OH.refl.app (fun t h1 h2 h3 w S=>by simp only [upd];repeat rw [Ng (by omega)]) (by rw [y];exact e) rfl
 ·rw [Ng M,O9] at u
  simp only [R6a,Ngs,Nc8,TI,RH,Nc6,n6,r6,f4,f11,p,e,f,m,n,yX,yY,v,PD,RN,RV,RU,RS,RD,NW,PY,QD,QC,QB,QA,PZ,PW,QI,Nqr,Nfq,YO,NH,No c6,No M,SB,seval,NC,NJ,NG,NQ,reduceCtorEq,NB,place,NA,ND]
  exact U _ _ OH.refl.app (fun t h1 h2 h3 w S=>by simp only [upd];repeat rw [Ng (by omega)]) (by rw [y];exact e) (by rw [u];exact f)
theorem N13 [OB] (R:R5 B ce cq cr cl pe q r pl P L es ks ss (now*2) A H0) (D:D6 P L es tw ks ss (now*2) A) (w:0<=now/\now<=65535) {ct:Nat} {pt:Option Addr} {fr:Nat->Value} {G:NE} (o:OH H0 G) (f4:fr 4=.int .u16 now) (f11:fr 11=Vp B) (x:fr 17=.slice pt tw.length ct) (y:fr 18=Vi 0) (z:fr 19=Vi 0) (W:Sl H0 encE 7 pt tw) (hl:lim<=H0.length)
  (S:∀fr' G',OH H0 G'->(∀t,t<18->fr' t=fr t)->fr' 18=Vi tw.length->fr' 19=Vi ((SS es ks (now*2)).length:Int)->PV E a6 lim [.code T6b] fr' G' Q):PV E a6 lim [.code T6a] fr G Q:=by
 rw [N5u]
 refine NL ?_
 have d:=fun X=>(OH.refl.app (X:=X)).cells (o.cells R.k)
 simp only [TI,RH,T6a,c6,n6,r6,f11,d,PD,RN,RV,RU,RS,RD,NH,SB,seval,NC,NJ,NG,NQ,reduceCtorEq,NB,place,NA,ND]
 refine NS (fun j:Nat=>A.length-j) (fun j fr' G=>j<=A.length/\(∀t,t<18->fr' t=fr t)/\fr' 18=Vi (nK 6 (A.take j):Int)/\fr' 19=Vi (nK 7 (A.take j):Int)/\fr' 63=.slice pl A.length cl/\fr' 64=Vi A.length/\fr' 65=Vi j/\OH H0 G) 0
  ⟨Nw _,(fun t ht=>by simp only [upd];repeat rw [Ng (by omega)]),y,z,rfl,rfl,by rfl,o.trans OH.refl.app⟩ ?_
 clear d o
 clear G
 intro j fr' G ⟨hj,keep,e,f,g,i,l,n⟩ O
 rw [NU N8e]
 refine NL ?_
 have K:=n.len
 by_cases b:j<A.length
 case neg=>
  obtain rfl:j=A.length:=by omega
  rw [Oh,D.n6] at e
  rw [Oh,D.n7] at f
  simp only [TI,RH,Nc6,n6,r6,g,i,l,NN,b,SB,seval,NC,NJ,NG,NQ,reduceCtorEq,NB,place,NA,ND]
  exact S _ _ (n.trans OH.refl.app) (fun t ht=>by simp only [upd];repeat (first | rw [Ng (by omega)] | exact keep t ht)) e f
 have H:=R.hK
 have N:=R.hl
 have T:=Njr R.hA H.mem R.h0 _ (QH b)
 obtain ⟨m,M⟩:∃m:Nat,(gt A j).ev=m:=⟨(gt A j).ev.toNat,by omega⟩
 have v:m<es.length:=by omega
 have sA:=n.sl R.sA
 have sE:=n.sl R.sE
 have U:=fun X=>(sA.app X).loadCells QI b
 have Z:=fun c (kk:IntKind) (H1:NE)=>sA.idx (c:=c) (k:=kk) (H1:=H1) b
 have V:=fun X=>(sE.app X).loadCells NW v
 have x2:=fun c (kk:IntKind) (H1:NE)=>sE.idx (c:=c) (k:=kk) (H1:=H1) v
 have d:=fun X=>(OH.refl.app (X:=X)).cells (n.cells R.k)
 have p:=(keep 11 (by decide)).trans f11
 have J:IntKind.i64.wrap ((j:Int)+1)=((j+1:Nat):Int):=OE (by omega)
 have I:lim<=G.length:=by omega
 simp only [TI,RH,Nc8,Ngs,Nc6,n6,r6,p,g,i,l,NN,b,U,Z,V,x2,d,I,M,QI,Nfq,NW,PD,RN,RV,RU,RS,RD,NH,NF,SB,seval,NC,NJ,NG,NQ,reduceCtorEq,NB,place,NA,ND]
 refine R.body6 (ct:=ct) (X:=G.length) (Y:=G.length+1) D w b (n.trans OH.refl.app) (by simp only [(keep 4 (by decide)).trans f4,FB,Nat.reduceEqDiff]) p (by simp only [(keep 17 (by decide)).trans x,FB,Nat.reduceEqDiff]) e f rfl rfl (by rw [NV];rfl) (by rw [OC,M];rfl) W hl fun C G3 F a s u=>?_
 have kk:∀t,t<18->C t=fr t:=fun t h=>(a t (by omega) (by omega) (by omega) (by omega) (by omega)).trans (by simp only [upd];(repeat rw [Ng (by omega)]);exact keep t h)
 have e65:=(a 65 (by decide) (by decide) (by decide) (by decide) (by decide)).trans l
 have e64:=(a 64 (by decide) (by decide) (by decide) (by decide) (by decide)).trans i
 have e63:=(a 63 (by decide) (by decide) (by decide) (by decide) (by decide)).trans g
 refine NL ?_
 simp only [N7c,RH,Nc6,n6,r6,e65,J,SB,seval,NC,NJ,NG,NQ,reduceCtorEq,NB,place,NA,ND]
 exact O (j+1) _ _ ⟨by omega,(fun t ht=>by simp only [upd];(repeat rw [Ng (by omega)]);exact kk t ht),s,u,e63,e64,rfl,(n.trans (OH.refl.app.trans F)).app⟩ (by omega)
theorem N5d [OB] (R:R5 B ce cq cr cl pe q r pl P L es ks ss (now*2) A H0) (D:D6 P L es tw ks ss (now*2) A) (n:OB.on 18=true) (K:0<=now/\now<=65535) {ct:Nat} {pt:Option Addr} {fr:Nat->Value} {G:NE} (w:OH H0 G) (f4:fr 4=.int .u16 now) (f11:fr 11=Vp B) (f:fr 17=.slice pt tw.length ct) (g:fr 18=Vi tw.length) (b:fr 19=Vi ((SS es ks (now*2)).length:Int)) (hl:lim<=H0.length):PV E a6 lim [.code T6b] fr G fun v _=>v=.bool true:=by
 refine NL ?_
 have I:=w.len
 have d:=R.hK
 have N:=Zy d.2
 have M:=R.hn
 have t:ks≠[]:=fun h=>R.h0 (List.length_eq_zero_iff.1 (d.1 (by rw [h];rfl)))
 have O:=List.length_pos_iff.2 t
 obtain ⟨m,J⟩:∃m:Nat,gt ks (ks.length-1)=m:=⟨(gt ks (ks.length-1)).toNat,by have:=d.mem _ (QH (show ks.length-1<ks.length by omega));omega⟩
 have l:m<es.length:=by have:=d.mem _ (QH (show ks.length-1<ks.length by omega));omega
 have a:=Nz2 (es:=es) (now:=now*2) (Mq t)
 rw [J,Oa] at a
 have sK:=w.sl R.sK
 have sE:=w.sl R.sE
 have p:=fun X=>(OH.refl.app (X:=X)).cells (w.cells R.k)
 have e:=fun X=>Zp sK (i:=ks.length-1) (by omega) X
 rw [J] at e
 have j:=fun c (k:IntKind) (H1:NE)=>sK.idx (c:=c) (k:=k) (H1:=H1) (i:=ks.length-1) (by omega)
 have o:IntKind.i64.wrap ((ks.length:Int)-1)=((ks.length-1:Nat):Int):=by rw [NP (by omega) (by omega)];omega
 have y:=fun X=>(sE.app X).loadCells NW l
 have H:=fun c (kk:IntKind) (H1:NE)=>sE.idx (c:=c) (k:=kk) (H1:=H1) l
 have x:=D.hT _ (QH l)
 unfold NY at x
 have z:IntKind.i64.wrap now=now:=NP (by omega) (by omega)
 have C:IntKind.i64.wrap (2*now)=now*2:=by rw [NP (by omega) (by omega)];omega
 have F:IntKind.i64.wrap (now*2-(gt es m).time)=now*2-(gt es m).time:=NP (by omega) (by omega)
 by_cases s:(gt es m).kind=4
 ·rw [Ng (fun h=>h.1 s)] at a
  rw [a] at b
  simp only [TI,RH,T6b,T6a,c6,n6,r6,f4,f11,f,g,b,p,e,j,o,y,H,z,C,F,PD,RN,RV,RU,RS,RD,NW,PY,QD,QC,QB,QA,PZ,PW,NH,NF,show lim<=G.length by omega,Nar n,gt_iff_lt,N5 s,SB,seval,NC,NJ,NG,NQ,reduceCtorEq,NB,place,NA,ND]
 by_cases u:20160<now*2-(gt es m).time
 ·rw [Ni ⟨s,u⟩] at a
  rw [a] at b
  simp only [TI,RH,T6b,T6a,c6,n6,r6,f4,f11,f,g,b,p,e,j,o,y,H,z,C,F,PD,RN,RV,RU,RS,RD,NW,PY,QD,QC,QB,QA,PZ,PW,NH,NF,show lim<=G.length by omega,Nar n,gt_iff_lt,No s,N5 u,SB,seval,NC,NJ,NG,NQ,reduceCtorEq,NB,place,NA,ND]
 ·rw [Ng (fun h=>u h.2)] at a
  rw [a] at b
  simp only [TI,RH,T6b,T6a,c6,n6,r6,f4,f11,f,g,b,p,e,j,o,y,H,z,C,F,PD,RN,RV,RU,RS,RD,NW,PY,QD,QC,QB,QA,PZ,PW,NH,NF,show lim<=G.length by omega,Nar n,gt_iff_lt,No s,No u,SB,seval,NC,NJ,NG,NQ,reduceCtorEq,NB,place,NA,ND]
end
theorem AnomalyDoubled_ok [OB] (hE:EffOk) (I:OB.on 18=true) {mp:Bool} {lim ca cb cc:Nat} {p q r:Option Addr} {o:List RL} {F:List Fo} {C:List Int} {item now:Int} {H:NE} {Q:Value->NE->Prop} (hs:Sl H encR 6 p o) (hb:∀x∈o,ByR x) (ah:o.length<2 ^ 63) (hc:Uj 6 ca o.length)
  (hf:Sl H encF 6 q F) (hF:∀f∈F,FoOk f) (ab:Uj 6 cb F.length) (ad:F.length<2 ^ 63) (hC:ClOk C) (ai:Sl H encB 1 r C) (ac:C.length<2 ^ 63) (D:0<=item/\item<=255) (n:0<=now/\now<=65535) :
  NK E mp lim 6 [.slice p o.length ca,.slice q F.length cb,.slice r C.length cc,.int .u8 item,.int .u16 now] H Q=Q (.bool true) H:=by
 refine pc (by decide) e6 rfl rfl ?_
 rw [b6,N84]
 simp only [TI,RH,c6,n6,r6,SB,seval,NC,NJ,NG,NQ,reduceCtorEq,NB,place,NA,ND]
 rw [Nb]
 refine Nu0 hE hs hb ah hc hf hF ab ad hC ai ac D n (Nd _) (fun G sp sc Z=>?_) (fun G sp sc pe ce q' cq r' cr pl cl es tw ks ss e1 e2 e3 K ag h Z hS U hce hK hT hA=>?_)
 ·have m:=Z.len
  refine NL ?_
  simp only [TI,RH,c6,n6,r6,Nde,NH,NF,m,Nar I,SB,seval,NC,NJ,NG,NQ,reduceCtorEq,NB,place,NA,ND]
 have m:=Z.len
 obtain ⟨L,hL⟩:∃L,U9 o (min o.length 10)=L:=⟨_,rfl⟩
 rw [hL] at hA e3 K h⊢
 have B:es.length<=40:=(Nqn h).2.1
 obtain ⟨IT,v⟩:∃IT,1+item % 4=IT:=⟨_,rfl⟩
 have ak:1<=IT:=by omega
 have al:IT<=4:=by omega
 rw [v] at e1 e2
 have htw:=Nx4 (SC C F) IT
 have w:=M0 (C:=C) (F:=F)
 have g:=XY hC hF
 obtain ⟨S,W⟩:∃S,SC C F=S:=⟨_,rfl⟩
 rw [W] at hS g w e1 e2 htw⊢
 have an:=MJ S
 rw [<-e2] at htw
 have s:=Nht (P:=P5) (L:=L) (es:=es) (tw:=tw) (ks:=ks) (ss:=ss) (now:=now*2) B (by omega)
 have l:=Xx (P:=P5) (L:=L) (es:=es)
 rw [<-e3] at l
 have j:=Nsa (P:=P5) (L:=L) (tw:=tw) (now:=now*2) l
 rw [<-K] at j
 have c:∀d∈tw,∃k,k<es.length/\(∀i,i<es.length->(atE es d i↔i=k))/\d.time-(gt es k).time<=10:=fun d hd=>by
  rw [e1]
  exact Nyu g (by omega) (by rw [<-e2];exact hd)
 have T:D6 P5 L es tw ks ss (now*2) (SG P5 L es tw ks ss (now*2)):=⟨fun a ha h6=>N7j c ha h6,Nz4 fun d hd=>by obtain ⟨k,h1,h2,_⟩:=c d hd;exact ⟨k,h1,h2⟩,Np3,fun e he=>by rw [e1] at he;have:=Nes g (by omega) he;exact ⟨this.2.1,this.2.2.1⟩,by omega⟩
 obtain ⟨A,O⟩:∃A,SG P5 L es tw ks ss (now*2)=A:=⟨_,rfl⟩
 rw [O] at hA s j T⊢
 obtain ⟨V,X⟩:∃V,TH pe es.length ce q' ks.length cq r' ss.length cr (Te P5 L es ks) pl A.length cl=V:=⟨_,rfl⟩
 have Y:V.length=5:=by rw [<-X];rfl
 rw [X]
 refine NL ?_
 simp only [TI,RH,c6,n6,r6,Y,NH,NF,m,SB,seval,NC,NJ,NG,NQ,reduceCtorEq,NB,place,NA,ND]
 refine Nio hE (hS.app _) g fun G2 kp kc hO t=>?_
 have ae:=t.len
 simp at ae
 have w2:IntKind.i64.wrap (1+item.tmod 4)=IT:=by rw [Int.tmod_eq_emod_of_nonneg D.1,v,NP (by omega) (by omega)]
 have w3:IntKind.i64.wrap item=item:=NP (by omega) (by omega)
 refine NL ?_
 simp only [TI,RH,c6,n6,r6,w2,w3,SB,seval,NC,NJ,NG,NQ,reduceCtorEq,NB,place,NA,ND]
 refine Npg (lim:=H.length) ((hO.sl NW).app _) (by omega) (by simp;omega) fun J z hz u=>?_
 rw [<-e2] at hz⊢
 simp only [Nb] at hz u
 have sT:Sl J encE 7 (Sa G2.length) tw:=Ngg NW hz
 have y:OH (G++[Vc V]) J:=t.ext.trans u.ext
 have b:=OH.refl.app.trans y
 have R:R5 G.length ce cq cr cl pe q' r' pl P5 L es ks ss (now*2) A J:=⟨by rw [X];exact y.cells (by rw [NV];rfl),b.sl U,b.sl hK,b.sl hT,b.sl hA,l,K,j,ag,B,s⟩
 have am:=b.len
 refine NL ?_
 simp only [TI,RH,c6,n6,r6,SB,seval,NC,NJ,NG,NQ,reduceCtorEq,NB,place,NA,ND]
 refine N13 R T n OH.refl.app rfl rfl rfl rfl rfl sT (by omega) fun aj G4 aa keep M N=>?_
 exact N5d R T I n aa ((keep 4 (by decide)).trans rfl) ((keep 11 (by decide)).trans rfl) ((keep 17 (by decide)).trans rfl) M N (by omega)
end Go.Proofs.YtkppjkkkdpcgiaaGreat.Fn


