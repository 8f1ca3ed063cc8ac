/-
  Joined texts, 9 of 10. A part of the claim that the last text states.
-/
import Derived.Test.YtohnaffmcjbpoaaGreatPS8
set_option linter.unusedVariables false
set_option linter.unusedSimpArgs false
set_option linter.defProp false
set_option linter.unusedSectionVars false
set_option maxRecDepth 100000
set_option maxHeartbeats 4000000
namespace Go.Proofs.YtohnaffmcjbpoaaGreat.Fn
open Go.AM Go.AM.Sym Go.Net Go.Flow
theorem Nxg {PL:List (Int×Int)} {R:Nat->Bool} {p:Int}:U0 PL R p 2=-1:=by simp [U0]
theorem Nxf {PL:List (Int×Int)} {R:Nat->Bool} {p to:Int} (h:PlR PL to):(tmT PL R p).getD (-1)=U0 PL R p PL.length:=by
 unfold tmT
 rcases XK (R:=R) (p:=p) (fun v a b=>(h.no v a b).2.2) (Ng PL.length) with ⟨e,_⟩ | ⟨b,e,b1,c,_⟩
 ·rw [e];rfl
 ·have:=(h.no b b1 c).2.2
  rw [e,Nk this];rfl
structure BD (fr:Nat->Value) (B4 B8 B11 B14:Nat) (v13:Value):Prop where
 f4:fr 4=Vp B4
 f8:fr 8=Vp B8
 f11:fr 11=Vp B11
 f13:fr 13=v13
 f14:fr 14=Vp B14
section
variable {lim B4 B8 B11 B14 np cn nl cl cp ch i:Nat} {pn pl pp ph:Option Addr} {y z w:Value} {P:List Int} {PL:List (Int×Int)} {hw:List (Option Nat)} {q:List Nat} {l:List Pr} {to:Int} {G:NB} {fr:Nat->Value} {K:List AItem} {Q:Value->NB->Prop}
theorem Noq [OB] (B:Rch l PL.length hw q q.length 0) (h2:2<=PL.length) (aa:PL.length<2 ^ 21) (hP:PlR PL to) (h4:NC G B4=Vc (QJ pn P.length cn pl nl cl)) (W:NC G B11=Vc (Ta (.slice pp PL.length cp) y z w)) (sP:Sl G encI 1 pn P) (sp:Sl G enc2 2 pp PL) (sh:Sl G Xn 2 ph hw) (hi:i<P.length)
  (hf:BD fr B4 B8 B11 B14 (.slice ph PL.length ch)) (f15:fr 15=Vi i) (f16:fr 16=Vi (-1)) (f17:fr 17=Vi 2)
  (hR:∀fr' G',BD fr' B4 B8 B11 B14 (.slice ph PL.length ch)->fr' 15=Vi i->fr' 16=Vi (U0 PL (fun v=>decide (v∈q)) (gt P i) PL.length)->NZ G G'->PI E a29 lim K fr' G' Q) :
  PI E a29 lim (.code (.loop Nu2)::.inBlock 2::K) fr G Q:=by
 refine NM (fun k=>PL.length-k) (fun k p G'=>2<=k/\k<=PL.length/\BD p B4 B8 B11 B14 (.slice ph PL.length ch)/\p 15=Vi i/\p 16=Vi (U0 PL (fun v=>decide (v∈q)) (gt P i) k)/\p 17=Vi k/\NZ G G') 2 ⟨Ng _,h2,hf,f15,by rw [Nxg];exact f16,f17,.refl⟩ ?_
 intro k p G' ⟨L,hk,⟨s,F,a,d,m⟩,b,f,n,r⟩ J
 rw [NQ Nu2.eq_1]
 refine NI ?_
 have g:=fun Z=>(r.app (X:=Z)).cells W
 have M:=fun Z=>(r.app (X:=Z)).cells h4
 unfold Ta at g
 by_cases c:k<PL.length
 case neg=>
  obtain rfl:k=PL.length:=by omega
  simp only [n29,a,n,g,SB,seval,NJ,NF]
  exact hR _ _ ⟨s,F,a,d,m⟩ b f r.app
 have Y:=B.len
 have C:=r.sl sp
 have O:=r.sl sP
 have R:=r.sl sh
 have l0:∀Z,AM.loadCell (G'++Z) ((SX pp 2 k).add 0)=some (Vi (gt PL k).1):=fun Z=>(C.app Z).loadCell PO c (j:=0) (by decide)
 have l1:∀Z,AM.loadCell (G'++Z) ((SX pp 2 k).add 1)=some (Vi (gt PL k).2):=fun Z=>(C.app Z).loadCell PO c (j:=1) (by decide)
 have V:=QN C c rfl
 have N:∀Z,AM.loadCell (G'++Z) (SX pn 1 i)=some (Vi (gt P i)):=fun Z=>(O.app Z).loadCell0 OU hi (by decide)
 have U:=QN O hi rfl
 have D:∀Z,AM.loadCell (G'++Z) ((SX ph 2 k).add 0)=some (Vi (XF (gt hw k))):=fun Z=>(R.app Z).loadCell RP (i:=k) (by omega) (j:=0) (by decide)
 have T:=QN R (i:=k) (by omega) rfl
 rw [Y] at T
 have S:IntKind.i64.wrap ((k:Int)+1)=((k+1:Nat):Int):=NS (by omega)
 have u:U0 PL (fun v=>decide (v∈q)) (gt P i) (k+1)=if 2<=k/\(gt PL k).1=gt P i/\decide (k∈q)=true/\(U0 PL (fun v=>decide (v∈q)) (gt P i) k<0\/(gt PL k).2<U0 PL (fun v=>decide (v∈q)) (gt P i) k) then (gt PL k).2 else U0 PL (fun v=>decide (v∈q)) (gt P i) k:=rfl
 obtain ⟨t,ht⟩:∃t,t=U0 PL (fun v=>decide (v∈q)) (gt P i) k:=⟨_,rfl⟩
 rw [<-ht] at u f
 by_cases A:(gt PL k).1=gt P i
 case neg=>
  simp only [n29,s,a,b,n,g,M,QE,c,l0,V,N,U,S,Nn A,SB,seval,NJ,NF]
  refine J (k+1) _ _ ⟨by omega,by omega,⟨s,F,a,d,m⟩,b, ?_,rfl,r.app⟩ (by omega)
  rw [u,Nf fun h=>A h.2.1];exact f
 by_cases H:k∈q
 case neg=>
  have hz:gt hw k=none:=by
   cases e:gt hw k with
   | none=>rfl
   | some x=>exact absurd ((B.iff k c).1 (by rw [e];rfl)) H
  rw [hz] at D
  have o:¬0<=XF none:=by show ¬(0:Int)<=-1;decide
  simp only [n29,s,a,d,b,n,g,M,QE,c,l0,V,N,U,S,Nq A,D,T,Nn o,SB,seval,NJ,NF]
  refine J (k+1) _ _ ⟨by omega,by omega,⟨s,F,a,d,m⟩,b, ?_,rfl,r.app⟩ (by omega)
  rw [u,Nf fun h=>H (Ru h.2.2.1)];exact f
 obtain ⟨x,hx⟩:∃x,gt hw k=some x:=Option.isSome_iff_exists.1 ((B.iff k c).2 H)
 rw [hx] at D
 have o:0<=XF (some x):=by show (0:Int)<=((x / 2:Nat):Int);omega
 by_cases I:t<0
 ·rw [Nk ⟨L,A,No H,.inl I⟩] at u
  simp only [n29,s,a,d,b,f,n,g,M,QE,c,l0,V,N,U,S,Nq A,D,T,Nq o,Nq I,l1,SB,seval,NJ,NF]
  refine J (k+1) _ _ ⟨by omega,by omega,⟨s,F,a,d,m⟩,b, ?_,rfl,r.app⟩ (by omega)
  rw [u];exact rfl
 by_cases c4:(gt PL k).2<t
 ·rw [Nk ⟨L,A,No H,.inr c4⟩] at u
  simp only [n29,s,a,d,b,f,n,g,M,QE,c,l0,V,N,U,S,Nq A,D,T,Nq o,Nn I,l1,Nq c4,SB,seval,NJ,NF]
  refine J (k+1) _ _ ⟨by omega,by omega,⟨s,F,a,d,m⟩,b, ?_,rfl,r.app⟩ (by omega)
  rw [u];exact rfl
 ·rw [Nf fun h=>h.2.2.2.elim I c4] at u
  simp only [n29,s,a,d,b,f,n,g,M,QE,c,l0,V,N,U,S,Nq A,D,T,Nq o,Nn I,l1,Nn c4,SB,seval,NJ,NF]
  refine J (k+1) _ _ ⟨by omega,by omega,⟨s,F,a,d,m⟩,b, ?_,rfl,r.app⟩ (by omega)
  rw [u];exact f
theorem Nhi [OB] {G0:NB} (Y:Rch l PL.length hw q q.length 0) (h2:2<=PL.length) (W:PL.length<2 ^ 21) (hP:PlR PL to) (am:P.length<2 ^ 20) (h4:NC G0 B4=Vc (QJ pn P.length cn pl nl cl)) (T:NC G0 B11=Vc (Ta (.slice pp PL.length cp) y z w)) (sP:Sl G0 encI 1 pn P) (sp:Sl G0 enc2 2 pp PL) (sh:Sl G0 Xn 2 ph hw) (H:lim<=G0.length)
  (hf:BD fr B4 B8 B11 G0.length (.slice ph PL.length ch)) (f15:fr 15=Vi 0) (hC:Chg [] G0 G) (hb:NC G G0.length=Vc [Vz,Vz]) (ag:G0.length+1<=G.length)
  (hR:∀fr' G' pt ct,BD fr' B4 B8 B11 G0.length (.slice ph PL.length ch)->Own (G0.length+1) G' encI 1 pt ct (Sm (tmT PL (fun v=>decide (v∈q))) P)->NC G' G0.length=Vc [.slice pt P.length ct,Vz]->Chg [] G0 G'->G0.length+1<=G'.length->PI E a29 lim K fr' G' Q) :
  PI E a29 lim (.code (.loop Nu1)::.inBlock 0::K) fr G Q:=by
 obtain ⟨c,o⟩:∃c,c=Sm (tmT PL (fun v=>decide (v∈q))) P:=⟨_,rfl⟩
 have an:c.length=P.length:=by rw [o];unfold Sm;simp
 have aa:∀i,i<P.length->gt c i=U0 PL (fun v=>decide (v∈q)) (gt P i) PL.length:=fun i hi=>by
  rw [o,Nvv hi,Nxf hP]
 rw [<-o] at hR
 refine NM (fun z:Nat×Option Addr×Nat=>P.length-z.1) (fun z k G'=>z.1<=P.length/\BD k B4 B8 B11 G0.length (.slice ph PL.length ch)/\k 15=Vi z.1/\Own (G0.length+1) G' encI 1 z.2.1 z.2.2 (c.take z.1)/\NC G' G0.length=Vc [.slice z.2.1 z.1 z.2.2,Vz]/\Chg [] G0 G'/\G0.length+1<=G'.length) (0,none,0)
  ⟨Nv _,hf,f15,by rw [Qn];exact .nil,hb,hC,ag⟩ ?_
 rintro ⟨j,pt,ct⟩ k G' ⟨hj,⟨N,q8,I,J,L⟩,g,M,p,d,aj⟩ hN
 simp only at hj g M p
 rw [NQ Nu1.eq_1]
 have k4:=fun Z=>(NZ.refl.app (X:=Z)).cells (d.cells h4 (by simp))
 refine NI ?_
 by_cases r:j<P.length
 case neg=>
  obtain rfl:j=P.length:=by omega
  simp only [n29,N,g,k4,QE,SB,seval,NJ,NF]
  rw [Oo (by omega)] at M
  exact hR _ _ pt ct ⟨N,q8,I,J,L⟩ (M.app _) ((NZ.refl.app).cells p) d.app (by simp;omega)
 simp only [n29,N,g,k4,QE,r,SB,seval,NJ,NF]
 refine Noq (i:=j) Y h2 W hP (k4 _) ((NZ.refl.app).cells (d.cells T (by simp))) ((d.ext.sl sP).app _) ((d.ext.sl sp).app _) ((d.ext.sl sh).app _) r ⟨N,q8,I,J,L⟩ g rfl rfl fun ak s ad S u V=>?_
 obtain ⟨g4,g8,O,R,t⟩:=ad
 rw [<-aa j r] at u
 have f:NZ G' s:=NZ.trans (NZ.refl.app) V
 have ao:=f.len
 have n:Own (G0.length+1) s encI 1 pt ct (c.take j):=M.chg (A:=[]) f.chg fun _ _ h=>by cases h
 have C:=f.cells p
 have U:=d.trans f.chg
 have F:(c.take j).length=j:=by rw [N6];omega
 have w1:IntKind.i64.wrap ((j:Int)+1)=((j+1:Nat):Int):=NS (by omega)
 obtain ⟨G4,e4,O4,C4,ae⟩:=Own.moreF n (lim':=lim) (bytes:=8) (by omega) OU (by decide) [gt c j] (by simp) (by simp;unfold PM;omega) (by simp;omega) [Vc [Vi (gt c j)]] (x:=.slice (Sa s.length) 1 1) (str:=false)
  (QG (m:=[gt c j]) (Sl.row (ro:=false) OU NN)) rfl
 rw [F] at e4
 simp only [Nb,Nj,Nl,N0] at e4 O4 ae
 have ai:G0.length∉PZ pt:=fun hm=>by
  obtain ⟨a,B,e⟩:=NT.1 hm
  have:=(n.block B).1;omega
 have D:=C4.cells C ai
 obtain ⟨G5,e5,k5,m5⟩:=OO (ND D) (Vc [.slice (Sa (s.length+1)) (j+1) (loose 1),Vz])
 have ap:=m5.len
 have k3:=fun Z=>(NZ.refl.app (X:=Z)).cells C
 have ah:=fun Z=>(NZ.refl.app (X:=Z)).cells D
 refine NI ?_
 simp only [n29,t,S,u,k3,e4,ah,e5,H,w1,SB,seval,NJ,NF,place,NA]
 refine hN (j+1,Sa (s.length+1),loose 1) _ _ ⟨by show j+1<=_;omega,⟨g4,g8,O,R,t⟩,rfl, ?_,(NZ.refl.app).cells k5, ?_,by simp;omega⟩ (by show P.length-(j+1)<P.length-j;omega)
 ·show Own (G0.length+1) (G5++[]) encI 1 _ _ (c.take (j+1))
  rw [QH (by omega)]
  exact ((O4.le (by omega)).mut m5 fun a B e=>by cases B;simp only at e;omega).app _
 ·refine (Chg.mut ⟨by omega,fun b ac _=>?_⟩ m5 (.inr (Ng _))).app
  rw [C4.other b (by omega) fun hm=>by
   obtain ⟨a,B,rfl⟩:=NT.1 hm
   have:=(n.block B).1;omega]
  exact U.other b ac (by simp)
end
theorem Nq6 {T:Int->Option Int} {C:List (Leg×Int)} {j:Nat} (h:j<C.length):TE T (C.take (j+1))=TE T (C.take j)++(if WN T (gt C j)=true then [Tv (gt C j)] else []):=by
 unfold TE
 rw [QH h,List.filter_append,Pe]
 congr 1
 by_cases a:WN T (gt C j)=true
 ·rw [Nk a,Q6 a];rfl
 ·rw [Nf a,Q7 a];rfl
section
variable {lim B4 B8 B11 cp ch ca cq:Nat} {pp ph pa pq:Option Addr} {y:Value} {PL:List (Int×Int)} {hw:List (Option Nat)} {q:List Nat} {l:List Pr} {C:List (Leg×Int)} {T:Int->Option Int} {to:Int} {G:NB} {fr:Nat->Value} {K:List AItem} {Q:Value->NB->Prop}
theorem Niy [OB] {G0:NB} {nt:Nat} {pt:Option Addr} {ct:Nat} {TL:List Int} (F:Rch l PL.length hw q q.length 0) (a1:PL.length<2 ^ 21) (a0:C.length<2 ^ 20) (a5:C.length<=l.length)
  (ak:∀j,j<C.length->(gt l j).tail<PL.length/\(gt l j).head<PL.length/\WN T (gt C j)=(decide ((gt l j).tail∈q)&&!decide ((gt l j).head∈q)))
  (ah:NC G0 B11=Vc (Ta (.slice pp PL.length cp) (.slice pa l.length ca) y (.slice pq C.length cq))) (sa:Sl G0 SA 4 pa l) (sq:Sl G0 QI 4 pq (C.map Tv)) (sh:Sl G0 Xn 2 ph hw) (W:lim<=G0.length)
  (hf:BD fr B4 B8 B11 G0.length (.slice ph PL.length ch)) (f18:fr 18=Vi 0) (hC:Chg [] G0 G) (ai:Own (G0.length+1) G encI 1 pt ct TL) (hb:NC G G0.length=Vc [.slice pt nt ct,Vz]) (an:G0.length+1<=G.length)
  (hR:∀fr' G' pd cd,BD fr' B4 B8 B11 G0.length (.slice ph PL.length ch)->Own (G0.length+1) G' encI 1 pt ct TL->Own (G0.length+1) G' QI 4 pd cd (TE T C)->NC G' G0.length=Vc [.slice pt nt ct,.slice pd (TE T C).length cd]->Chg [] G0 G'->G0.length+1<=G'.length->PI E a29 lim K fr' G' Q) :
  PI E a29 lim (.code (.loop Nnv)::.inBlock 4::K) fr G Q:=by
 refine NM (fun z:Nat×Option Addr×Nat=>C.length-z.1) (fun z B G'=>z.1<=C.length/\BD B B4 B8 B11 G0.length (.slice ph PL.length ch)/\B 18=Vi z.1/\Own (G0.length+1) G' encI 1 pt ct TL/\Own (G0.length+1) G' QI 4 z.2.1 z.2.2 (TE T (C.take z.1))/\(∀b∈PZ pt,b∉PZ z.2.1)/\NC G' G0.length=Vc [.slice pt nt ct,.slice z.2.1 (TE T (C.take z.1)).length z.2.2]/\Chg [] G0 G'/\G0.length+1<=G'.length) (0,none,0)
  ⟨Nv _,hf,f18,ai,by rw [Qn];exact .nil,fun b _=>by simp [PZ],hb,hC,an⟩ ?_
 rintro ⟨j,pd,cd⟩ B G' ⟨hj,⟨q4,q8,g,n,t⟩,u,f,D,J,p,k,az⟩ hN
 simp only at hj u D J p
 rw [NQ Nnv.eq_1]
 have s:=fun Z=>(NZ.refl.app (X:=Z)).cells (k.cells ah (by simp))
 unfold Ta at s
 refine NI ?_
 by_cases r:j<C.length
 case neg=>
  obtain rfl:j=C.length:=by omega
  simp only [n29,g,u,s,SB,seval,NJ,NF]
  rw [Of] at D p
  exact hR _ _ pd cd ⟨q4,q8,g,n,t⟩ (f.app _) (D.app _) ((NZ.refl.app).cells p) k.app (by simp;omega)
 obtain ⟨w,M,i3⟩:=ak j r
 obtain ⟨v1,aa⟩:∃v,v=(gt l j).tail:=⟨_,rfl⟩
 obtain ⟨v2,ac⟩:∃v,v=(gt l j).head:=⟨_,rfl⟩
 rw [<-aa] at w i3
 rw [<-ac] at M i3
 have ao:=F.len
 have O:=k.ext.sl sa
 have ag:=k.ext.sl sq
 have ae:=k.ext.sl sh
 have ap:(C.map Tv).length=C.length:=by simp
 have N:∀Z,AM.loadCell (G'++Z) ((SX pa 4 j).add 0)=some (Vi v1):=fun Z=>by
  rw [aa];exact (O.app Z).loadCell QC (i:=j) (by omega) (j:=0) (by decide)
 have ad:∀Z,AM.loadCell (G'++Z) ((SX pa 4 j).add 1)=some (Vi v2):=fun Z=>by
  rw [ac];exact (O.app Z).loadCell QC (i:=j) (by omega) (j:=1) (by decide)
 have xa:=QN O (i:=j) (by omega) rfl
 have lh:∀v,v<PL.length->∀Z,AM.loadCell (G'++Z) ((SX ph 2 v).add 0)=some (Vi (XF (gt hw v))):=fun v hv Z=>(ae.app Z).loadCell RP (i:=v) (by omega) (j:=0) (by decide)
 have xh:∀v,v<PL.length->∀(c:Nat) (kk:IntKind) (H1:NB),Vh 2 (.slice ph PL.length c) (.int kk (v:Int)) H1=some (.pointer (some (SX ph 2 v)),H1):=fun v hv=>by
  have:=QN ae (i:=v) (by omega) rfl
  rw [ao] at this;exact this
 have P:∀v,v<PL.length->v∈q->0<=XF (gt hw v):=fun v hv L=>by
  obtain ⟨x,hx⟩:=Option.isSome_iff_exists.1 ((F.iff v hv).2 L)
  rw [hx];show (0:Int)<=((x / 2:Nat):Int);omega
 have no:∀v,v<PL.length->v∉q->XF (gt hw v)<0:=fun v hv L=>by
  cases e:gt hw v with
  | none=>show (-1:Int)<0;decide
  | some x=>exact absurd ((F.iff v hv).1 (by rw [e];rfl)) L
 have w1:IntKind.i64.wrap ((j:Int)+1)=((j+1:Nat):Int):=NS (by omega)
 have a2:(TE T (C.take j)).length<=j:=by
  have:=Ncz (T:=T) (C:=C.take j)
  rw [N6] at this;omega
 have es:=Nq6 (T:=T) r
 have skip:WN T (gt C j)=false->∀A Z,BD A B4 B8 B11 G0.length (.slice ph PL.length ch)->A 18=Vi ((j+1:Nat):Int)->PI E a29 lim (.inLoop Nnv::.inBlock 4::K) A (G'++Z) Q:=fun ho A Z aj f3=>by
  rw [ho,Nf (by simp),Na] at es
  exact hN (j+1,pd,cd) _ _ ⟨by show j+1<=_;omega,aj,f3,f.app _,by show Own _ _ QI 4 pd cd (TE T (C.take (j+1)));rw [es];exact D.app _,J,by show NC _ _=Vc [_,.slice pd (TE T (C.take (j+1))).length cd];rw [es];exact (NZ.refl.app).cells p,k.app,by simp;omega⟩ (by show C.length-(j+1)<C.length-j;omega)
 by_cases S:v1∈q
 case neg=>
  have aq:¬0<=XF (gt hw v1):=by have:=no v1 w S;omega
  simp only [n29,g,n,u,s,r,N,xa,lh _ w,xh _ w,w1,Nn aq,SB,seval,NJ,NF]
  exact skip (by rw [i3,Nx S];rfl) _ _ ⟨q4,q8,g,n,t⟩ rfl
 by_cases c2:v2∈q
 ·have au:¬XF (gt hw v2)<0:=by have:=P v2 M c2;omega
  simp only [n29,g,n,u,s,r,N,ad,xa,lh _ w,xh _ w,lh _ M,xh _ M,w1,Nq (P v1 w S),Nn au,SB,seval,NJ,NF]
  exact skip (by rw [i3,No S,No c2];rfl) _ _ ⟨q4,q8,g,n,t⟩ rfl
 have ho:WN T (gt C j)=true:=by rw [i3,No S,Nx c2];rfl
 rw [ho,Nk rfl] at es
 have lD:∀Z,AM.loadCells (G'++Z) (SX pq 4 j) 4=some (QI (Tv (gt C j))):=fun Z=>by
  have:=(ag.app Z).loadCells NU (i:=j) (by omega)
  rw [OJ (by omega),Qy,<-OJ r] at this;exact this
 have xD:=QN ag (i:=j) (by omega) rfl
 rw [ap] at xD
 obtain ⟨G3,p3,c3,e3,O3,C3,U,am,av,_⟩:=D.moreD (lim':=lim) (d:=G'.length+1) (bytes:=32) (by omega) NU (by decide) [Tv (gt C j)] (by simp;unfold PM;omega) (by simp;omega) (by omega) [Vc (QI (Tv (gt C j))),.dead] (by omega) (by simp) (x:=.slice (Sa G'.length) 1 1) (str:=false)
  (QG (m:=[Tv (gt C j)]) (Sl.row (ro:=false) NU (by rw [NN];simp))) rfl
 have Y:=av (by simp)
 subst Y
 simp only [Nj,Nl,N0] at e3 O3 U am
 have ay:G0.length∉PZ pd:=fun L=>by
  obtain ⟨a,o,e⟩:=NT.1 L
  have:=(D.block o).1;omega
 have I:=(U G0.length (by omega) fun a o e=>ay (NT.2 ⟨a,o,e.symm⟩)).trans p
 rw [Na] at I O3 U C3
 obtain ⟨G5,e5,k5,m5⟩:=OO (ND I) (Vc [.slice pt nt ct,.slice (Sa (G'.length+1)) ((TE T (C.take j)).length+1) c3])
 have a3:=m5.len
 have kb:=fun Z=>(NZ.refl.app (X:=Z)).cells p
 have aw:=fun Z=>(NZ.refl.app (X:=Z)).cells I
 simp only [n29,g,n,t,u,s,r,N,ad,xa,lh _ w,xh _ w,lh _ M,xh _ M,w1,Nq (P v1 w S),Nq (no v2 M c2),kb,lD,xD,NU,e3,aw,e5,NL,W,SB,seval,NJ,NF,place,NA]
 refine hN (j+1,Sa (G'.length+1),c3) _ _ ⟨by show j+1<=_;omega,⟨q4,q8,g,n,t⟩,rfl, ?_, ?_,fun b H L=>?_, ?_, ?_,by simp;omega⟩ (by show C.length-(j+1)<C.length-j;omega)
 ·have V:Own (G0.length+1) G3 encI 1 pt ct TL:=by
   rcases f with h | ⟨R,h1,h2,h3,h4⟩
   ·exact .inl h
   ·exact .inr ⟨R,h1,h2,by rw [U R (ND h3) fun a o e=>J R (NT.2 ⟨_,h1,rfl⟩) (NT.2 ⟨a,o,e.symm⟩)];exact h3,h4⟩
  exact (V.mut m5 fun a o e=>by have:=(f.block o).1;omega).app _
 ·show Own _ _ QI 4 _ _ (TE T (C.take (j+1)))
  rw [es]
  exact (O3.mut m5 fun a o e=>by cases o;simp only at e;omega).app _
 ·simp only [PZ,Ni] at L
  obtain ⟨a,o,e⟩:=NT.1 H
  have:=(f.block o).2;omega
 ·show NC _ _=Vc [_,.slice _ (TE T (C.take (j+1))).length _]
  rw [es,Nb,Ow]
  exact (NZ.refl.app).cells k5
 ·refine (Chg.mut ⟨by omega,fun b H _=>?_⟩ m5 (.inr (Ng _))).app
  rw [U b (by omega) fun a o e=>by have:=(D.block o).1;omega]
  exact k.other b H (by simp)
end
theorem N0y {PL:List (Int×Int)} {to dl:Int} {s:List Flow.Src} {C:List (Leg×Int)} {l:List Pr} {q:List Nat} {T:Int->Option Int} (a:GrR PL to dl s C) (r:Flow.Alike (grR PL to dl s C) l) (d:T to=none) (h1:1∉q) (h:∀v,2<=v->v<PL.length->decide (v∈q)=!late T (gt PL v).1 (gt PL v).2) {j:Nat} (b:j<C.length) :
  (gt l j).tail<PL.length/\(gt l j).head<PL.length/\WN T (gt C j)=(decide ((gt l j).tail∈q)&&!decide ((gt l j).head∈q)):=by
 obtain ⟨e1,e2⟩:=r.gts j
 have p:gt (grR PL to dl s C) j=XA PL to (gt C j):=by
  unfold grR
  rw [Nr,Tk (by simpa using b),OJ (by simpa using b),OJ b,Qy]
 rw [e1,e2,p]
 obtain ⟨⟨w,t,u⟩,k⟩:=a.way _ (PK b)
 obtain ⟨m,c,n⟩:=a.pl.at t u
 have f:=h _ m c
 rw [n] at f
 show PL.idxOf _<PL.length/\X3 PL to _ _<PL.length/\_=(decide (PL.idxOf _∈q)&&!decide (X3 PL to _ _∈q))
 have h2:=a.pl.two
 unfold WN X3
 by_cases e:(gt C j).1.dst=to
 ·rw [Nk e,f,Nx h1]
  refine ⟨c,by omega, ?_⟩
  have:late T (gt C j).1.dst ((gt C j).2+(gt C j).1.mins)=true:=by unfold Flow.late;rw [e,d]
  rw [this];rfl
 ·obtain ⟨b1,g,o⟩:=a.pl.at (k e).1 (k e).2
  have i:=h _ b1 g
  rw [o] at i
  rw [Nf e,f,i,Bool.not_not]
  exact ⟨c,g,rfl⟩
theorem Nsx [OB] {lim:Nat} {pn pl ps:Option Addr} {P:List Int} {L:List Leg} {s:List Flow.Src} {cn cl cs:Nat} {to dl:Int} {H:NB} {Q:Value->NB->Prop} (hn:NetIn H pn pl P L) (hs:Sl H encS 3 ps s) (v:s.length<2 ^ 63) (K:QB P L=0->L.length<=8) (a0:lim<=H.length)
  (U:∀G,OC P L s to dl≠0->Chg [] H G->Q (.tuple #[.agg #[Vz,Vz],Vi (OC P L s to dl)]) G)
  (Y:∀G pt ct pd cd D,OC P L s to dl=0->Own H.length G encI 1 pt ct (Sm (VL s (NP L to dl) to dl) P)->Own H.length G QI 4 pd cd D->D.Perm (TE (VL s (NP L to dl) to dl) (NP L to dl))->D.Pairwise (fun x y=>¬RH y x)->Chg [] H G->Q (.tuple #[.agg #[.slice pt P.length ct,.slice pd D.length cd],Vi 0]) G) :
  NR E false lim 29 [.agg (QJ pn P.length cn pl L.length cl).toArray,.slice ps s.length cs,Vi to,Vi dl] H Q:=by
 refine Te (by decide) e29 rfl ?_
 rw [b29,c29]
 refine NI ?_
 have g:lim<=H.length+1:=by omega
 by_cases c:OC P L s to dl=0
 case neg=>
  simp only [n29,r29,OG,g,Vd (hn.app _) (hs.app _) v,Nn c,SB,seval,NE,NJ,NF,NH,place,NA,NG]
  exact U _ c Chg.refl.app
 have hA:=S9 c
 have J:=K (RX c)
 have f:=(Nn9 hn hs v K c).1
 obtain ⟨T,R⟩:∃T,T=VL s (NP L to dl) to dl:=⟨_,rfl⟩
 rw [<-R] at Y f
 simp only [n29,OG,Vd (hn.app _) (hs.app _) v,c,SB,seval,NE,NJ,NF,NH,place,NA]
 refine Ne0 (hn.app _) (hs.app _) c J (by simp;omega) fun G1 pp cp pa ca pq cq C PL r ap k ah u i=>?_
 have an:=i.len
 obtain ⟨op,oa,oq,dj⟩:=ah
 simp only [Nb,Nj,Nl] at an op oa oq
 have a3:C.length<=112:=by
  have:=SC (to:=to) (dl:=dl) hA.net.fine
  rw [r.length_eq];omega
 have b41:NC G1 H.length=Vc (QJ pn P.length cn pl L.length cl):=i.cells NN (by simp)
 have b81:NC G1 (H.length+1)=Vc [Vz,Vz]:=i.cells OL (by simp)
 refine NI ?_
 unfold Ta
 simp only [n29,show lim<=G1.length by omega,SB,seval,NE,NJ,place,NA]
 refine Nm0 (pp:=pp) (cp:=cp) (pa:=pa) (ca:=ca) (vq:=.slice pq C.length cq) (M:=H.length+2) hA J r k u (oa.app _) (by omega) (by simp;omega) fun w ph ch hw q l A hR hT ad S t ag d=>?_
 have ao:=d.len
 simp only [Nb,Nj,Nl] at ao t
 rw [<-R] at hT S
 have av:∀b,b∈PZ pa->H.length+2<=b/\b<G1.length:=fun b hb=>by
  obtain ⟨a,c,rfl⟩:=NT.1 hb
  have:=oa.block c;omega
 have nn:∀b,b<H.length+2\/G1.length<=b->b∉PZ pa:=fun b hb W=>by have:=av b W;omega
 have ac:=d.cells ((NZ.refl.app).cells b41) (nn _ (by omega))
 have b82:=d.cells ((NZ.refl.app).cells b81) (nn _ (by omega))
 have m:=d.cells NN (nn _ (.inr (Ng _)))
 have I:Chg [] H w:=((Chg.pre i).app).trans' d fun j hj a8=>absurd hj (nn j (by omega))
 have aw:Sl w encI 1 pn P:=I.ext.sl hn.sp
 have ay:Sl w enc2 2 pp PL:=d.sl ((op.sl PO).app _) fun a c _ W=>(dj _ W).1 (NT.2 ⟨a,c,rfl⟩)
 have az:Sl w QI 4 pq (C.map Tv):=d.sl ((oq.sl NU).app _) fun a c _ W=>(dj _ W).2 (NT.2 ⟨a,c,rfl⟩)
 have V:l.length=(grR PL to dl s C).length:=A.len
 have F:C.length<=l.length:=by
  rw [V];unfold grR;rw [Nb,Nb,Ou];omega
 refine NI ?_
 simp only [n29,SB,seval,NJ,place]
 refine Nhi (G0:=w) (B4:=H.length) (B8:=H.length+1) (B11:=G1.length) (ph:=ph) (ch:=ch) hR k.pl.two u k.pl (by have:=(UX (RX c)).1;omega) ac m aw ay (t.sl RP) (by omega) ⟨rfl,rfl,rfl,rfl,rfl⟩ rfl Chg.refl.app NN (by simp) fun a1 G3 pt ct ak N ai ae a5=>?_
 obtain ⟨g4,g8,o,p,h⟩:=ak
 rw [hT] at N
 refine NI ?_
 simp only [n29,SB,seval,NJ]
 refine Niy (G0:=w) (B4:=H.length) (B8:=H.length+1) (B11:=G1.length) (ph:=ph) (ch:=ch) (pq:=pq) (cq:=cq) (pa:=pa) (ca:=ca) (T:=T) (l:=l) (C:=C) hR u (by omega) F (fun j hj=>N0y k A f.no ad S hj) (by rw [V];exact m) (ag.sl QC) az (t.sl RP) (by omega) ⟨g4,g8,o,p,h⟩ rfl ae.app (N.app _) ((NZ.refl.app).cells ai) (by simp;omega) fun a2 G4 pd cd am O n aj B a6=>?_
 clear g4 g8 o p h
 obtain ⟨g4,g8,o,p,h⟩:=am
 have z:=B.cells b82 (by simp)
 obtain ⟨G5,e5,k5,m5⟩:=OO (ND z) (Vc [.slice pt P.length ct,.slice pd (TE T C).length cd])
 have k4:=fun Z=>(NZ.refl.app (X:=Z)).cells aj
 have au:=fun Z=>(NZ.refl.app (X:=Z)).cells z
 have aq:=fun Z=>(NZ.refl.app (X:=Z)).cells k5
 refine NI ?_
 simp only [n29,r29,g8,h,k4,au,e5,aq,g,SB,seval,NJ,NA,NG]
 have hp:(TE T C).Perm (TE T (NP L to dl)):=(r.filter _).map _
 have aa:(TE T C).Sublist (C.map Tv):=(List.filter_sublist).map _
 refine Y _ pt ct pd cd (TE T C) c (((O.le (by omega)).mut m5 fun a c e=>by have:=(O.block c).1;omega).app _) (((n.le (by omega)).mut m5 fun a c e=>by have:=(n.block c).1;omega).app _) hp (ap.sublist aa) (((I.trans B).mut m5 (.inr (by omega))).app)
end Go.Proofs.YtohnaffmcjbpoaaGreat.Fn


namespace Go.Flow
open Go.AM Go.Net
theorem Ntx:∀{l:List Int},l≠[]->∃m∈l,∀y∈l,y<=m
 | [],h=>absurd rfl h
 | [a],_=>⟨a,by simp,fun y c=>by simp only [Ni] at c;omega⟩
 | a::b::l,_=>by
   obtain ⟨m,e,d⟩:=Ntx (l:=b::l) (by simp)
   rcases Int.le_total a m with h | h
   ·exact ⟨m,Nh _ e,fun y c=>by
     rcases Nu.1 c with h1 | h1
     ·omega
     ·exact d y h1⟩
   ·exact ⟨a,Nm,fun y c=>by
     rcases Nu.1 c with h1 | h1
     ·omega
     ·have:=d y h1;omega⟩
theorem Njo {p u t:Int}:∀{ch:List Cg},u<=t->(∀y∈ch,y.1=p->u<y.2.1->y.2.1<=t->0<=y.2.2)->QQ p u ch<=QQ p t ch
 | [],_,_=>Oa _
 | x::ch,hu,h=>by
   have ih:=Njo (ch:=ch) hu fun y c=>h y (Nh _ c)
   have b:=h x Nm
   rw [QQ,QQ]
   by_cases h1:x.1=p
   ·by_cases h2:x.2.1<=u
    ·rw [Nk ⟨h1,h2⟩,Nk ⟨h1,by omega⟩];omega
    ·by_cases a:x.2.1<=t
     ·rw [Nf fun q=>h2 q.2,Nk ⟨h1,a⟩]
      have:=b h1 (by omega) a
      omega
     ·rw [Nf fun q=>h2 q.2,Nf fun q=>a q.2];omega
   ·rw [Nf fun q=>h1 q.1,Nf fun q=>h1 q.1];omega
theorem Noa {p t:Int}:∀{ch:List Cg},(∀y∈ch,y.1=p->y.2.1<=t->0<=y.2.2)->0<=QQ p t ch
 | [],_=>Oa _
 | x::ch,h=>by
   have ih:=Noa (ch:=ch) fun y b=>h y (Nh _ b)
   have a:=h x Nm
   rw [QQ]
   split
   ·rename_i hc;have:=a hc.1 hc.2;omega
   ·omega
theorem Nrm {ch:List Cg} {p:Int} (h:∀x∈ch,x.1=p->x.2.2<0->0<=QQ p x.2.1 ch) (t:Int):0<=QQ p t ch:=by
 by_cases hn:((ch.filter fun x=>decide (x.1=p/\x.2.1<=t/\x.2.2<0)).map fun x=>x.2.1)=[]
 ·refine Noa fun y c h1 h2=>?_
  apply Oq
  intro d
  rw [List.map_eq_nil_iff,List.filter_eq_nil_iff] at hn
  exact hn y c (by simp only [N3];exact ⟨h1,h2,by omega⟩)
 ·obtain ⟨m,e,f⟩:=Ntx hn
  obtain ⟨x,b,rfl⟩:=List.mem_map.1 e
  obtain ⟨b,a⟩:=Pn.1 b
  simp only [N3] at a
  refine Int.le_trans (h x b a.1 a.2.2) (Njo a.2.1 fun y c h1 h2 d=>?_)
  apply Oq
  intro g
  have:=f y.2.1 (List.mem_map.2 ⟨y,Pn.2 ⟨c,by simp only [N3];exact ⟨h1,d,by omega⟩⟩,rfl⟩)
  omega
def YF (y x:Ld):Prop:=y.leg=x.leg/\y.dep=x.dep/\y.arr=x.arr/\1<=x.gr/\x.gr<=y.gr
instance (y x:Ld):Decidable (YF y x):=by unfold YF;infer_instance
def okR (O ld:List Ld) (i:Nat):Prop:=(O.any fun y=>decide (YF y (gt ld i)))=true/\(0<i->RH (gt ld (i-1)) (gt ld i))
theorem Nm9 {C:List (Leg×Int)} {O ld:List Ld} {i:Nat} (j:∀c∈C,∀d∈C,SH c=SH d->c.1=d.1) (hp:O.Perm (C.map Tv)):okR O ld i↔okX C ld i:=by
 unfold okR okX
 refine and_congr ?_ Iff.rfl
 constructor
 ·intro h
  obtain ⟨y,k,b⟩:=List.any_eq_true.1 h
  obtain ⟨c,hc,rfl⟩:=List.mem_map.1 (hp.mem_iff.1 k)
  simp only [N3] at b
  obtain ⟨h1,h2,a,f,g⟩:=b
  refine ⟨c.1, ?_,f,g⟩
  have e:UD (gt ld i)=SH c:=by
   unfold UD SH
   rw [<-h1,<-h2,<-a];rfl
  rw [e]
  exact Nnl j c hc
 ·rintro ⟨l,h1,h2,a⟩
  obtain ⟨c,k1,k2,k3⟩:=TS h1
  subst k3
  refine List.any_eq_true.2 ⟨Tv c,hp.mem_iff.2 (List.mem_map.2 ⟨c,k1,rfl⟩), ?_⟩
  simp only [N3]
  unfold SH UD at k2
  simp only [Prod.mk.injEq] at k2
  exact ⟨k2.1,k2.2.1,k2.2.2,h2,a⟩
theorem Njs {to dl:Int}:∀{s:List Src},QQ to dl (RA s)=Tt to dl s
 | []=>rfl
 | x::s=>by
   show (if x.pl=to/\x.rd<=dl then x.gr else 0)+QQ to dl (RA s)=_
   rw [Njs];rfl
theorem Nju {C:List (Leg×Int)} {to dl:Int}:∀{ld:List Ld},(∀x∈ld,(Uc C x).frm≠to/\x.arr<=dl)->QQ to dl (ld.flatMap (Xg C))=SE C to ld
 | [],_=>rfl
 | x::ld,h=>by
   obtain ⟨h1,h2⟩:=h x Nm
   rw [N2,Ug,Nju fun y b=>h y (Nh _ b),SE]
   congr 1
   show (if (Uc C x).frm=to/\x.dep-(Uc C x).cut<=dl then -x.gr else 0)+((if (Uc C x).dst=to/\x.arr<=dl then x.gr else 0)+0)=_
   rw [Nf fun q=>h1 q.1]
   by_cases a:(Uc C x).dst=to
   ·rw [Nk ⟨a,h2⟩,Nk a];omega
   ·rw [Nf fun q=>a q.1,Nf a];rfl
end Go.Flow


namespace Go.Proofs.YtohnaffmcjbpoaaGreat.Fn
open Go.AM Go.AM.Sym Go.Net Go.Flow
section
variable {P:List Int} {L:List Leg} {s:List Flow.Src} {ld:List Flow.Ld} {to dl:Int}
theorem Na8 (g:QB P L=0) {x:Flow.Ld} {b:Leg} (h:Vo (NP L to dl) (UD x)=some b):Wu L x.leg=b/\Uc (NP L to dl) x=b/\b∈L/\b.frm≠to/\0<=x.dep/\x.dep<=dl/\x.arr<=dl:=by
 obtain ⟨c,h1,h2,j⟩:=TS h
 obtain ⟨f,m,d,_,n,o,p⟩:=QT h1
 have k:=(UX g).2.2.2
 subst j
 unfold SH UD at h2
 simp only [Prod.mk.injEq] at h2
 obtain ⟨k1,k2,k3⟩:=h2
 refine ⟨?_,by unfold Uc;rw [h];rfl,f,m,by omega, ?_,by omega⟩
 ·unfold Wu
  cases hf:L.find? (fun l=>l.id=x.leg) with
  | none=>
    rw [List.find?_eq_none] at hf
    exact absurd (by simpa using k1) (hf _ f)
  | some l'=>
    have e1:=R7 hf
    simp only [N3] at e1
    show l'=c.1
    exact ZK g (Ri hf) f (e1.trans k1.symm)
 ·obtain ⟨i,hi,e⟩:=List.mem_iff_getElem.1 f
  have a:=(k i hi).1
  rw [OJ hi,e] at a
  unfold Fine at a
  omega
theorem Nn6 (b:QB P L=0) (a:∀i,i<ld.length->okX (NP L to dl) ld i):ld.flatMap (chR L)=ld.flatMap (Xg (NP L to dl)):=by
 have:∀x∈ld,chR L x=Xg (NP L to dl) x:=fun x c=>by
  obtain ⟨i,hi,rfl⟩:=List.mem_iff_getElem.1 c
  obtain ⟨⟨d,h1,_,_⟩,_⟩:=a i hi
  rw [OJ hi] at h1
  obtain ⟨e1,e2,_⟩:=Na8 b h1
  unfold chR Xg
  rw [e1,e2]
 rw [Sb,Sb,P6 this]
theorem Nvz (d:OC P L s to dl=0) (b:∀i,i<ld.length->okX (NP L to dl) ld i):X5 (NP L to dl) s ld↔∀i,i<ld.length->0<=QQ (Wu L (gt ld i).leg).frm ((gt ld i).dep-(Wu L (gt ld i).leg).cut) (RA s++ld.flatMap (chR L)):=by
 have f:=S9 d
 have e:=RX d
 rw [Nn6 e b]
 constructor
 ·intro h i _;exact h.2 _ _
 ·intro h
  refine ⟨b,fun p t=>Nrm (fun x hx h1 h2=>?_) t⟩
  rcases Nw.1 hx with hx | hx
  ·obtain ⟨y,c,rfl⟩:=List.mem_map.1 hx
   have:=(f.src y c).2.2.2.1
   change y.gr<0 at h2
   omega
  ·obtain ⟨y,c,hx⟩:=List.mem_flatMap.1 hx
   obtain ⟨i,hi,rfl⟩:=List.mem_iff_getElem.1 c
   have a:=h i hi
   obtain ⟨⟨g,k1,k2,k3⟩,_⟩:=b i hi
   rw [OJ hi] at k1 k2 a
   obtain ⟨e1,e2,_⟩:=Na8 e k1
   rw [e1] at a
   unfold Xg at hx
   rw [e2] at hx
   simp only [Nu,On,or_false] at hx
   rcases hx with rfl | rfl
   ·rw [<-h1];exact a
   ·change (ld[i]).gr<0 at h2;omega
theorem Nvy (c:OC P L s to dl=0) (a:∀i,i<ld.length->okX (NP L to dl) ld i):QQ to dl (RA s++ld.flatMap (chR L))=Tt to dl s+SE (NP L to dl) to ld:=by
 have b:=RX c
 rw [Nn6 b a,Ug,Njs,Nju]
 intro x d
 obtain ⟨i,hi,rfl⟩:=List.mem_iff_getElem.1 d
 obtain ⟨⟨e,k1,_,_⟩,_⟩:=a i hi
 rw [OJ hi] at k1
 obtain ⟨_,e2,_,e4,_,_,e7⟩:=Na8 b k1
 rw [e2]
 exact ⟨e4,e7⟩
theorem Nxz (c:OC P L s to dl=0) (a:∀i,i<ld.length->okX (NP L to dl) ld i):∀x∈ld,(0<=x.gr/\x.gr<=1000000000)/\IntKind.i64.wrap (x.dep-(Wu L x.leg).cut)=x.dep-(Wu L x.leg).cut:=fun x f=>by
 have e:=RX c
 have b:=S9 c
 obtain ⟨i,hi,rfl⟩:=List.mem_iff_getElem.1 f
 obtain ⟨⟨j,k1,k2,k3⟩,_⟩:=a i hi
 rw [OJ hi] at k1 k2 k3
 obtain ⟨e1,_,e3,_,g,h,_⟩:=Na8 e k1
 have d:=b.net.fine _ e3
 unfold Fine at d
 have:=b.d1
 have mt:OP=1051898399:=rfl
 rw [e1]
 exact ⟨by omega,NY (by omega) (by omega)⟩
end
theorem Nye [OB] {lim c c4 i:Nat} {q p4:Option Addr} {O ld:List Flow.Ld} {v1 v2 v3 v5:Value} {G:NB} {fr:Nat->Value} {K:List AItem} {Q:Value->NB->Prop}
  (F:Sl G QI 4 q O) (u:Sl G QI 4 p4 ld) (hi:i<ld.length) (P:O.length<2 ^ 40) (N:lim<=G.length)
  (f1:fr 1=v1) (f2:fr 2=v2) (f3:fr 3=v3) (f5:fr 5=v5) (f4:fr 4=.slice p4 ld.length c4) (f12:fr 12=.slice q O.length c) (f13:fr 13=Vi i) (f14:fr 14=.bool false) (f15:fr 15=Vi 0)
  (L:∀fr' G',NZ G G'->fr' 1=v1->fr' 2=v2->fr' 3=v3->fr' 5=v5->fr' 4=.slice p4 ld.length c4->fr' 12=.slice q O.length c->fr' 13=Vi i->fr' 14=.bool (O.any fun y=>decide (YF y (gt ld i)))->PI E a30 lim K fr' (G'++[]) Q) :
  PI E a30 lim (.code (.loop Nu0)::.inBlock 2::K) fr G Q:=by
 refine NM (fun k:Nat=>O.length-k) (fun k f H=>k<=O.length/\f 1=v1/\f 2=v2/\f 3=v3/\f 5=v5/\f 4=.slice p4 ld.length c4/\f 12=.slice q O.length c/\f 13=Vi i/\f 15=Vi k/\f 14=.bool ((O.take k).any fun y=>decide (YF y (gt ld i)))/\NZ G H) 0 ⟨Nv _,f1,f2,f3,f5,f4,f12,f13,f15,f14,NZ.refl⟩ ?_
 rintro k f H ⟨R,q1,q2,q3,t,n,a,b,l,e,o⟩ v
 rw [NQ Nu0.eq_1]
 refine NI ?_
 have F:=o.sl F
 have u:=o.sl u
 have M:=o.len
 by_cases d:k<O.length
 case neg=>
  obtain rfl:k=O.length:=by omega
  rw [Of] at e
  simp only [n30,a,l,d,SB,seval,NJ,NF]
  exact L _ _ o q1 q2 q3 t n a b e
 have s:=fun X=>(F.app X).loadCells NU d
 have z:=QN F d rfl
 have l0:=fun X=>(u.app X).loadCell NU hi (j:=0) (by decide)
 rw [Su] at l0
 have l1:=fun X=>(u.app X).loadCell NU hi (j:=1) (by decide)
 rw [Sn] at l1
 have A:=fun X=>(u.app X).loadCell NU hi (j:=2) (by decide)
 rw [Tx] at A
 have D:=fun X=>(u.app X).loadCell NU hi (j:=3) (by decide)
 rw [Ue] at D
 have B:=QN u hi rfl
 have w:IntKind.i64.wrap ((k:Int)+1)=((k+1:Nat):Int):=NS (by omega)
 obtain ⟨x,I⟩:∃x,x=gt ld i:=⟨_,rfl⟩
 obtain ⟨y,J⟩:∃y,y=gt O k:=⟨_,rfl⟩
 rw [<-I] at l0 l1 A D
 rw [<-J] at s
 have g:((O.take (k+1)).any fun y=>decide (YF y (gt ld i)))=(((O.take k).any fun y=>decide (YF y (gt ld i)))||decide (YF y x)):=by
  rw [QH d,List.any_append,<-I,<-J];simp
 have m:lim<=H.length:=by omega
 cases hb:((O.take k).any fun y=>decide (YF y (gt ld i))) with
 | true=>
   rw [hb] at e g
   rw [Bool.true_or] at g
   simp only [n30,a,l,e,d,s,z,w,m,NU,NL,SB,seval,NJ,NF,place,NA]
   exact v (k+1) _ _ ⟨by omega,q1,q2,q3,t,n,a,b,rfl,by rw [g];exact rfl,o.app⟩ (by omega)
 | false=>
 rw [hb] at e g
 rw [Bool.false_or] at g
 by_cases r:y.leg=x.leg
 case neg=>
  rw [Nx fun h:YF y x=>r h.1] at g
  simp only [n30,n,a,b,l,e,d,s,z,l0,B,w,m,NU,Su,NL,Nn r,SB,seval,NJ,NF,place,NA]
  exact v (k+1) _ _ ⟨by omega,q1,q2,q3,t,n,a,b,rfl,by rw [g];exact rfl,o.app⟩ (by omega)
 by_cases h1:y.dep=x.dep
 case neg=>
  rw [Nx fun h:YF y x=>h1 h.2.1] at g
  simp only [n30,n,a,b,l,e,d,s,z,l0,l1,B,w,m,NU,Su,Sn,NL,Nq r,Nn h1,SB,seval,NJ,NF,place,NA]
  exact v (k+1) _ _ ⟨by omega,q1,q2,q3,t,n,a,b,rfl,by rw [g];exact rfl,o.app⟩ (by omega)
 by_cases h2:y.arr=x.arr
 case neg=>
  rw [Nx fun h:YF y x=>h2 h.2.2.1] at g
  simp only [n30,n,a,b,l,e,d,s,z,l0,l1,A,B,w,m,NU,Su,Sn,Tx,NL,Nq r,Nq h1,Nn h2,SB,seval,NJ,NF,place,NA]
  exact v (k+1) _ _ ⟨by omega,q1,q2,q3,t,n,a,b,rfl,by rw [g];exact rfl,o.app⟩ (by omega)
 by_cases C:1<=x.gr
 case neg=>
  rw [Nx fun h:YF y x=>C h.2.2.2.1] at g
  simp only [n30,n,a,b,l,e,d,s,z,l0,l1,A,D,B,w,m,NU,Su,Sn,Tx,NL,Nq r,Nq h1,Nq h2,Nn C,SB,seval,NJ,NF,place,NA]
  exact v (k+1) _ _ ⟨by omega,q1,q2,q3,t,n,a,b,rfl,by rw [g];exact rfl,o.app⟩ (by omega)
 by_cases p:x.gr<=y.gr
 case neg=>
  rw [Nx fun h:YF y x=>p h.2.2.2.2] at g
  simp only [n30,n,a,b,l,e,d,s,z,l0,l1,A,D,B,w,m,NU,Su,Sn,Tx,Ue,NL,Nq r,Nq h1,Nq h2,Nq C,Nn p,SB,seval,NJ,NF,place,NA]
  exact v (k+1) _ _ ⟨by omega,q1,q2,q3,t,n,a,b,rfl,by rw [g];exact rfl,o.app⟩ (by omega)
 rw [No (show YF y x from ⟨r,h1,h2,C,p⟩)] at g
 simp only [n30,n,a,b,l,e,d,s,z,l0,l1,A,D,B,w,m,NU,Su,Sn,Tx,Ue,NL,Nq r,Nq h1,Nq h2,Nq C,Nq p,SB,seval,NJ,NF,place,NA]
 exact v (k+1) _ _ ⟨by omega,q1,q2,q3,t,n,a,b,rfl,by rw [g];exact rfl,o.app⟩ (by omega)
theorem Npa [OB] {mp:Bool} {lim:Nat} {pp pl ps p4:Option Addr} {P:List Int} {L:List Leg} {s:List Flow.Src} {ld:List Flow.Ld} {cp cl cs c4:Nat} {to dl:Int} {H:NB} {Q:Value->NB->Prop} (hn:NetIn H pp pl P L) (hs:Sl H encS 3 ps s) (ag:s.length<2 ^ 63) (h4:Sl H QI 4 p4 ld) (ae:ld.length<=200) (R:QB P L=0->L.length<=8) :
  NR E mp lim 30 [.agg (QJ pp P.length cp pl L.length cl).toArray,.slice ps s.length cs,Vi to,Vi dl,.slice p4 ld.length c4] H Q=Q (.tuple #[Vi (Um P L s to dl ld).1,.bool (Um P L s to dl ld).2]) H:=by
 refine pc (by decide) e30 rfl rfl ?_
 rw [b30,c30]
 have ai:H.length<=H.length:=Ng _
 have T:=fun Z (mp:Bool) (lim:Nat) (Q:Value->NB->Prop)=>Vd (mp:=mp) (lim:=lim) (cp:=cp) (cl:=cl) (cs:=cs) (to:=to) (dl:=dl) (Q:=Q) (hn.app Z) (hs.app Z) ag
 by_cases v:OC P L s to dl=0
 case neg=>
  rw [VE fun h=>v h.1]
  simp only [n30,r30,OG,T,Nn v,SB,seval,NE,NJ,NF,NH,place,NA,NG]
 have J:=S9 v
 have hv:=RX v
 have ap:=J.ns
 simp only [n30,OG,T,Nq v,SB,seval,NE,NJ,NF,NH,place,NA]
 refine MV (hn.app _) J.net.fine (R hv) J.d0 J.d1 (by simp) fun G q c O hO hp aq hC=>?_
 have aj:=SC (to:=to) (dl:=dl) J.net.fine
 have ac:=hp.length_eq
 rw [Ou] at ac
 have ak:=R hv
 have bG:NC G H.length=Vc (QJ pp P.length cp pl L.length cl):=hC.cells NN (by simp)
 have B:Chg [] H G:=hC.pre
 have nG:=hn.ext B.ext
 have sG:=B.ext.sl hs
 have dG:=B.ext.sl h4
 have oG:=hO.sl NU
 have ao:=ND bG
 refine NI ?_
 simp only [n30,SB,seval,NJ]
 refine NM (fun i=>ld.length-i) (fun i fr G2=>i<=ld.length/\fr 1=.slice ps s.length cs/\fr 2=Vi to/\fr 3=Vi dl/\fr 4=.slice p4 ld.length c4/\fr 5=Vp H.length/\fr 12=.slice q O.length c/\fr 13=Vi i/\NZ G G2/\∀j,j<i->okR O ld j) 0
  ⟨Nv _,rfl,rfl,rfl,rfl,rfl,rfl,by rfl,NZ.refl.app,fun j hj=>by omega⟩ ?_
 intro i fr G2 ⟨hi,f1,f2,f3,f4,f5,f12,f13,N,n⟩ S
 rw [NQ N0k.eq_1]
 refine NI ?_
 have an:=N.len
 by_cases g:i<ld.length
 case pos=>
  have r:¬okR O ld i->Um P L s to dl ld=(0,false):=fun h=>VE fun V=>h ((Nm9 (Y4 hv) hp).2 (V.2.1 i g))
  simp only [n30,f4,f13,g,SB,seval,NJ,NF]
  refine Nye (O:=O) (ld:=ld) (i:=i) (q:=q) (c:=c) (p4:=p4) (c4:=c4) (v1:=.slice ps s.length cs) (v2:=Vi to) (v3:=Vi dl) (v5:=Vp H.length) ((N.sl oG).app _) ((N.sl dG).app _) g (by omega) (by simp;omega) f1 f2 f3 f5 f4 f12 f13 rfl rfl fun f M e F r2 r3 I r4 XD r13 o=>?_
  have A:NZ G M:=(N.app).trans e
  have l:=A.sl dG
  have z:IntKind.i64.wrap ((i:Int)+1)=((i+1:Nat):Int):=NS (by omega)
  cases hb:(O.any fun y=>decide (YF y (gt ld i))) with
  | false=>
    rw [r fun h=>by have:=h.1;rw [hb] at this;cases this]
    rw [hb] at o
    simp only [n30,r30,o,SB,seval,NJ,PW,NG]
  | true=>
  rw [hb] at o
  match i,hi,f13,n,S,g,r,hb,r13,z with
  | 0,hi,f13,n,S,g,r,hb,r13,z=>
    replace r13:f 13=Vi 0:=r13
    replace z:IntKind.i64.wrap 1=1:=by decide
    simp only [n30,r13,o,z,Qp,Nn (show ¬(0:Int)<0 by decide),SB,seval,NJ,NF,PW]
    exact S 1 _ _ ⟨by omega,F,r2,r3,r4,I,XD,rfl,A.app,fun j hj=>by
     rw [show j=0 by omega];exact ⟨hb,fun h=>by omega⟩⟩ (by omega)
  | k+1,hi,f13,n,S,g,r,hb,r13,z=>
    have D:(0:Int)<((k+1:Nat):Int):=by omega
    have wk:IntKind.i64.wrap (((k+1:Nat):Int)-1)=(k:Int):=by rw [show ((k+1:Nat):Int)-1=(k:Int) by omega];exact NY (by omega) (by omega)
    have lD:=fun X=>(l.app X).loadCells NU g
    have K:=fun (c:Nat) (kk:IntKind) (H1:NB)=>QN l g rfl c kk H1
    have lE:=fun X=>(l.app X).loadCells NU (show k<ld.length by omega)
    have xE:=QN l (show k<ld.length by omega) rfl
    obtain ⟨kk,ad⟩:∃kk:Int,kk=((k+1:Nat):Int):=⟨_,rfl⟩
    rw [<-ad] at D wk r13 z K
    have w:=fun (H:NB) (mp:Bool) (lim:Nat) (Q:Value->NB->Prop)=>Njx (a:=gt ld (k+1)) (b:=gt ld k) (mp:=mp) (lim:=lim) (H:=H) (Q:=Q)
    by_cases h1:RH (gt ld k) (gt ld (k+1))
    ·rw [No h1] at w
     simp only [n30,r4,r13,o,Nq D,wk,z,lD,K,lE,xE,w,SB,seval,NE,NJ,NF,PW]
     exact S (k+1+1) _ _ ⟨by omega,F,r2,r3,r4,I,XD,rfl,A.app,fun j hj=>by
      rcases (by omega:j<k+1\/j=k+1) with h | h
      ·exact n j h
      ·rw [h];exact ⟨hb,fun _=>h1⟩⟩ (by omega)
    ·rw [Nx h1] at w
     rw [r fun h=>h1 (h.2 (by omega))]
     simp only [n30,r30,r4,r13,o,Nq D,wk,lD,K,lE,xE,w,SB,seval,NE,NJ,NF,PW,NG]
 obtain rfl:i=ld.length:=by omega
 have C:∀i,i<ld.length->okX (NP L to dl) ld i:=fun i hi=>(Nm9 (Y4 hv) hp).1 (n i hi)
 have W:=Nvz v C
 have hw:=Nxz v C
 simp only [n30,f4,f13,g,SB,seval,NJ,NF]
 refine NM (fun i=>ld.length-i) (fun i f M=>i<=ld.length/\f 1=.slice ps s.length cs/\f 2=Vi to/\f 3=Vi dl/\f 4=.slice p4 ld.length c4/\f 5=Vp H.length/\f 17=Vi i/\NZ G M/\∀j,j<i->0<=QQ (Wu L (gt ld j).leg).frm ((gt ld j).dep-(Wu L (gt ld j).leg).cut) (RA s++ld.flatMap (chR L))) 0
  ⟨Nv _,f1,f2,f3,f4,f5,by rfl,N.app,fun j hj=>by omega⟩ ?_
 intro i f M ⟨am,F,r2,r3,r4,I,r17,e,t⟩ aa
 rw [NQ N0l.eq_1]
 refine NI ?_
 have ah:=e.len
 have bX:=fun X=>(e.app (X:=X)).cells bG
 have u:=fun X (mp:Bool) (lim:Nat) (p m:Int) (Q:Value->NB->Prop)=>Nxn (mp:=mp) (lim:=lim) (cp:=cp) (cl:=cl) (cs:=cs) (c4:=c4) (p:=p) (m:=m) (Q:=Q) ((nG.ext e).app X) ((e.sl sG).app X) ((e.sl dG).app X) (by omega) ae (fun x hx=>(J.src x hx).2.2.2) (fun x hx=>(hw x hx).1) (fun x hx=>(hw x hx).2)
 by_cases d:i<ld.length
 case neg=>
  obtain rfl:i=ld.length:=by omega
  have V:=W.2 t
  rw [Xt v V,<-Nvy v C]
  simp only [n30,r30,F,r2,r3,r4,I,r17,d,bX,OG,u,SB,seval,NE,NJ,NF,NG]
 have l:=e.sl dG
 have l0:=fun X=>(l.app X).loadCell NU d (j:=0) (by decide)
 rw [Su] at l0
 have l1:=fun X=>(l.app X).loadCell NU d (j:=1) (by decide)
 rw [Sn] at l1
 have K:=QN l d rfl
 have z:IntKind.i64.wrap ((i:Int)+1)=((i+1:Nat):Int):=NS (by omega)
 have ww:=(hw _ (PK d)).2
 have U:=fun X (mp:Bool) (lim:Nat) (Q:Value->NB->Prop)=>Nez (mp:=mp) (lim:=lim) (cp:=cp) (cl:=cl) (a:=(gt ld i).leg) (Q:=Q) ((nG.ext e).app X)
 have Y:H.length<=M.length:=by omega
 by_cases h1:QQ (Wu L (gt ld i).leg).frm ((gt ld i).dep-(Wu L (gt ld i).leg).cut) (RA s++ld.flatMap (chR L))<0
 ·rw [VE fun V=>by have:=W.1 V.2 i d;omega]
  simp only [n30,r30,F,r4,I,r17,d,bX,OG,NV,PY,Si,OH,u,l0,l1,K,ww,U,Y,NL,Nq h1,SB,seval,NE,NJ,NF,place,NA,NG]
 ·simp only [n30,F,r4,I,r17,d,bX,OG,NV,PY,Si,OH,u,l0,l1,K,z,ww,U,Y,NL,Nn h1,SB,seval,NE,NJ,NF,place,NA]
  exact aa (i+1) _ _ ⟨by omega,F,r2,r3,r4,I,rfl,e.app,fun j hj=>by
   rcases (by omega:j<i\/j=i) with h | h
   ·exact t j h
   ·rw [h];omega⟩ (by omega)
def tT9:ACode:=(Ds 0 [Gt 142 2 4,mT 143 1,mT 145 2,mT 146 3,mT 147 13,i 144 (.call .mk (.func 28) [(t 143)]),i 148 (.call .mk (.func 31) [(t 147)]),i 149 (.call .pure (.func 30) [(t 142),(t 144),(t 145),(t 146),(t 148)]),mT 141 149,Et 150 0 141,Et 151 1 141,mT 21 150,mT 22 151] (Oz [mT 152 12,Bc 153 .neq 152 0,mT 154 153,Pm 155 154 13,p 156 154 (.lenSlice (t 155)),p 157 154 (.bin .eql (t 156) (zT 0)),At 158 154 157,mT 159 158,Qm 160 159 12,q 161 159 (.bin .eql (t 160) (zT 0)),Qm 162 159 161,Pm 163 162 22,q 164 159 (.pick (t 162) (t 163) (k (.bool false))),Qm 165 159 164,Pm 166 165 21,Pm 167 165 11,Pb 168 165 .eql 166 167,q 169 159 (.pick (t 165) (t 168) (k (.bool false))),Ot 170 159 169,mT 8 170] .ret))
theorem N2x [OB] {pp pl ps pd:Option Addr} {P:List Int} {L:List Leg} {s:List Flow.Src} {ld:List Flow.Ld} {B4 cp cl cs cd:Nat} {to dl a f:Int} {lim:Nat} {G:NB} {fr:Nat->Value} (hn:NetIn G pp pl P L) (x:Sl G encS 3 ps s) (p:s.length<=60) (hd:Sl G QI 4 pd ld) (l:ld.length<=200) (j:QB P L=0->L.length<=8) (o:lim<=G.length) (w:NC G B4=Vc (QJ pp P.length cp pl L.length cl))
  (f1:fr 1=.slice ps s.length cs) (f2:fr 2=Vi to) (f3:fr 3=Vi dl) (f4:fr 4=Vp B4) (f11:fr 11=Vi a) (f12:fr 12=Vi f) (f13:fr 13=.slice pd ld.length cd)
  (h:(f≠0/\ld=[])\/(f=0/\Um P L s to dl ld=(a,true))) :
  PI E a9 lim [.code tT9] fr G fun v _=>v=.bool true:=by
 rw [NQ tT9.eq_1]
 have y:=fun Z=>(NZ.refl.app (X:=Z)).cells w
 refine NI ?_
 simp only [n9,f1,f2,f3,f4,y,OG,SB,seval,NE,NJ]
 refine M4 (x.app _) (by omega) (by simp) fun G1 p1 r g c=>?_
 have m:=c.len
 simp only [Nb,Nl,Oj] at m g
 have d:Chg [] G G1:=c.pre
 rw [WX]
 refine NI ?_
 simp only [n9,f13,SB,seval,NE]
 refine Nd2 ((d.ext.sl hd).app _) (by omega) (by simp) fun q p2 t k i=>?_
 have e:Chg [] G1 q:=i.pre
 have s2:=e.sl (g.sl OI) fun _ _ _=>by simp
 have u:=k.sl NU
 have n:=hn.ext (d.trans e).ext
 have b:=fun Z (mp:Bool) (lim:Nat) (Q:Value->NB->Prop)=>Npa (mp:=mp) (lim:=lim) (cp:=cp) (cl:=cl) (cs:=r) (c4:=t) (to:=to) (dl:=dl) (Q:=Q) (n.app Z) (s2.app Z) (by omega) (u.app Z) l j
 rw [WX]
 refine NI ?_
 rcases h with ⟨h1,h2⟩ | ⟨h1,h2⟩
 ·subst h2
  simp only [Nl] at b f13
  simp only [n9,r9,f12,f13,b,Nn h1,SB,seval,NE,NJ,NF,NG]
 ·rw [h2] at b
  subst h1
  simp only [n9,r9,f11,f12,b,SB,seval,NE,NJ,NF,NG]
theorem N5p [OB] {lim B14 d t u:Nat} {x y:Value} {q1 q2:Option Addr} {D:List Flow.Ld} {G:NB} {fr:Nat->Value} {v1 v2 v3 v4 v11 v12 v13:Value} {K:List AItem} {Q:Value->NB->Prop} (m:NC G B14=Vc [x,.slice q1 D.length t]) (n:NC G d=Vc [y,.slice q2 D.length u]) (s1:Sl G QI 4 q1 D) (s2:Sl G QI 4 q2 D) (hl:D.length<2 ^ 40) (s:lim<=G.length)
  (f1:fr 1=v1) (f2:fr 2=v2) (f3:fr 3=v3) (f4:fr 4=v4) (f11:fr 11=v11) (f12:fr 12=v12) (f13:fr 13=v13) (f14:fr 14=Vp B14) (f16:fr 16=Vp d) (f18:fr 18=Vi 0)
  (w:∀fr' G',fr' 1=v1->fr' 2=v2->fr' 3=v3->fr' 4=v4->fr' 11=v11->fr' 12=v12->fr' 13=v13->NZ G G'->PI E a9 lim K fr' G' Q) :
  PI E a9 lim (.code (.loop Nyc)::.inBlock 0::K) fr G Q:=by
 refine NM (fun j=>D.length-j) (fun j a G'=>j<=D.length/\a 1=v1/\a 2=v2/\a 3=v3/\a 4=v4/\a 11=v11/\a 12=v12/\a 13=v13/\a 14=Vp B14/\a 16=Vp d/\a 18=Vi j/\NZ G G') 0 ⟨Nv _,f1,f2,f3,f4,f11,f12,f13,f14,f16,f18,.refl⟩ ?_
 intro j a G' ⟨H,g1,p,q,r,f,g,h,i,e,k,c⟩ v
 rw [NQ Nyc.eq_1]
 have o:=fun Z=>(c.app (X:=Z)).cells m
 have l:=fun Z=>(c.app (X:=Z)).cells n
 have z:=c.len
 refine NI ?_
 by_cases b:j<D.length
 case neg=>
  obtain rfl:j=D.length:=by omega
  simp only [n9,e,k,l,SB,seval,NJ,NF]
  exact w _ _ g1 p q r f g h c.app
 have l1:∀Z,AM.loadCells (G'++Z) (SX q1 4 j) 4=some (QI (gt D j)):=fun Z=>((c.sl s1).app Z).loadCells NU b
 have A:∀Z,AM.loadCells (G'++Z) (SX q2 4 j) 4=some (QI (gt D j)):=fun Z=>((c.sl s2).app Z).loadCells NU b
 have C:=QN (c.sl s1) b rfl
 have F:=QN (c.sl s2) b rfl
 have B:IntKind.i64.wrap ((j:Int)+1)=((j+1:Nat):Int):=NS (by omega)
 simp only [n9,i,e,k,o,l,b,l1,A,C,F,QI,show lim<=G'.length by omega,show lim<=G'.length+1 by omega,B,SB,seval,NJ,NF,place,NA]
 exact v (j+1) _ _ ⟨by omega,g1,p,q,r,f,g,h,i,e,rfl,c.app⟩ (by omega)
theorem Nmn {b:Nat} {H0 G1:NB} {c:Blk} (h:NC H0 b=c):OA b [0] H0 G1=G1.set b c:=by
 subst h
 show G1.set (b+0) (NC H0 (b+0))=_
 rw [Oj]
theorem Npb [OB] {lim:Nat} {pn pl ps:Option Addr} {P:List Int} {L:List Leg} {s:List Flow.Src} {cn cl cs:Nat} {to dl:Int} {H:NB} {Q:Value->NB->Prop} (hn:NetIn H pn pl P L) (j:Sl H encS 3 ps s) (e:s.length<2 ^ 63) (d:QB P L=0->L.length<=8) (a:lim<=H.length)
  (f:∀G pt ct pd cd TL D,Own H.length G encI 1 pt ct TL->Own H.length G QI 4 pd cd D->(OC P L s to dl≠0->TL=[]/\D=[])->(OC P L s to dl=0->TL=Sm (VL s (NP L to dl) to dl) P/\D.Perm (TE (VL s (NP L to dl) to dl) (NP L to dl))/\D.Pairwise (fun x y=>¬RH y x))->Chg [] H G->Q (.tuple #[.agg #[.slice pt TL.length ct,.slice pd D.length cd],Vi (OC P L s to dl)]) G) :
  NR E false lim 29 [.agg (QJ pn P.length cn pl L.length cl).toArray,.slice ps s.length cs,Vi to,Vi dl] H Q:=by
 refine Nsx hn j e d a (fun G b c=>?_) fun G pt ct pd cd D b h1 h2 g i c=>?_
 ·exact f G none 0 none 0 [] [] .nil .nil (fun _=>⟨rfl,rfl⟩) (fun h=>absurd h b) c
 ·have:=f G pt ct pd cd _ D h1 h2 (fun h=>absurd b h) (fun _=>⟨rfl,g,i⟩) c
  rw [b,show (Sm (VL s (NP L to dl) to dl) P).length=P.length by unfold Sm;simp] at this
  exact this
def mT9:ACode:=(Ds 1 [Kt 65 (.loadN 2 (t 4)) [0],mT 66 1,mT 68 2,mT 69 3,Wt 16 (.alloc [Vz,Vz]) 0,Kt 67 (.call .mk (.func 28) [(t 66)]) [0],Kt 70 (.call .any (.func 29) [(t 65),(t 67),(t 68),(t 69)]) [0],mT 64 70,Et 71 0 64,Et 72 1 64,St 2 16 71,mT 17 72] (.seq (Oz [mT 73 10,mT 74 12,Bt 75 .neq 73 74,mT 76 75,Qm 77 76 15,Qm 78 76 12,Qb 79 76 .neq 77 78,Ot 80 76 79,mT 81 80,Qf 82 81 0 14,Ql 83 81 82,Qf 84 81 0 16,Ql 85 81 84,q 86 81 (.call .any (.func 24) [(t 83),(t 85)]),q 87 81 (.un .not (t 86)),Ot 88 81 87,mT 89 88,Qf 90 89 1 14,Ql 91 89 90,q 92 89 (.lenSlice (t 91)),Qf 93 89 1 16,Ql 94 89 93,q 95 89 (.lenSlice (t 94)),Qb 96 89 .neq 92 95,Ot 97 89 96] (.cond (t 97) (Oz [i 8 (.mov (k (.bool false)))] .ret) .skip)) (.seq (Oz [Zm 18 0] (Bl 0 Nyc)) tT9)))
theorem N3p [OB] {pp pl ps pd pt q1:Option Addr} {P TL:List Int} {L:List Leg} {s:List Flow.Src} {ld D1:List Flow.Ld} {B4 B14 cp cl cs cd ct c1:Nat} {to dl a:Int} {lim:Nat} {G:NB} {fr:Nat->Value} (hn:NetIn G pp pl P L) (hs:Sl G encS 3 ps s) (I:s.length<=60) (hd:Sl G QI 4 pd ld) (ak:ld.length<=200) (z:QB P L=0->L.length<=8) (H:lim<=G.length) (O:NC G B4=Vc (QJ pp P.length cp pl L.length cl))
  (f1:fr 1=.slice ps s.length cs) (f2:fr 2=Vi to) (f3:fr 3=Vi dl) (f4:fr 4=Vp B4) (f10:fr 10=Vi (OC P L s to dl)) (f11:fr 11=Vi a) (f12:fr 12=Vi (OC P L s to dl)) (f13:fr 13=.slice pd ld.length cd) (f14:fr 14=Vp B14) (f15:fr 15=Vi (OC P L s to dl))
  (k:NC G B14=Vc [.slice pt TL.length ct,.slice q1 D1.length c1]) (sT:Sl G encI 1 pt TL) (sD:Sl G QI 4 q1 D1) (an:TL.length<2 ^ 62) (ao:D1.length<2 ^ 40)
  (C:OC P L s to dl≠0->TL=[]/\D1=[]) (au:OC P L s to dl=0->TL=Sm (VL s (NP L to dl) to dl) P/\D1.Perm (TE (VL s (NP L to dl) to dl) (NP L to dl))/\D1.Pairwise (fun x y=>¬RH y x))
  (F:(OC P L s to dl≠0/\ld=[])\/(OC P L s to dl=0/\Um P L s to dl ld=(a,true))) :
  PI E a9 lim [.code mT9] fr G fun v _=>v=.bool true:=by
 rw [NQ mT9.eq_1]
 have k4:=fun Z=>(NZ.refl.app (X:=Z)).cells O
 have a6:=ND O
 have a2:=ND k
 refine NI ?_
 simp only [n9,f1,f2,f3,f4,k4,OG,SB,seval,NE,NJ,place]
 refine M4 (hs.app _) (by omega) (by simp) fun W p4 c4 h r=>?_
 have ap:=r.len
 simp only [Nb,Nj,Nl] at ap h
 have m:Chg [] G W:=r.pre
 have a1:=m.cells k (by simp)
 have a3:=m.cells O (by simp)
 obtain ⟨G5,e5,k5,m5⟩:=OO (G:=W) (R:=G.length) (by omega) (Vc [Vz,Vz])
 obtain ⟨G6,e6,k6,m6⟩:=OO (ND k5) .dead
 have a8:=m5.len
 have ba:=m6.len
 have w:Chg [] G G6:=(m.mut m5 (.inr (Ng _))).mut m6 (.inr (Ng _))
 have ai:=(h.mut m5 fun a d e=>by have:=(h.block d).1;omega).mut m6 fun a d e=>by have:=(h.block d).1;omega
 have u5:W.set G.length (Vc [Vz,Vz])=G5:=by have:=e5 [];rwa [Na,Na] at this
 rw [Nmn (b:=G.length) (c:=Vc [Vz,Vz]) NN,u5]
 refine NI ?_
 simp only [n9,e6,SB,seval,NE]
 refine Npb ((hn.ext w.ext).app _) ((ai.sl OI).app _) (by omega) z (by simp;omega) fun Y ay p aw aa o V j i aj am t=>?_
 have aq:=t.len
 simp only [Nb,Nl,Oj] at aq j i
 have ac:o=TL/\V=D1:=by
  by_cases d:OC P L s to dl=0
  ·obtain ⟨x1,x2,x3⟩:=au d
   obtain ⟨y1,N,y3⟩:=am d
   refine ⟨by rw [x1,y1],XN (N.trans x2.symm) y3 x3 fun x hx y hy=>?_⟩
   exact Nq5 (RX d) x (N.mem_iff.1 hx) y (N.mem_iff.1 hy)
  ·obtain ⟨x1,x2⟩:=C d
   obtain ⟨y1,N⟩:=aj d
   rw [x1,x2,y1,N];exact ⟨rfl,rfl⟩
 obtain ⟨rfl,rfl⟩:=ac
 have ah:Chg [] G Y:=w.trans (Chg.pre t)
 obtain ⟨G8,e8,k8,S⟩:=OO (G:=Y) (R:=G.length) (by omega) (Vc [Vz,Vz])
 obtain ⟨G9,e9,k9,T⟩:=OO (ND k8) (Vc [.slice ay o.length p,.slice aw V.length aa])
 have bb:=S.len
 have bc:=T.len
 have u8:Y.set G.length (Vc [Vz,Vz])=G8:=by have:=e8 [];rwa [Na,Na] at this
 have f:Chg [] G G9:=(ah.mut S (.inr (Ng _))).mut T (.inr (Ng _))
 have av:=fun Z=>(NZ.refl.app (X:=Z)).cells k8
 have M:=fun Z=>(NZ.refl.app (X:=Z)).cells k9
 have K:=fun Z=>(NZ.refl.app (X:=Z)).cells (f.cells k (by simp))
 have U:∀{α:Type} {q:Option Addr} {l:List α},∀a:Addr,q=some a->l≠[]->a.block∉([]:List Nat):=fun _ _ _=>by simp
 have a0:=f.sl sT U
 have az:=f.sl sD U
 have B:=(j.mut S fun a d e=>by have:=(j.block d).1;omega).mut T fun a d e=>by have:=(j.block d).1;omega
 have A:=(i.mut S fun a d e=>by have:=(i.block d).1;omega).mut T fun a d e=>by have:=(i.block d).1;omega
 have J:=fun Z (mp:Bool) (lim:Nat) (Q:Value->NB->Prop)=>XQ (mp:=mp) (lim:=lim) (ca:=ct) (cb:=p) (Q:=Q) (a0.app Z) ((B.sl OU).app Z) an
 simp only [decide_true] at J
 rw [Nmn (b:=G.length) (c:=Vc [Vz,Vz]) ((NZ.refl.app).cells k5),u8]
 refine NI ?_
 simp only [n9,av,e9,M,K,f10,f12,f14,f15,J,H,SB,seval,NE,NJ,NF,PW,NA]
 refine N5p (D:=V) (v1:=.slice ps s.length cs) (v2:=Vi to) (v3:=Vi dl) (v4:=Vp B4) (v11:=Vi a) (v12:=Vi (OC P L s to dl)) (v13:=.slice pd ld.length cd) (K _) (M _) (az.app _) ((A.sl NU).app _) ao (by simp;omega) f1 f2 f3 f4 f11 f12 f13 f14 rfl rfl fun a5 n g1 g2 g3 g4 ad ae ag hE=>?_
 have u:NZ G9 n:=NZ.trans (NZ.refl.app) hE
 have g:Chg [] G n:=f.trans u.chg
 exact N2x (hn.ext g.ext) (g.sl hs U) I (g.sl hd U) ak z (by have:=u.len;omega) (g.cells O (by simp)) g1 g2 g3 g4 ad ae ag F
theorem Tc [OB] {mp:Bool} {lim:Nat} {pp pl ps:Option Addr} {P:List Int} {L:List Leg} {s:List Flow.Src} {cp cl cs:Nat} {to dl:Int} {H:NB} {Q:Value->NB->Prop} (hn:NetIn H pp pl P L) (p:Sl H encS 3 ps s) (r:s.length<=60) (j:QB P L=0->L.length<=8) :
  NR E mp lim 9 [.agg (QJ pp P.length cp pl L.length cl).toArray,.slice ps s.length cs,Vi to,Vi dl] H Q=Q (.bool true) H:=by
 refine pc (by decide) e9 rfl rfl ?_
 rw [b9,c9,<-tT9.eq_1,<-mT9.eq_1]
 have aa:H.length<=H.length:=Ng _
 have m:s.length<2 ^ 63:=by omega
 have S:=fun Z (mp:Bool) (lim:Nat) (Q:Value->NB->Prop)=>Nnc (mp:=mp) (lim:=lim) (cp:=cp) (cl:=cl) (cs:=cs) (to:=to) (dl:=dl) (Q:=Q) (hn.app Z) (p.app Z) m j
 have nh:∀{α:Type} {q:Option Addr} {l:List α},∀a:Addr,q=some a->l≠[]->a.block∉([]:List Nat):=fun _ _ _=>by simp
 simp only [n9,OG,S,SB,seval,NE,NJ,NH,place,NA]
 refine M4 (p.app _) (by omega) (by simp) fun G1 p1 c1 K t=>?_
 have O:=t.len
 simp only [Nb,Nj,Nl] at O
 have h4:NC G1 H.length=Vc (QJ pp P.length cp pl L.length cl):=t.cells NN (by simp)
 have o:Chg [] H G1:=t.pre
 have W:=hn.ext o.ext
 have U:=fun Z (mp:Bool) (lim:Nat) (Q:Value->NB->Prop)=>Nss (mp:=mp) (lim:=lim) (cn:=cp) (cl:=cl) (cs:=c1) (to:=to) (dl:=dl) (Q:=Q) (W.app Z) ((K.sl OI).app Z) m j
 have V:=fun Z=>(NZ.refl.app (X:=Z)).cells h4
 rw [WX]
 refine NI ?_
 simp only [n9,OG,U,V,SB,seval,NE,NJ,NF,NH]
 have I:=o.ext.sl p
 by_cases d:OC P L s to dl=0
 case neg=>
  refine Ns1 (W.app _) (I.app _) m (by simp;omega) d fun J e=>?_
  have v:=e.len
  simp only [Nb,Nl,Oj] at v
  have f:Chg [] H J:=o.trans e.pre
  have n:=fun Z=>(NZ.refl.app (X:=Z)).cells (e.cells (V []) (by simp))
  refine NI ?_
  simp only [n9,OG,n,SB,seval,NE,NJ,NH]
  refine Nw1 ((hn.ext f.ext).app _) ((f.ext.sl p).app _) m (by simp;omega) d fun y b=>?_
  have w:=b.len
  simp only [Nb,Nl,Oj] at w
  have k:Chg [] H y:=f.trans b.pre
  have x:=fun Z=>(NZ.refl.app (X:=Z)).cells (b.cells (n []) (by simp))
  refine NI ?_
  simp only [n9,show H.length<=y.length by omega,SB,seval,NJ,place,NA]
  exact N3p (pd:=none) (ld:=[]) (cd:=0) (pt:=none) (TL:=[]) (D1:=[]) ((hn.ext k.ext).app _) ((k.ext.sl p).app _) r ((Own.nil (lim:=0)).sl NU) (by simp) j (by simp;omega) (x _) rfl rfl rfl rfl rfl rfl rfl rfl rfl rfl NN ((Own.nil (lim:=0)).sl OU) ((Own.nil (lim:=0)).sl NU) (by simp) (by simp) (fun _=>⟨rfl,rfl⟩) (fun h=>absurd h d) (.inl ⟨d,rfl⟩)
 have z:=j (RX d)
 have u:=Nze hn p m j d
 have R:Nab P L s to dl=Wd s (NP L to dl) to dl:=Nk d
 have ad:=(UX (RX d)).1
 refine Nm4 (W.app _) (I.app _) z (by simp;omega) d fun J q2 c2 SD SL l A g F M e=>?_
 have v:=e.len
 simp only [Nb,Nl,Oj] at v A
 have f:Chg [] H J:=o.trans e.pre
 have n:=fun Z=>(NZ.refl.app (X:=Z)).cells (e.cells (V []) (by simp))
 refine NI ?_
 simp only [n9,OG,n,SB,seval,NE,NJ,NH]
 refine bind_ok ((hn.ext f.ext).app _) ((f.ext.sl p).app _) z (by omega) (by simp;omega) d fun y pt ct q c Y D B i G b=>?_
 have w:=b.len
 simp only [Nb,Nl,Oj] at w D B
 have k:Chg [] H y:=f.trans b.pre
 have x:=fun Z=>(NZ.refl.app (X:=Z)).cells (b.cells (n []) (by simp))
 refine NI ?_
 simp only [n9,show H.length<=y.length by omega,SB,seval,NJ,place,NA]
 have ac:=SC (to:=to) (dl:=dl) (S9 d).net.fine
 have ag:SD.length<=112:=by
  have:=Yz (C:=NP L to dl) (l:=l.drop (PG SL 2++Sj SL to dl s).length)
  rw [g.length_eq];omega
 have ae:Y.length<=112:=by
  have:=Ncz (T:=VL s (NP L to dl) to dl) (C:=NP L to dl)
  rw [i.length_eq];omega
 have N:(Sm (VL s (NP L to dl) to dl) P).length=P.length:=by unfold Sm;simp
 exact N3p (pd:=q2) (ld:=SD) (cd:=c2) (pt:=pt) (TL:=Sm (VL s (NP L to dl) to dl) P) (D1:=Y) (a:=Nab P L s to dl) ((hn.ext k.ext).app _) ((k.ext.sl p).app _) r ((b.sl ((A.sl NU).app _) nh).app _) (by omega) j (by simp;omega) (x _) rfl rfl rfl rfl (by rw [d];exact rfl) rfl rfl rfl rfl (by rw [d];exact rfl) (by rw [N];exact NN) ((D.sl OU).app _) ((B.sl NU).app _) (by omega) (by omega) (fun h=>absurd d h) (fun _=>⟨rfl,i,G⟩) (.inr ⟨d,by rw [R];exact (Nkq d u g F M).1⟩)
theorem Nmp [OB] {lim:Nat} {H:NB} {Q:Value->NB->Prop} (a:lim<=H.length) (i:∀H' x y,NZ H H'->H.length<=x->H.length<=y->x≠y->NC H' x=Vc (P2.flatMap encI)->NC H' y=Vc (L2.flatMap QO)->Q (.agg (QJ (Sa x) P2.length 2 (Sa y) L2.length 1).toArray) H'):NR E false lim 20 [] H Q:=by
 refine Te (by decide) e20 rfl ?_
 rw [b20,c20]
 simp only [n20,r20,a,SB,seval,NE,NJ,NF,PW,reduceCtorEq,NH,place,NA,NG]
 refine Ncx (by simp;omega) fun Z=>?_
 obtain ⟨G,b⟩:∃G,G=H++[Vc [Vz,Vz],Vc [Vi 1,Vi 2]]++Z:=⟨_,rfl⟩
 have g:NC G H.length=Vc [Vz,Vz]:=by rw [b,Nr];exact NN
 have b1:NC G (H.length+1)=Vc [Vi 1,Vi 2]:=by rw [b,Nr];exact OL
 have h:NZ H G:=by rw [b,Nr];exact NZ.refl.app
 have hl:=ND b1
 rw [<-b]
 clear b
 obtain ⟨j,e2,k2,f⟩:=OO (ND g) (Vc [.slice (Sa (H.length+1)) 2 2,.slice (Sa G.length) 1 1])
 have c:=fun Z=>(NZ.refl.app (X:=Z)).cells g
 have e:=fun Z=>(NZ.refl.app (X:=Z)).cells k2
 refine NI ?_
 simp only [n20,r20,QO,NL,a,c,e2,e,SB,seval,NE,NJ,NF,PW,reduceCtorEq,NH,place,NA,NG]
 have d:=f.len
 exact i _ (H.length+1) G.length ((f.ext h (Ng _)).app) (by omega) (by omega) (by omega) (by rw [NK (by omega)];exact f.cells b1 (by omega)) (by rw [<-d,NN];rfl)
def A13:List Int:=[-1,0,659,660,20160,20759,20760,20761,20820,30000,1051898398,1051898399,1051898400]
def A9:List Int:=[-1,0,1,2,999999999,1000000000,1000000001,1051898399,1051898400]
theorem N2w:∀x∈A13,-1<=x/\x<=1051898400:=by decide
theorem N1o {a b:Int}:Sq true (Vi a) [Vi b]=some (Vi (max a b)):=by
 simp only [Sq,Xx]
 grind
section
variable {lim B1:Nat} {d:Int} {G:NB} {fr:Nat->Value} {K:List AItem} {Q:Value->NB->Prop}
theorem Nxe [OB] (q:lim<=G.length) (hd:-1<=d/\d<=1051898400) (s1:Sl G encS 3 (Sa B1) [⟨1,0,100000⟩]) (f1:fr 1=.slice (Sa B1) 1 1) (f3:fr 3=Vi d) (f4:fr 4=Vi 0)
  (t:∀fr' G',fr' 1=fr 1->fr' 14=fr 14->fr' 15=fr 15->fr' 16=fr 16->NZ G G'->PI E a12 lim K fr' G' Q) :
  PI E a12 lim (.code (.loop Nva)::.inBlock 2::K) fr G Q:=by
 refine NM (fun k=>4-k) (fun k c G'=>k<=4/\c 1=.slice (Sa B1) 1 1/\c 3=Vi d/\c 4=Vi k/\c 14=fr 14/\c 15=fr 15/\c 16=fr 16/\NZ G G') 0 ⟨Nv _,f1,f3,f4,rfl,rfl,rfl,.refl⟩ ?_
 intro k c G' ⟨F,q1,q3,m,i,j,l,n⟩ r
 rw [NQ Nva.eq_1]
 refine NI ?_
 have w:=n.len
 by_cases x:k<4
 case neg=>
  have e:¬(k:Int)<4:=by omega
  simp only [n12,XD,q1,q3,m,e,SB,seval,NE,NJ,NF,PW,reduceCtorEq,NH,place,NA,NG]
  exact t _ _ (by rw [f1];exact q1) i j l n.app
 have e:(k:Int)<4:=by omega
 have y:IntKind.i64.wrap ((k:Int)+1)=((k+1:Nat):Int):=NS (by omega)
 simp only [n12,XD,q1,q3,m,Nq e,SB,seval,NE,NJ,NF,PW,reduceCtorEq,NH,place,NA,NG]
 rw [Na]
 refine UH (by omega) fun G1 a b f o=>?_
 have u:=f.len
 have h:=fun Z (mp:Bool) (lim:Nat) (Q:Value->NB->Prop)=>Tc (mp:=mp) (lim:=lim) (cp:=2) (cl:=1) (cs:=1) (to:=k) (dl:=d) (Q:=Q) (o.app Z) (((n.trans f).sl s1).app Z) (by decide) fun _=>by decide
 simp only [show ([⟨1,0,100000⟩]:List Flow.Src).length=1 from rfl] at h
 refine NI ?_
 simp only [n12,XD,q1,q3,m,h,SB,seval,NE,NJ,NF,PW,reduceCtorEq,NH,place,NA,NG]
 refine UH (by simp;omega) fun B C D g p=>?_
 have v:=g.len
 refine NI ?_
 have z:IntKind.i64.wrap (d-900)=d-900:=NY (by omega) (by omega)
 have A:IntKind.i64.wrap (max 0 d+1)=max 0 d+1:=NY (by omega) (by omega)
 simp only [n12,XD,q1,q3,m,z,A,N1o,SB,seval,NE,NJ,NF,PW,reduceCtorEq,NH,place,NA,NG]
 refine Eq.mpr (Tc (s:=[⟨1,max 0 (d-900),150⟩,⟨2,max d 0,7⟩,⟨2,max 0 d+1,9⟩]) (cp:=2) (cl:=1) (cs:=3) (p.app _) (Sl.row (ro:=false) OI NN) (by simp) fun _=>by decide) ?_
 simp only [n12,XD,q1,q3,m,y,SB,seval,NE,NJ,NF,PW,reduceCtorEq,NH,place,NA,NG]
 exact r (k+1) _ _ ⟨by omega,q1,q3,rfl,i,j,l,(((n.trans f).app).trans g).app⟩ (by omega)
theorem Nzi [OB] {B14:Nat} (o:lim<=G.length) (s1:Sl G encS 3 (Sa B1) [⟨1,0,100000⟩]) (p:Sl G encI 1 (Sa B14) A13) (f1:fr 1=.slice (Sa B1) 1 1) (f14:fr 14=.slice (Sa B14) 13 13) (f15:fr 15=Vi 13) (f16:fr 16=Vi 0)
  (r:∀fr' G',fr' 1=fr 1->Sl G' encS 3 (Sa B1) [⟨1,0,100000⟩]->NZ G G'->PI E a12 lim K fr' G' Q) :
  PI E a12 lim (.code (.loop Nu9)::.inBlock 0::K) fr G Q:=by
 refine NM (fun k=>13-k) (fun k a G'=>k<=13/\a 1=.slice (Sa B1) 1 1/\a 14=.slice (Sa B14) 13 13/\a 15=Vi 13/\a 16=Vi k/\NZ G G') 0 ⟨Nv _,f1,f14,f15,f16,.refl⟩ ?_
 intro k a G' ⟨v,q1,c,d,g,e⟩ q
 rw [NQ Nu9.eq_1]
 refine NI ?_
 have s:=e.len
 by_cases f:k<13
 case neg=>
  have b:¬(k:Int)<13:=by omega
  simp only [n12,XD,q1,c,d,g,b,SB,seval,NE,NJ,NF,PW,reduceCtorEq,NH,place,NA,NG]
  exact r _ _ (by rw [f1];exact q1) ((e.sl s1).app _) e.app
 have b:(k:Int)<13:=by omega
 have t:IntKind.i64.wrap ((k:Int)+1)=((k+1:Nat):Int):=NS (by omega)
 have lT:=TT (e.sl p) (i:=k) f
 have xT:=V6 (e.sl p) (i:=k) (n:=13) f rfl
 simp only [n12,XD,q1,c,d,g,Nq b,lT,xT,SB,seval,NE,NJ,NF,PW,reduceCtorEq,NH,place,NA,NG]
 refine Nxe (by simp;omega) (N2w _ (PK f)) ((e.sl s1).app _) q1 rfl rfl fun fr' u g1 h j l m=>?_
 refine NI ?_
 simp only [n12,XD,g1,h,j,l,q1,c,d,g,t,SB,seval,NE,NJ,NF,PW,reduceCtorEq,NH,place,NA,NG]
 exact q (k+1) _ _ ⟨by omega,(by simp only [g1,q1,FB,Nat.reduceEqDiff]),(by simp only [h,c,FB,Nat.reduceEqDiff]),(by simp only [j,d,FB,Nat.reduceEqDiff]),rfl,((e.app).trans m).app⟩ (by omega)
theorem Np9 [OB] {B50:Nat} (y:lim<=G.length) (z:Sl G encI 1 (Sa B50) A9) (p:fr 50=.slice (Sa B50) 9 9) (q:fr 51=Vi 9) (r:fr 52=Vi 0)
  (B:∀fr' G',fr' 1=fr 1->NZ G G'->PI E a12 lim K fr' G' Q) :
  PI E a12 lim (.code (.loop Nvb)::.inBlock 4::K) fr G Q:=by
 refine NM (fun k=>9-k) (fun k f G'=>k<=9/\f 1=fr 1/\f 50=.slice (Sa B50) 9 9/\f 51=Vi 9/\f 52=Vi k/\NZ G G') 0 ⟨Nv _,rfl,p,q,r,.refl⟩ ?_
 intro k f G' ⟨R,q1,c,d,e,h⟩ A
 rw [NQ Nvb.eq_1]
 refine NI ?_
 have F:=h.len
 by_cases o:k<9
 case neg=>
  have g:¬(k:Int)<9:=by omega
  simp only [n12,XD,c,d,e,g,SB,seval,NE,NJ,NF,PW,reduceCtorEq,NH,place,NA,NG]
  exact B _ _ q1 h.app
 have g:(k:Int)<9:=by omega
 have I:IntKind.i64.wrap ((k:Int)+1)=((k+1:Nat):Int):=NS (by omega)
 have lT:=TT (h.sl z) (i:=k) o
 have xT:=V6 (h.sl z) (i:=k) (n:=9) o rfl
 have H:0+(gt A9 k)=gt A9 k:=Qp _
 generalize gt A9 k=x at lT H
 simp only [n12,XD,c,d,e,Nq g,lT,xT,SB,seval,NE,NJ,NF,PW,reduceCtorEq,NH,place,NA,NG]
 rw [Na]
 refine UH (by omega) fun G1 a b j u=>?_
 have C:=j.len
 refine NI ?_
 simp only [n12,XD,c,d,e,SB,seval,NE,NJ,NF,PW,reduceCtorEq,NH,place,NA,NG]
 refine Eq.mpr (Tc (s:=[⟨x,0,1⟩]) (cp:=2) (cl:=1) (cs:=1) (u.app _) (Sl.row (ro:=false) OI NN) (by simp) fun _=>by decide) ?_
 simp only [n12,XD,c,d,e,SB,seval,NE,NJ,NF,PW,reduceCtorEq,NH,place,NA,NG]
 refine UH (by simp;omega) fun J M O l v=>?_
 have t:=l.len
 simp only [Nb,Nj,Nl] at t
 refine NI ?_
 simp only [n12,XD,c,d,e,SB,seval,NE,NJ,NF,PW,reduceCtorEq,NH,place,NA,NG]
 refine Eq.mpr (Tc (s:=[⟨1,x,1⟩]) (cp:=2) (cl:=1) (cs:=1) (v.app _) (Sl.row (ro:=false) OI NN) (by simp) fun _=>by decide) ?_
 simp only [n12,XD,c,d,e,SB,seval,NE,NJ,NF,PW,reduceCtorEq,NH,place,NA,NG]
 refine UH (by simp;omega) fun L N P m w=>?_
 have D:=m.len
 refine NI ?_
 simp only [n12,XD,c,d,e,SB,seval,NE,NJ,NF,PW,reduceCtorEq,NH,place,NA,NG]
 refine Eq.mpr (Tc (s:=[⟨1,0,x⟩]) (cp:=2) (cl:=1) (cs:=1) (w.app _) (Sl.row (ro:=false) OI NN) (by simp) fun _=>by decide) ?_
 simp only [n12,XD,c,d,e,I,SB,seval,NE,NJ,NF,PW,reduceCtorEq,NH,place,NA,NG]
 exact A (k+1) _ _ ⟨by omega,q1,c,d,rfl,(((((h.trans j).app).trans l).app).trans m).app⟩ (by omega)
def Nxi (k:Nat):Flow.Src:=⟨1+Int.tmod k 2,20*k,3⟩
def Nbv (k:Nat):List Flow.Src:=(List.range k).map Nxi
theorem UI {k:Nat}:(Nbv k).length=k:=by simp [Nbv]
theorem Nkc {k:Nat}:Nbv (k+1)=Nbv k++[Nxi k]:=by simp [Nbv,Ra]
theorem Nqd [OB] {m:Nat} (d:lim<=G.length) (y:m<=60) (f7:fr 7=Vi m) (f8:fr 8=Vz) (f9:fr 9=Vi 0)
  (r:∀fr' G' p c,fr' 1=fr 1->fr' 7=fr 7->fr' 8=.slice p m c->Sl G' encS 3 p (Nbv m)->NZ G G'->PI E a12 lim K fr' G' Q) :
  PI E a12 lim (.code (.loop Nvd)::.inBlock 8::K) fr G Q:=by
 refine NM (fun k=>m-k) (fun k a G'=>k<=m/\a 1=fr 1/\a 7=Vi m/\a 9=Vi k/\NZ G G'/\∃p c,a 8=.slice p k c/\Own G.length G' encS 3 p c (Nbv k)) 0 ⟨Nv _,rfl,f7,f9,.refl,none,0,f8,Own.nil⟩ ?_
 intro k a G' ⟨x,q1,f,l,h,p,c,j,n⟩ q
 rw [NQ Nvd.eq_1]
 refine NI ?_
 have i:=h.len
 by_cases e:k<m
 case neg=>
  obtain rfl:k=m:=by omega
  simp only [n12,XD,f,j,l,e,SB,seval,NE,NJ,NF,PW,reduceCtorEq,NH,place,NA,NG]
  exact r _ _ p c q1 (by rw [f7];exact f) j ((n.sl OI).app _) h.app
 have o:IntKind.i64.wrap ((k:Int)+1)=((k+1:Nat):Int):=NS (by omega)
 have u:IntKind.i64.wrap (20*(k:Int))=20*(k:Int):=NY (by omega) (by omega)
 have s:Int.tmod (k:Int) 2=((k % 2:Nat):Int):=rfl
 have v:IntKind.i64.wrap (1+Int.tmod (k:Int) 2)=1+Int.tmod (k:Int) 2:=NY (by omega) (by omega)
 simp only [n12,XD,f,j,l,e,o,u,v,SB,seval,NE,NJ,NF,PW,reduceCtorEq,NH,place,NA,NG]
 obtain ⟨w,e2,b,g,_,t,_⟩:=n.step (lim':=lim) (bytes:=24) d OI (by decide) (Nxi k) (by unfold PM;rw [UI];omega) (by rw [UI];omega) i [Vc (encS (Nxi k))] G'.length 1 NN
 rw [UI] at e2
 have e3:OW lim none 3 24 false (.slice p k c) (.slice (Sa G'.length) 1 1) (G'++[Vc [Vi (1+Int.tmod k 2),Vi (20*k),Vi 3]])=_:=e2
 rw [e3,Nh7]
 simp only [n12,XD,f,l,o,SB,seval,NE,NJ,NF,PW,reduceCtorEq,NH,place,NA,NG]
 rw [<-Nkc] at b
 exact q (k+1) _ _ ⟨by omega,q1,f,rfl,(g [] G (Ng _) h.chg).ext,_,_,rfl,b⟩ (by omega)
theorem N1l [OB] (u:lim<=G.length) (f7:fr 7=Vi 48)
  (w:∀fr' G',fr' 1=fr 1->NZ G G'->PI E a12 lim K fr' G' Q) :
  PI E a12 lim (.code (.loop Nvc)::.inBlock 6::K) fr G Q:=by
 refine NM (fun m=>53-m) (fun m e G'=>m<=53/\e 1=fr 1/\e 7=Vi m/\NZ G G') 48 ⟨by decide,rfl,f7,.refl⟩ ?_
 intro m e G' ⟨F,q1,g,o⟩ v
 rw [NQ Nvc.eq_1]
 refine NI ?_
 have x:=o.len
 by_cases y:m<53
 case neg=>
  have d:¬(m:Int)<53:=by omega
  simp only [n12,XD,g,d,SB,seval,NE,NJ,NF,PW,reduceCtorEq,NH,place,NA,NG]
  exact w _ _ q1 o.app
 have d:(m:Int)<53:=by omega
 have A:IntKind.i64.wrap ((m:Int)+1)=((m+1:Nat):Int):=NS (by omega)
 simp only [n12,XD,g,Nq d,SB,seval,NE,NJ,NF,PW,reduceCtorEq,NH,place,NA,NG]
 refine Nqd (m:=m) (by simp;omega) (by omega) g rfl rfl fun fr' G0 p c g1 l n z h=>?_
 have q:=h.len
 simp only [Nb,Nj,Nl] at q
 refine NI ?_
 simp only [n12,XD,g1,l,n,q1,g,SB,seval,NE,NJ,NF,PW,reduceCtorEq,NH,place,NA,NG]
 refine UH (by simp;omega) fun G1 a b f s=>?_
 have r:=f.len
 simp only [Nb,Nj,Nl] at r
 have s1:=f.sl (z.app _)
 have k:=fun Z (mp:Bool) (lim:Nat) (Q:Value->NB->Prop)=>Tc (mp:=mp) (lim:=lim) (cp:=2) (cl:=1) (cs:=c) (to:=2) (dl:=660) (Q:=Q) (s.app Z) (s1.app Z) (by rw [UI];omega) fun _=>by decide
 rw [UI] at k
 refine NI ?_
 simp only [n12,XD,g1,l,n,q1,g,k,SB,seval,NE,NJ,NF,PW,reduceCtorEq,NH,place,NA,NG]
 refine UH (by simp;omega) fun B C D i t=>?_
 have s2:=i.sl (s1.app _)
 have j:=fun Z (mp:Bool) (lim:Nat) (Q:Value->NB->Prop)=>Tc (mp:=mp) (lim:=lim) (cp:=2) (cl:=1) (cs:=c) (to:=3) (dl:=660) (Q:=Q) (t.app Z) (s2.app Z) (by rw [UI];omega) fun _=>by decide
 rw [UI] at j
 refine NI ?_
 simp only [n12,XD,g1,l,n,q1,g,j,A,SB,seval,NE,NJ,NF,PW,reduceCtorEq,NH,place,NA,NG]
 exact v (m+1) _ _ ⟨by omega,(by simp only [g1,q1,FB,Nat.reduceEqDiff]),rfl,(((((o.app).trans h).app).trans f).app).trans i |>.app⟩ (by omega)
end
def N2q:List Int:=[1,1]
def Nts:List Leg:=[⟨1,1,2,600,60,0,0,127⟩]
theorem Nyy [OB] {mp:Bool} {lim:Nat} {H:NB} {Q:Value->NB->Prop}:NR E mp lim 12 [] H Q=Q (.bool true) H:=by
 refine pc (by decide) e12 rfl rfl ?_
 rw [b12,c12]
 have q:H.length<=H.length:=Ng _
 simp only [n12,XD,SB,seval,NE,NJ,NF,PW,reduceCtorEq,NH,place,NA,NG]
 refine Nzi (B1:=H.length) (B14:=H.length+1) (by simp) (Sl.row (ro:=false) OI NN) (Sl.row (ro:=false) OU OL) rfl rfl rfl rfl fun fr1 G1 g1 s1 F=>?_
 have C:fr1 1=.slice (Sa H.length) 1 1:=by rw [g1];exact rfl
 have Y:=F.len
 simp only [Nb,Nj,Nl] at Y
 clear g1 F
 refine NI ?_
 simp only [n12,XD,C,SB,seval,NE,NJ,NF,PW,reduceCtorEq,NH,place,NA,NG]
 refine Np9 (B50:=G1.length) (by simp;omega) (Sl.row (ro:=false) OU NN) rfl rfl rfl fun V G2 g2 t=>?_
 have D:V 1=.slice (Sa H.length) 1 1:=by rw [g2];exact C
 have aa:=t.len
 simp only [Nb,Nj,Nl] at aa
 have s2:=t.sl (s1.app _)
 clear g2 t
 refine NI ?_
 simp only [n12,XD,D,SB,seval,NE,NJ,NF,PW,reduceCtorEq,NH,place,NA,NG]
 refine N1l (by simp;omega) rfl fun W G3 g3 u=>?_
 have d:W 1=.slice (Sa H.length) 1 1:=by rw [g3];exact D
 have ac:=u.len
 simp only [Nb,Nj,Nl] at ac
 have s3:=u.sl (s2.app _)
 clear g3 u
 refine NI ?_
 simp only [n12,XD,d,SB,seval,NE,NJ,NF,PW,reduceCtorEq,NH,place,NA,NG]
 refine Nmp (by simp;omega) fun v x y G ah aj ai hx hy=>?_
 have ad:=G.len
 simp only [Nb,Nj,Nl] at ad ah aj
 have s4:=G.sl (s3.app _)
 have kx:NC v x=Vc [Vi 1,Vi 2]:=hx
 obtain ⟨G5,e5,k5,m5⟩:=OO (ND kx) (Vc [Vi 1,Vi 1])
 have M:=fun Z=>(NZ.refl.app (X:=Z)).cells kx
 refine NI ?_
 have R:∀(c:Nat) (k:IntKind) (H1:NB),Vh 1 (.slice (Sa x) P2.length c) (.int k 1) H1=some (.pointer (some ⟨x,1,none⟩),H1):=fun c k H1=>V6 (i:=1) (Sl.row (ro:=false) OU hx) (by decide) rfl c k H1
 simp only [n12,XD,d,OG,QE,Sr,NL,q,M,e5,R,show H.length<=v.length by omega,show H.length<=x by omega,SB,seval,NE,NJ,NF,PW,reduceCtorEq,NH,place,NA,NG]
 have s5:=m5.sl s4 (by rintro a e -;cases e;show H.length≠x;omega)
 have ak:=m5.cells hy (Ne.symm ai)
 have ae:=m5.len
 obtain ⟨w,g⟩:∃w,w=G5++[Vc (QJ (Sa x) P2.length 2 (Sa y) L2.length 1)]:=⟨_,rfl⟩
 have t6:NC w v.length=Vc (QJ (Sa x) P2.length 2 (Sa y) L2.length 1):=by rw [g,<-ae];exact NN
 have s6:=s5.app [Vc (QJ (Sa x) P2.length 2 (Sa y) L2.length 1)]
 have n6:NetIn w (Sa x) (Sa y) N2q L2:=by
  rw [g]
  refine ⟨(Sl.row (ro:=false) OU k5).app _,(Sl.row (ro:=false) NV ak).app _,by decide,by decide, ?_⟩
  intro l hl
  simp only [L2,Nu,On,or_false] at hl
  subst hl
  unfold By;decide
 have aq:w.length=G5.length+1:=by rw [g];simp
 rw [<-g] at s6⊢
 clear g M R e5
 refine Nmp (by omega) fun S A f p aw am K J r=>?_
 have au:=p.len
 have s7:=p.sl s6
 have t7:=p.cells t6
 have n7:=n6.ext p
 have ky:NC S f=Vc [Vi 1,Vi 1,Vi 2,Vi 600,Vi 60,Vi 0,Vi 100,.int .u8 127]:=r
 obtain ⟨T,e8,k8,z⟩:=OO (ND ky) (Vc [Vi 1,Vi 1,Vi 2,Vi 600,Vi 60,Vi 0,Vi 0,.int .u8 127])
 have N:=fun Z=>(NZ.refl.app (X:=Z)).cells ky
 have R:∀(c:Nat) (k:IntKind) (H1:NB),Vh 8 (.slice (Sa f) L2.length c) (.int k 0) H1=some (Vp f,H1):=fun c k H1=>(Sl.row (ro:=false) NV r).idx (i:=0) (by decide)
 refine NI ?_
 simp only [n12,XD,d,OG,QE,Sr,NL,q,N,e8,R,show H.length<=S.length by omega,show H.length<=f by omega,SB,seval,NE,NJ,NF,PW,reduceCtorEq,NH,place,NA,NG]
 have ag:=z.len
 have ay:v.length<S.length:=by omega
 have az:w.length<=f:=am
 have s8:=z.sl s7 (by rintro a e -;cases e;show H.length≠f;omega)
 have t8:=z.cells t7 (j:=v.length) (by omega)
 have n8:NetIn T (Sa x) (Sa y) N2q L2:=
  ⟨z.sl n7.sp (by rintro a e -;cases e;show x≠f;have:=ND kx;omega),z.sl n7.sl (by rintro a e -;cases e;show y≠f;have:=ND hy;omega),n7.np,n7.nl,n7.bys⟩
 have an:NetIn T (Sa A) (Sa f) P2 Nts:=by
  refine ⟨Sl.row (ro:=false) OU (z.cells J K),Sl.row (ro:=false) NV k8,by decide,by decide, ?_⟩
  intro l hl
  simp only [Nts,Nu,On,or_false] at hl
  subst hl
  unfold By;decide
 obtain ⟨B,m⟩:∃B,B=T++[Vc (QJ (Sa A) P2.length 2 (Sa f) L2.length 1)]:=⟨_,rfl⟩
 have U:∀Z,NC (B++Z) S.length=Vc (QJ (Sa A) P2.length 2 (Sa f) L2.length 1):=fun Z=>by rw [m,<-ag];exact (NZ.refl.app).cells NN
 have t9:∀Z,NC (B++Z) v.length=Vc (QJ (Sa x) P2.length 2 (Sa y) L2.length 1):=fun Z=>by rw [m];exact (NZ.refl.app).cells ((NZ.refl.app).cells t8)
 have s9:=s8.app [Vc (QJ (Sa A) P2.length 2 (Sa f) L2.length 1)]
 have n9:=n8.app [Vc (QJ (Sa A) P2.length 2 (Sa f) L2.length 1)]
 have O:=an.app [Vc (QJ (Sa A) P2.length 2 (Sa f) L2.length 1)]
 have av:B.length=T.length+1:=by rw [m];simp
 rw [<-m] at s9 n9 O⊢
 clear m N R e8
 have n:=fun Z (mp:Bool) (lim:Nat) (Q:Value->NB->Prop)=>Tc (mp:=mp) (lim:=lim) (cp:=2) (cl:=1) (cs:=1) (to:=9) (dl:=-1) (Q:=Q) (n9.app Z) (s9.app Z) (by decide) fun _=>by decide
 have o:=fun Z (mp:Bool) (lim:Nat) (Q:Value->NB->Prop)=>Tc (mp:=mp) (lim:=lim) (cp:=2) (cl:=1) (cs:=1) (to:=2) (dl:=2100) (Q:=Q) (O.app Z) (s9.app Z) (by decide) fun _=>by decide
 simp only [show ([⟨1,0,100000⟩]:List Flow.Src).length=1 from rfl,show N2q.length=P2.length from rfl,show Nts.length=L2.length from rfl] at n o
 have t9:=t9 []
 have U:=U []
 have n:=n []
 have o:=o []
 rw [Na] at t9 U n o
 simp only [n12,XD,d,OG,QE,Sr,U,t9,n,o,SB,seval,NE,NJ,NF,PW,reduceCtorEq,NH,place,NA,NG]
 refine Eq.mpr (Tc (pp:=none) (pl:=none) (ps:=none) (P:=[]) (L:=[]) (s:=[]) (cp:=0) (cl:=0) (cs:=0) ⟨(Own.nil (lim:=0)).sl OU,(Own.nil (lim:=0)).sl NV,by decide,by decide,fun _ h=>by cases h⟩ ((Own.nil (lim:=0)).sl OI) (by decide) fun _=>by decide) ?_
 simp only [n12,XD,d,SB,seval,NE,NJ,NF,PW,reduceCtorEq,NH,place,NA,NG]
 refine UH (by omega) fun ap a b ao I=>?_
 refine NI ?_
 simp only [n12,XD,d,SB,seval,NE,NJ,NF,PW,reduceCtorEq,NH,place,NA,NG]
 refine Eq.mpr (Tc (ps:=none) (s:=[]) (cp:=2) (cl:=1) (cs:=0) (I.app _) ((Own.nil (lim:=0)).sl OI) (by decide) fun _=>by decide) ?_
 simp only [n12,XD,d,SB,seval,NE,NJ,NF,PW,reduceCtorEq,NH,place,NA,NG]
def A8:List Leg:=[⟨1,1,2,600,60,0,100,127⟩,⟨5,1,2,540,120,30,70,127⟩,⟨2,2,3,720,60,60,50,127⟩,⟨9,2,3,660,60,0,30,127⟩,⟨3,1,3,540,180,0,20,127⟩,⟨4,3,1,0,1440,1440,9,127⟩,⟨6,3,2,1439,1,0,40,127⟩,⟨7,2,1,100,3000,0,60,127⟩]
def S5:List Flow.Src:=[⟨1,0,250⟩,⟨2,650,60⟩,⟨1,580,40⟩,⟨3,700,5⟩,⟨1,2000,500⟩]
def P3:List Int:=[2,3,1]
def T4l:List Int:=[659,780,2100,3600]
theorem Uw [OB] {lim:Nat} {a b c d e f g:Int} {H:NB} {Q:Value->NB->Prop} (h:lim<=H.length) (i:∀H',H.length<=H'.length->Q (.agg (QO ⟨a,b,c,d,e,f,g,127⟩).toArray) H'):NR E false lim 11 [Vi a,Vi b,Vi c,Vi d,Vi e,Vi f,Vi g] H Q:=
 Ncx h fun Z=>i _ (by simp)
section
variable {lim B6 BT BS i j k:Nat} {pp pl:Option Addr} {L:List Leg} {G:NB} {fr:Nat->Value} {K:List AItem} {Q:Value->NB->Prop}
theorem Ny0 [OB] (hi:i<8) (hk:k<i) (hj:j<k) (C:lim<=G.length) (Y:Sl G encS 3 (Sa BS) S5) (P:NC G B6=Vc (QJ pp P3.length 3 pl L.length 3)) (hn:NetIn G pp pl P3 L) (B:L.length<=8) (I:Sl G encI 1 (Sa BT) T4l)
  (f2:fr 2=.slice (Sa BS) 5 5) (f3:fr 3=Vi i) (f4:fr 4=Vi k) (f5:fr 5=Vi j) (f6:fr 6=Vp B6) (r:fr 53=.slice (Sa BT) 4 4) (t:fr 54=Vi 4) (u:fr 55=Vi 0)
  (T:∀fr' G',fr' 1=fr 1->fr' 2=fr 2->fr' 3=fr 3->fr' 4=fr 4->fr' 5=fr 5->NZ G G'->PI E a4 lim K fr' G' Q) :
  PI E a4 lim (.code (.loop N1u)::.inBlock 6::K) fr G Q:=by
 refine NM (fun q=>4-q) (fun q a G'=>q<=4/\a 1=fr 1/\a 2=.slice (Sa BS) 5 5/\a 3=Vi i/\a 4=Vi k/\a 5=Vi j/\a 6=Vp B6/\a 53=.slice (Sa BT) 4 4/\a 54=Vi 4/\a 55=Vi q/\NZ G G') 0 ⟨Nv _,rfl,f2,f3,f4,f5,f6,r,t,u,.refl⟩ ?_
 intro q a G' ⟨hq,q1,q2,q3,z,A,F,h,m,o,e⟩ S
 rw [NQ N1u.eq_1]
 refine NI ?_
 have U:=e.len
 by_cases g:q<4
 case neg=>
  have b:¬(q:Int)<4:=by omega
  simp only [n4,r4,h,m,o,b,SB,seval,NE,NJ,NF,PW,reduceCtorEq,NH,place,NA,NG]
  exact T _ _ q1 (by rw [f2];exact q2) (by rw [f3];exact q3) (by rw [f4];exact z) (by rw [f5];exact A) e.app
 have b:(q:Int)<4:=by omega
 have w1:IntKind.i64.wrap ((q:Int)+1)=((q+1:Nat):Int):=NS (by omega)
 have lT:=TT (e.sl I) (i:=q) g
 have xT:=V6 (e.sl I) (i:=q) (n:=4) g rfl
 have hd:0<=gt T4l q/\gt T4l q<=3600:=(by decide:∀x∈T4l,0<=x/\x<=3600) _ (PK g)
 generalize gt T4l q=d at lT hd
 have D:=hn.ext e
 have H:=e.sl Y
 have e1:IntKind.i64.wrap ((i:Int)+(j:Int))=(i:Int)+(j:Int):=NY (by omega) (by omega)
 have e2:IntKind.i64.wrap ((i:Int)+(j:Int)+(k:Int))=(i:Int)+(j:Int)+(k:Int):=NY (by omega) (by omega)
 have e3:IntKind.i64.wrap ((i:Int)+(j:Int)+(k:Int)+d)=(i:Int)+(j:Int)+(k:Int)+d:=NY (by omega) (by omega)
 have y1:Int.tmod ((i:Int)+(j:Int)+(k:Int)+d) 5=((i:Int)+(j:Int)+(k:Int)+d) % 5:=Int.tmod_eq_emod_of_nonneg (by omega)
 have y2:Int.tmod ((i:Int)+(k:Int)) 3=((i:Int)+(k:Int)) % 3:=Int.tmod_eq_emod_of_nonneg (by omega)
 have y3:Int.tmod ((i:Int)+(j:Int)) 5=((i:Int)+(j:Int)) % 5:=Int.tmod_eq_emod_of_nonneg (by omega)
 have e4:IntKind.i64.wrap (1+Int.tmod ((i:Int)+(j:Int)+(k:Int)+d) 5)=1+Int.tmod ((i:Int)+(j:Int)+(k:Int)+d) 5:=NY (by omega) (by omega)
 have N:IntKind.i64.wrap ((i:Int)+(k:Int))=(i:Int)+(k:Int):=NY (by omega) (by omega)
 have O:IntKind.i64.wrap (1+Int.tmod ((i:Int)+(k:Int)) 3)=1+Int.tmod ((i:Int)+(k:Int)) 3:=NY (by omega) (by omega)
 obtain ⟨pA,J,lA,xA,V,w⟩:∃p c,∃l:List Flow.Src,Ua 3 (.slice (Sa BS) 5 5) none (some (Vi (1+Int.tmod ((i:Int)+(j:Int)+(k:Int)+d) 5))) none=some (.slice p l.length c)/\Sl G' encS 3 p l/\l.length<=60:=by
  obtain ⟨p,c,x,s,_,_,_⟩:=Yw (vlo:=none) (vhi:=some (Vi (1+Int.tmod ((i:Int)+(j:Int)+(k:Int)+d) 5))) (lo:=0) (hi:=(1+Int.tmod ((i:Int)+(j:Int)+(k:Int)+d) 5).toNat) (c:=5) H (.inr ⟨by decide,by decide⟩) OI (fun cap f=>by rw [Nmb (by omega) (by have:5<=cap:=f;omega)]) (Nv _) (by show _<=5;omega) (by decide)
  refine ⟨p,c,_, ?_,s, ?_⟩
  ·rw [Ps,N6,Pa (by show _<=5;omega)];exact x
  ·rw [Ps,N6,Pa (by show _<=5;omega)];omega
 obtain ⟨pB,M,lB,xB,W,y⟩:∃p c,∃l:List Flow.Src,Ua 3 (.slice (Sa BS) 5 5) (some (Vi (Int.tmod ((i:Int)+(j:Int)) 5))) none none=some (.slice p l.length c)/\Sl G' encS 3 p l/\l.length<=60:=by
  obtain ⟨p,c,x,s,_,_,_⟩:=Yw (vlo:=some (Vi (Int.tmod ((i:Int)+(j:Int)) 5))) (vhi:=none) (lo:=(Int.tmod ((i:Int)+(j:Int)) 5).toNat) (hi:=5) (c:=5) H (.inr ⟨by decide,by decide⟩) OI (fun cap f=>by rw [Nda (by omega) (by show _<=((5:Nat):Int);omega)];rfl) (by omega) (by decide) (by decide)
  refine ⟨p,c,_, ?_,s, ?_⟩
  ·rw [Ps,N6,Pa (by decide)];exact x
  ·rw [Ps,N6,Pa (by decide)];omega
 have v:=fun Z=>(e.app (X:=Z)).cells P
 have R:=fun Z (mp:Bool) (lim:Nat) (Q:Value->NB->Prop)=>Tc (mp:=mp) (lim:=lim) (cp:=3) (cl:=3) (cs:=J) (to:=1+Int.tmod ((i:Int)+(k:Int)) 3) (dl:=d) (Q:=Q) (D.app Z) (V.app Z) w fun _=>B
 have hB:=fun Z (mp:Bool) (lim:Nat) (Q:Value->NB->Prop)=>Tc (mp:=mp) (lim:=lim) (cp:=3) (cl:=3) (cs:=M) (to:=3) (dl:=d) (Q:=Q) (D.app Z) (W.app Z) y fun _=>B
 simp only [n4,r4,q2,q3,z,A,F,h,m,o,Nq b,lT,xT,e1,e2,e3,e4,N,O,v,OG,xA,xB,R,hB,w1,SB,seval,NE,NJ,NF,PW,reduceCtorEq,NH,place,NA,NG]
 exact S (q+1) _ _ ⟨by omega,q1,q2,q3,z,A,F,h,m,rfl,e.app⟩ (by omega)
end
section
variable {lim BA BS i k:Nat} {G:NB} {fr:Nat->Value} {K:List AItem} {Q:Value->NB->Prop}
theorem N1x [OB] (hi:i<8) (B:k<i) (r:lim<=G.length) (D:Sl G QO 8 (Sa BA) A8) (F:Sl G encS 3 (Sa BS) S5)
  (f1:fr 1=.slice (Sa BA) 8 8) (f2:fr 2=.slice (Sa BS) 5 5) (f3:fr 3=Vi i) (f4:fr 4=Vi k) (f5:fr 5=Vi 0)
  (A:∀fr' G',fr' 1=fr 1->fr' 2=fr 2->fr' 3=fr 3->fr' 4=fr 4->NZ G G'->PI E a4 lim K fr' G' Q) :
  PI E a4 lim (.code (.loop N1t)::.inBlock 4::K) fr G Q:=by
 refine NM (fun j=>k-j) (fun j a G'=>j<=k/\a 1=.slice (Sa BA) 8 8/\a 2=.slice (Sa BS) 5 5/\a 3=Vi i/\a 4=Vi k/\a 5=Vi j/\NZ G G') 0 ⟨Nv _,f1,f2,f3,f4,f5,.refl⟩ ?_
 intro j a G' ⟨O,q1,q2,q3,f,h,g⟩ z
 rw [NQ N1t.eq_1]
 refine NI ?_
 have C:=g.len
 by_cases e:j<k
 case neg=>
  simp only [n4,r4,f,h,e,SB,seval,NE,NJ,NF,PW,reduceCtorEq,NH,place,NA,NG]
  exact A _ _ (by rw [f1];exact q1) (by rw [f2];exact q2) (by rw [f3];exact q3) (by rw [f4];exact f) g.app
 have H:IntKind.i64.wrap ((j:Int)+1)=((j+1:Nat):Int):=NS (by omega)
 have b:=g.sl D
 have s:∀Z,AM.loadCells (G'++Z) (SX (Sa BA) 8 i) 8=some (QO (gt A8 i)):=fun Z=>(b.app Z).loadCells NV hi
 have u:∀Z,AM.loadCells (G'++Z) (SX (Sa BA) 8 k) 8=some (QO (gt A8 k)):=fun Z=>(b.app Z).loadCells NV (i:=k) (by show k<8;omega)
 have t:∀Z,AM.loadCells (G'++Z) (SX (Sa BA) 8 j) 8=some (QO (gt A8 j)):=fun Z=>(b.app Z).loadCells NV (i:=j) (by show j<8;omega)
 have I:∀(c:Nat) (kk:IntKind) (H1:NB),Vh 8 (.slice (Sa BA) 8 c) (.int kk (i:Int)) H1=some (.pointer (some (SX (Sa BA) 8 i)),H1):=fun c kk H1=>QN b hi rfl c kk H1
 have M:∀(c:Nat) (kk:IntKind) (H1:NB),Vh 8 (.slice (Sa BA) 8 c) (.int kk (k:Int)) H1=some (.pointer (some (SX (Sa BA) 8 k)),H1):=fun c kk H1=>QN b (i:=k) (by show k<8;omega) rfl c kk H1
 have J:∀(c:Nat) (kk:IntKind) (H1:NB),Vh 8 (.slice (Sa BA) 8 c) (.int kk (j:Int)) H1=some (.pointer (some (SX (Sa BA) 8 j)),H1):=fun c kk H1=>QN b (i:=j) (by show j<8;omega) rfl c kk H1
 have d:∀l∈A8,By l:=by
  intro l hl
  simp only [A8,Nu,On,or_false] at hl
  rcases hl with rfl | rfl | rfl | rfl | rfl | rfl | rfl | rfl<;>(unfold By;decide)
 have bi:=d _ (PK (l:=A8) (i:=i) hi)
 have n:=d _ (PK (l:=A8) (i:=k) (by show k<8;omega))
 have bj:=d _ (PK (l:=A8) (i:=j) (by show j<8;omega))
 generalize gt A8 i=w at s bi
 generalize gt A8 k=y at u n
 generalize gt A8 j=x at t bj
 simp only [n4,r4,q1,q2,q3,f,h,e,s,u,t,I,M,J,NL,QO,show lim<=G'.length by omega,SB,seval,NE,NJ,NF,PW,reduceCtorEq,NH,place,NA,NG]
 refine Ny0 (B6:=G'.length+2) (BT:=G'.length+3) (pp:=Sa G'.length) (pl:=Sa (G'.length+1)) (L:=[w,x,y]) hi B e (by simp;omega) ((g.sl F).app _) (OL (j:=2)) ⟨Sl.row (ro:=false) OU NN,Sl.row (ro:=false) NV OL,by decide,by simp, ?_⟩ (by simp) (Sl.row (ro:=false) OU (OL (j:=3))) q2 q3 f h rfl rfl rfl rfl fun fr' N g1 o p q v m=>?_
 ·intro l hl
  simp only [Nu,On,or_false] at hl
  rcases hl with rfl | rfl | rfl
  ·exact bi
  ·exact bj
  ·exact n
 refine NI ?_
 simp only [n4,r4,g1,o,p,q,v,q1,q2,q3,f,h,H,SB,seval,NE,NJ,NF,PW,reduceCtorEq,NH,place,NA,NG]
 exact z (j+1) _ _ ⟨by omega,(by simp only [g1,q1,FB,Nat.reduceEqDiff]),(by simp only [o,q2,FB,Nat.reduceEqDiff]),(by simp only [p,q3,FB,Nat.reduceEqDiff]),(by simp only [q,f,FB,Nat.reduceEqDiff]),rfl,((g.app).trans m).app⟩ (by omega)
theorem N1w [OB] (hi:i<8) (h:lim<=G.length) (o:Sl G QO 8 (Sa BA) A8) (p:Sl G encS 3 (Sa BS) S5)
  (f1:fr 1=.slice (Sa BA) 8 8) (f2:fr 2=.slice (Sa BS) 5 5) (f3:fr 3=Vi i) (f4:fr 4=Vi 0)
  (m:∀fr' G',fr' 1=fr 1->fr' 2=fr 2->fr' 3=fr 3->NZ G G'->PI E a4 lim K fr' G' Q) :
  PI E a4 lim (.code (.loop N1s)::.inBlock 2::K) fr G Q:=by
 refine NM (fun j=>i-j) (fun j a G'=>j<=i/\a 1=.slice (Sa BA) 8 8/\a 2=.slice (Sa BS) 5 5/\a 3=Vi i/\a 4=Vi j/\NZ G G') 0 ⟨Nv _,f1,f2,f3,f4,.refl⟩ ?_
 intro j a G' ⟨s,q1,q2,q3,d,c⟩ l
 rw [NQ N1s.eq_1]
 refine NI ?_
 have n:=c.len
 by_cases b:j<i
 case neg=>
  simp only [n4,r4,q3,d,b,SB,seval,NE,NJ,NF,PW,reduceCtorEq,NH,place,NA,NG]
  exact m _ _ (by rw [f1];exact q1) (by rw [f2];exact q2) (by rw [f3];exact q3) c.app
 have q:IntKind.i64.wrap ((j:Int)+1)=((j+1:Nat):Int):=NS (by omega)
 simp only [n4,r4,q1,q2,q3,d,b,SB,seval,NE,NJ,NF,PW,reduceCtorEq,NH,place,NA,NG]
 refine N1x hi b (by simp;omega) ((c.sl o).app _) ((c.sl p).app _) q1 q2 q3 d rfl fun fr' r g1 f g k e=>?_
 refine NI ?_
 simp only [n4,r4,g1,f,g,k,q1,q2,q3,d,q,SB,seval,NE,NJ,NF,PW,reduceCtorEq,NH,place,NA,NG]
 exact l (j+1) _ _ ⟨by omega,(by simp only [g1,q1,FB,Nat.reduceEqDiff]),(by simp only [f,q2,FB,Nat.reduceEqDiff]),(by simp only [g,q3,FB,Nat.reduceEqDiff]),rfl,((c.app).trans e).app⟩ (by omega)
theorem N1z [OB] (g:lim<=G.length) (m:Sl G QO 8 (Sa BA) A8) (n:Sl G encS 3 (Sa BS) S5)
  (f1:fr 1=.slice (Sa BA) 8 8) (f2:fr 2=.slice (Sa BS) 5 5) (f3:fr 3=Vi 0)
  (k:∀fr' G',NZ G G'->PI E a4 lim K fr' G' Q) :
  PI E a4 lim (.code (.loop N1r)::.inBlock 0::K) fr G Q:=by
 refine NM (fun j=>8-j) (fun j b G'=>j<=8/\b 1=.slice (Sa BA) 8 8/\b 2=.slice (Sa BS) 5 5/\b 3=Vi j/\NZ G G') 0 ⟨Nv _,f1,f2,f3,.refl⟩ ?_
 intro j b G' ⟨q,q1,q2,q3,c⟩ i
 rw [NQ N1r.eq_1]
 refine NI ?_
 have l:=c.len
 by_cases e:j<8
 case neg=>
  have a:¬(j:Int)<8:=by omega
  simp only [n4,r4,q3,a,SB,seval,NE,NJ,NF,PW,reduceCtorEq,NH,place,NA,NG]
  exact k _ _ c.app
 have a:(j:Int)<8:=by omega
 have o:IntKind.i64.wrap ((j:Int)+1)=((j+1:Nat):Int):=NS (by omega)
 simp only [n4,r4,q1,q2,q3,Nq a,SB,seval,NE,NJ,NF,PW,reduceCtorEq,NH,place,NA,NG]
 refine N1w e (by simp;omega) ((c.sl m).app _) ((c.sl n).app _) q1 q2 q3 rfl fun fr' p g1 f h d=>?_
 refine NI ?_
 simp only [n4,r4,g1,f,h,q1,q2,q3,o,SB,seval,NE,NJ,NF,PW,reduceCtorEq,NH,place,NA,NG]
 exact i (j+1) _ _ ⟨by omega,(by simp only [g1,q1,FB,Nat.reduceEqDiff]),(by simp only [f,q2,FB,Nat.reduceEqDiff]),rfl,((c.app).trans d).app⟩ (by omega)
end
theorem LoadSmall_ok [OB] {mp:Bool} {lim:Nat} {H:NB} {Q:Value->NB->Prop} (e:OB.on 7=true):NR E mp lim 4 [] H Q=Q (.bool true) H:=by
 refine pc (by decide) e4 rfl rfl ?_
 rw [b4,c4]
 have h:=Nmf e
 have he:=fun (mp:Bool) (lim:Nat) (H:NB) (Q:Value->NB->Prop)=>Nyy (mp:=mp) (lim:=lim) (H:=H) (Q:=Q)
 simp only [n4,r4,SB,seval,NE,NJ,NF,PW,reduceCtorEq,NH,place,NA,NG]
 refine Uw (by simp) fun G1 h1=>?_
 refine NI ?_
 simp only [n4,r4,SB,seval,NE,NJ,NF,PW,reduceCtorEq,NH,place,NA,NG]
 refine Uw (by simp at h1⊢;omega) fun k h2=>?_
 refine NI ?_
 simp only [n4,r4,SB,seval,NE,NJ,NF,PW,reduceCtorEq,NH,place,NA,NG]
 refine Uw (by simp at h1 h2⊢;omega) fun l a=>?_
 refine NI ?_
 simp only [n4,r4,SB,seval,NE,NJ,NF,PW,reduceCtorEq,NH,place,NA,NG]
 refine Uw (by simp at h1 h2 a⊢;omega) fun m b=>?_
 refine NI ?_
 simp only [n4,r4,SB,seval,NE,NJ,NF,PW,reduceCtorEq,NH,place,NA,NG]
 refine Uw (by simp at h1 h2 a b⊢;omega) fun n c=>?_
 refine NI ?_
 simp only [n4,r4,SB,seval,NE,NJ,NF,PW,reduceCtorEq,NH,place,NA,NG]
 refine Uw (by simp at h1 h2 a b c⊢;omega) fun o d=>?_
 refine NI ?_
 simp only [n4,r4,SB,seval,NE,NJ,NF,PW,reduceCtorEq,NH,place,NA,NG]
 refine Uw (by simp at h1 h2 a b c d⊢;omega) fun p g=>?_
 refine NI ?_
 simp only [n4,r4,SB,seval,NE,NJ,NF,PW,reduceCtorEq,NH,place,NA,NG]
 refine Uw (by simp at h1 h2 a b c d g⊢;omega) fun f i=>?_
 simp only [Nb,Nl,Oj] at h1 h2 a b c d g i
 refine NI ?_
 simp only [n4,r4,QO,SB,seval,NE,NJ,NF,PW,reduceCtorEq,NH,place,NA,NG]
 refine N1z (BA:=f.length) (BS:=f.length+1) (by simp;omega) (Sl.row (ro:=false) NV NN) (Sl.row (ro:=false) OI OL) rfl rfl rfl fun fr' q j=>?_
 refine NI ?_
 simp only [n4,r4,he,h,SB,seval,NE,NJ,NF,PW,reduceCtorEq,NH,place,NA,NG]
end Go.Proofs.YtohnaffmcjbpoaaGreat.Fn


